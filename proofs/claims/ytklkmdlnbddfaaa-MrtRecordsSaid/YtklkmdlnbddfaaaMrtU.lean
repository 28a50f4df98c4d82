/- The law MrtRecords: the walk. -/
import Derived.Test.YtklkmdlnbddfaaaMrtW
namespace Go.Proofs.Ytklkmdlnbddfaaa
set_option linter.unusedVariables false
set_option linter.unusedSimpArgs false
open Go.RowKit
attribute [local irreducible] HC HX HO Tri eP adr

def prvN (l : List RtS) (i : Nat) : Option RtS := match i with
  | 0 => none
  | k + 1 => l[k]?
theorem mdropN {l : List RtS} {i : Nat} {y : RtS} (h : l[i]? = some y) : l.drop i = y :: l.drop (i + 1) := by
  obtain ⟨hi, rfl⟩ := List.getElem?_eq_some_iff.1 h
  exact List.drop_eq_getElem_cons hi
theorem gs_step0 {l : List RtS} {y : RtS} (h : l[0]? = some y) : gsN (prvN l 0) (l.drop 0) = 1 + gsN (prvN l 1) (l.drop 1) := by
  rw [mdropN h]
  show 1 + gsN (some y) _ = 1 + gsN (l[0]?) _
  rw [h]
theorem gs_stepS {l : List RtS} {k : Nat} {x y : RtS} (hx : l[k]? = some x) (h : l[k + 1]? = some y) : gsN (prvN l (k + 1)) (l.drop (k + 1)) = (if sameP y x = true then 0 else 1) + gsN (prvN l (k + 1 + 1)) (l.drop (k + 1 + 1)) := by
  rw [mdropN h]
  show gsN (l[k]?) _ = _ + gsN (l[k + 1]?) _
  rw [hx, h]
  rfl
structure LwI where
  i : Nat
  want : Nat
set_option maxHeartbeats 64000000 in
set_option maxRecDepth 100000 in
theorem mlaw1_t (A : Option Addr) (c : Nat) (b : List UInt8) (hb : b.length ≤ c) (d : DuS) (hv : DuV d) :
    Tri Try.prog 12 [.slice A b.length c, .agg d.e.toArray] (arr bE 1 A b :: d.ro) [] (fun _ : Unit => True) (fun _ => .bool true) (fun _ => []) := by
  have hla := rlargeM_t d
  by_cases h1 : 3000 < b.length
  · refine Tri_of (N := Try.f12.ntmps) (c := bodyOf Try.f12) Try.func12 rfl rfl rfl rfl (fun w0 S0 => ?_)
    dsimp only [DuS.ro, DuS.e]
    repeat' (first | refine SW ?_ | refine SD ?_ | (refine HO_k 12 rfl ?_; refine HO_callq rfl rfl rfl rfl (mlives_t) (fun _ _ => rfl) (trivial) rfl rfl sqA ?_) | exact HO_seg rfl rfl | refine S1 ?_ | (refine S2 ?_; intro _) | (refine S3 ?_; intro _ _) | (refine S4 ?_; intro _ _ _) | (refine HO_g 2 rfl ?_; (first | apply HO_and rfl rfl rfl rfl rfl rfl rfl rfl rfl | apply HO_or rfl rfl rfl rfl rfl rfl rfl rfl rfl)) | refine S5 ?_ | (intro hb; try replace hb := simB hb; try exact kill hb))
    ((first | apply HX_ret | apply HX_retn); (repeat (first | exact Res_nil | apply Res_tmp rfl | apply Res_ce rfl rfl rfl)); unfold RetQ; refine ⟨(), trivial, ?_, Keeps.nil⟩)
    rfl
  cases hbig : bigM d
  rotate_left
  · rw [hbig] at hla
    refine Tri_of (N := Try.f12.ntmps) (c := bodyOf Try.f12) Try.func12 rfl rfl rfl rfl (fun w0 S0 => ?_)
    dsimp only [DuS.ro, DuS.e] at hla ⊢
    repeat' (first | refine SW ?_ | refine SD ?_ | (refine HO_k 12 rfl ?_; refine HO_callq rfl rfl rfl rfl (hla) (fun _ _ => rfl) (srcsA) rfl rfl sqA ?_) | (refine HO_k 12 rfl ?_; refine HO_callq rfl rfl rfl rfl (mlives_t) (fun _ _ => rfl) (trivial) rfl rfl sqA ?_) | exact HO_seg rfl rfl | refine S1 ?_ | (refine S2 ?_; intro _) | (refine S3 ?_; intro _ _) | (refine S4 ?_; intro _ _ _) | (refine HO_g 2 rfl ?_; (first | apply HO_and rfl rfl rfl rfl rfl rfl rfl rfl rfl | apply HO_or rfl rfl rfl rfl rfl rfl rfl rfl rfl)) | refine S5 ?_ | (intro hb; try replace hb := simB hb; try exact kill hb))
    ((first | apply HX_ret | apply HX_retn); (repeat (first | exact Res_nil | apply Res_tmp rfl | apply Res_ce rfl rfl rfl)); unfold RetQ; refine ⟨(), trivial, ?_, Keeps.nil⟩)
    rfl
  rw [hbig] at hla
  obtain ⟨hW, hn⟩ := hv.w hbig
  have hr1 := mrecs_t A c b (by omega)
  have hr2 := rrecs_t A c b hb (by omega)
  have hck := rcheckM_t d hW
  cases hk : chkM d
  · rw [hk] at hck
    cases hc : cntR 0 b with
    | none =>
      rw [hc] at hr1 hr2
      dsimp only [cntV] at hr1 hr2
      refine Tri_of (N := Try.f12.ntmps) (c := bodyOf Try.f12) Try.func12 rfl rfl rfl rfl (fun w0 S0 => ?_)
      dsimp only [DuS.ro, DuS.e] at hla hck ⊢
      repeat' (first | refine SW ?_ | refine SD ?_ | (refine HO_k 12 rfl ?_; refine HO_callq rfl rfl rfl rfl (hla) (fun _ _ => rfl) (srcsA) rfl rfl sqA ?_) | (refine HO_k 12 rfl ?_; refine HO_callq rfl rfl rfl rfl (mlives_t) (fun _ _ => rfl) (trivial) rfl rfl sqA ?_) | (refine HO_k 12 rfl ?_; refine HO_callq rfl rfl rfl rfl (hr1) (fun _ _ => rfl) (srcsA) rfl rfl sqA ?_) | (refine HO_k 12 rfl ?_; refine HO_callq rfl rfl rfl rfl (hr2) (fun _ _ => rfl) (srcsA) rfl rfl sqA ?_) | (refine HO_k 12 rfl ?_; refine HO_callq rfl rfl rfl rfl (hck) (fun _ _ => rfl) (srcsA) rfl rfl sqA ?_) | exact HO_seg rfl rfl | refine S1 ?_ | (refine S2 ?_; intro _) | (refine S3 ?_; intro _ _) | (refine S4 ?_; intro _ _ _) | (refine HO_g 2 rfl ?_; (first | apply HO_and rfl rfl rfl rfl rfl rfl rfl rfl rfl | apply HO_or rfl rfl rfl rfl rfl rfl rfl rfl rfl)) | refine S5 ?_ | (intro hb; try replace hb := simB hb; try exact kill hb))
      ((first | apply HX_ret | apply HX_retn); (repeat (first | exact Res_nil | apply Res_tmp rfl | apply Res_ce rfl rfl rfl)); unfold RetQ; refine ⟨(), trivial, ?_, Keeps.nil⟩)
      rfl
    | some n =>
      rw [hc] at hr1 hr2
      dsimp only [cntV] at hr1 hr2
      refine Tri_of (N := Try.f12.ntmps) (c := bodyOf Try.f12) Try.func12 rfl rfl rfl rfl (fun w0 S0 => ?_)
      dsimp only [DuS.ro, DuS.e] at hla hck ⊢
      repeat' (first | refine SW ?_ | refine SD ?_ | (refine HO_k 12 rfl ?_; refine HO_callq rfl rfl rfl rfl (hla) (fun _ _ => rfl) (srcsA) rfl rfl sqA ?_) | (refine HO_k 12 rfl ?_; refine HO_callq rfl rfl rfl rfl (mlives_t) (fun _ _ => rfl) (trivial) rfl rfl sqA ?_) | (refine HO_k 12 rfl ?_; refine HO_callq rfl rfl rfl rfl (hr1) (fun _ _ => rfl) (srcsA) rfl rfl sqA ?_) | (refine HO_k 12 rfl ?_; refine HO_callq rfl rfl rfl rfl (hr2) (fun _ _ => rfl) (srcsA) rfl rfl sqA ?_) | (refine HO_k 12 rfl ?_; refine HO_callq rfl rfl rfl rfl (hck) (fun _ _ => rfl) (srcsA) rfl rfl sqA ?_) | exact HO_seg rfl rfl | refine S1 ?_ | (refine S2 ?_; intro _) | (refine S3 ?_; intro _ _) | (refine S4 ?_; intro _ _ _) | (refine HO_g 2 rfl ?_; (first | apply HO_and rfl rfl rfl rfl rfl rfl rfl rfl rfl | apply HO_or rfl rfl rfl rfl rfl rfl rfl rfl rfl)) | refine S5 ?_ | (intro hb; try replace hb := simB hb; try exact kill hb))
      ((first | apply HX_ret | apply HX_retn); (repeat (first | exact Res_nil | apply Res_tmp rfl | apply Res_ce rfl rfl rfl)); unfold RetQ; refine ⟨(), trivial, ?_, Keeps.nil⟩)
      rfl
  rw [hk] at hck
  have hput := mput_t d hW hv.c hk
  have hpl := putD_len hW hk
  have hcp := cntR_put hW hk
  obtain ⟨pb, hpb⟩ : ∃ p, putD d = p := ⟨_, rfl⟩
  rw [hpb] at hput hpl hcp
  have hr3 := fun A c => mrecs_t A c pb (by omega)
  rw [hcp] at hr3
  have hgl := gsN_le d.routes none
  cases hc : cntR 0 b with
  | none =>
    rw [hc] at hr1 hr2
    dsimp only [cntV] at hr1 hr2 hr3
    refine Tri_of (N := Try.f12.ntmps) (c := bodyOf Try.f12) Try.func12 rfl rfl rfl rfl (fun w0 S0 => ?_)
    dsimp only [DuS.ro, DuS.e] at hla hck hput ⊢
    repeat' (first | refine SW ?_ | refine SD ?_ | (refine HO_k 12 rfl ?_; refine HO_callq rfl rfl rfl rfl (hla) (fun _ _ => rfl) (srcsA) rfl rfl sqA ?_) | (refine HO_k 12 rfl ?_; refine HO_callq rfl rfl rfl rfl (mlives_t) (fun _ _ => rfl) (trivial) rfl rfl sqA ?_) | (refine HO_k 12 rfl ?_; refine HO_callq rfl rfl rfl rfl (hr1) (fun _ _ => rfl) (srcsA) rfl rfl sqA ?_) | (refine HO_k 12 rfl ?_; refine HO_callq rfl rfl rfl rfl (hr2) (fun _ _ => rfl) (srcsA) rfl rfl sqA ?_) | (refine HO_k 12 rfl ?_; refine HO_callq rfl rfl rfl rfl (hck) (fun _ _ => rfl) (srcsA) rfl rfl sqA ?_) | (refine HO_k 12 rfl ?_; refine HO_call rfl rfl rfl rfl (hput) rfl (srcsA) rfl rfl soA ?_; intro ⟨x1, c1⟩ h9; dsimp only [List.cons_append, List.nil_append]) | (refine HO_k 12 rfl ?_; refine HO_callq rfl rfl rfl rfl (hr3 x1 c1) (fun _ _ => rfl) (srcsA) rfl rfl sqA ?_) | exact HO_seg rfl rfl | refine S1 ?_ | (refine S2 ?_; intro _) | (refine S3 ?_; intro _ _) | (refine S4 ?_; intro _ _ _) | (refine HO_g 2 rfl ?_; (first | apply HO_and rfl rfl rfl rfl rfl rfl rfl rfl rfl | apply HO_or rfl rfl rfl rfl rfl rfl rfl rfl rfl)) | refine S5 ?_ | (intro hb; try replace hb := simB hb; try exact kill hb))
    rename_i b3
    refine HC_keeps (rw' := [cel b3 76 [.int .i64 d.t, .int .u32 d.id, .slice d.pA d.peers.length d.pc, .slice d.rA d.routes.length d.rc]]) permA ?_
    refine HC_loop (α := LwI) (fun z => z.i ≤ d.routes.length ∧ z.want + gsN (prvN d.routes z.i) (d.routes.drop z.i) = 1 + gsN none d.routes)
      (fun z => [(14, .int .i64 z.i), (13, .int .i64 z.want), (12, .bool true), (11, .int .i64 ((1 + gsN none d.routes : Nat) : Int)), (10, .int .i64 0), (3, pt b3)])
      (fun _ => [cel b3 76 [.int .i64 d.t, .int .u32 d.id, .slice d.pA d.peers.length d.pc, .slice d.rA d.routes.length d.rc]]) (fun z => d.routes.length - z.i) rfl ⟨0, 1⟩ ⟨Nat.zero_le _, rfl⟩ ⟨rfl, rfl, rfl, rfl, rfl, rfl, trivial⟩ rfl ?_
    intro ⟨j, want⟩ ⟨hj, hw⟩
    simp only at hj hw
    dsimp only [pt]
    rcases Nat.lt_or_ge j d.routes.length with hlt | hge
    · obtain ⟨y, hy⟩ : ∃ y, d.routes[j]? = some y := ⟨d.routes[j], List.getElem?_eq_getElem (by omega)⟩
      cases j with
      | zero =>
        rw [gs_step0 hy] at hw
        repeat' (first | refine SW ?_ | refine SD ?_ | exact HO_seg rfl rfl | refine S1 ?_ | (refine S2 ?_; intro _) | (refine S3 ?_; intro _ _) | (refine S4 ?_; intro _ _ _) | (refine HO_g 2 rfl ?_; (first | apply HO_and rfl rfl rfl rfl rfl rfl rfl rfl rfl | apply HO_or rfl rfl rfl rfl rfl rfl rfl rfl rfl)) | refine S5 ?_ | (intro hb; try replace hb := simB hb; try exact kill hb))
        exact HX_at ⟨1, want + 1⟩ ⟨⟨by simp only; omega, by simp only; omega⟩, by simp only; omega⟩ ⟨rfl, rfl, rfl, rfl, rfl, rfl, trivial⟩ rfl
      | succ k =>
        obtain ⟨x, hx⟩ : ∃ x, d.routes[k]? = some x := ⟨d.routes[k], List.getElem?_eq_getElem (by omega)⟩
        rw [gs_stepS hx hy] at hw
        have hk1 : (((k + 1 : Nat) : Int)) - 1 = (k : Int) := by omega
        cases hs : sameP y x with
        | true =>
          rw [hs, if_pos rfl] at hw
          have hs2 := hs
          unfold sameP at hs2
          have hs3 : (!(decide ((y.a : Int) = (x.a : Int)) && decide (y.n = x.n))) = false := by rw [hs2]; rfl
          repeat' (first | refine SW ?_ | refine SD ?_ | (with_reducible refine HO_rw (congrArg (Value.int .i64) hk1) ?_) | (with_reducible refine HO_rw (congrArg Value.bool hs3) ?_) | exact HO_seg rfl rfl | refine S1 ?_ | (refine S2 ?_; intro _) | (refine S3 ?_; intro _ _) | (refine S4 ?_; intro _ _ _) | (refine HO_g 2 rfl ?_; (first | apply HO_and rfl rfl rfl rfl rfl rfl rfl rfl rfl | apply HO_or rfl rfl rfl rfl rfl rfl rfl rfl rfl)) | refine S5 ?_ | (intro hb; try replace hb := simB hb; try exact kill hb))
          exact HX_at ⟨k + 1 + 1, want⟩ ⟨⟨by simp only; omega, by simp only; omega⟩, by simp only; omega⟩ ⟨rfl, rfl, rfl, rfl, rfl, rfl, trivial⟩ rfl
        | false =>
          rw [hs, if_neg (by decide)] at hw
          have hs2 := hs
          unfold sameP at hs2
          have hs3 : (!(decide ((y.a : Int) = (x.a : Int)) && decide (y.n = x.n))) = true := by rw [hs2]; rfl
          repeat' (first | refine SW ?_ | refine SD ?_ | (with_reducible refine HO_rw (congrArg (Value.int .i64) hk1) ?_) | (with_reducible refine HO_rw (congrArg Value.bool hs3) ?_) | exact HO_seg rfl rfl | refine S1 ?_ | (refine S2 ?_; intro _) | (refine S3 ?_; intro _ _) | (refine S4 ?_; intro _ _ _) | (refine HO_g 2 rfl ?_; (first | apply HO_and rfl rfl rfl rfl rfl rfl rfl rfl rfl | apply HO_or rfl rfl rfl rfl rfl rfl rfl rfl rfl)) | refine S5 ?_ | (intro hb; try replace hb := simB hb; try exact kill hb))
          exact HX_at ⟨k + 1 + 1, want + 1⟩ ⟨⟨by simp only; omega, by simp only; omega⟩, by simp only; omega⟩ ⟨rfl, rfl, rfl, rfl, rfl, rfl, trivial⟩ rfl
    · obtain rfl : j = d.routes.length := by omega
      rw [List.drop_length, show ∀ p, gsN p ([] : List RtS) = 0 from fun p => by cases p <;> rfl, Nat.add_zero] at hw
      subst hw
      repeat' (first | refine SW ?_ | refine SD ?_ | exact HO_seg rfl rfl | refine S1 ?_ | (refine S2 ?_; intro _) | (refine S3 ?_; intro _ _) | (refine S4 ?_; intro _ _ _) | (refine HO_g 2 rfl ?_; (first | apply HO_and rfl rfl rfl rfl rfl rfl rfl rfl rfl | apply HO_or rfl rfl rfl rfl rfl rfl rfl rfl rfl)) | refine S5 ?_ | (intro hb; try replace hb := simB hb; try exact kill hb))
      ((first | apply HX_ret | apply HX_retn); (repeat (first | exact Res_nil | apply Res_tmp rfl | apply Res_ce rfl rfl rfl)); unfold RetQ; refine ⟨(), trivial, ?_, Keeps.nil⟩)
      rfl
  | some n =>
    rw [hc] at hr1 hr2
    dsimp only [cntV] at hr1 hr2 hr3
    refine Tri_of (N := Try.f12.ntmps) (c := bodyOf Try.f12) Try.func12 rfl rfl rfl rfl (fun w0 S0 => ?_)
    dsimp only [DuS.ro, DuS.e] at hla hck hput ⊢
    repeat' (first | refine SW ?_ | refine SD ?_ | (refine HO_k 12 rfl ?_; refine HO_callq rfl rfl rfl rfl (hla) (fun _ _ => rfl) (srcsA) rfl rfl sqA ?_) | (refine HO_k 12 rfl ?_; refine HO_callq rfl rfl rfl rfl (mlives_t) (fun _ _ => rfl) (trivial) rfl rfl sqA ?_) | (refine HO_k 12 rfl ?_; refine HO_callq rfl rfl rfl rfl (hr1) (fun _ _ => rfl) (srcsA) rfl rfl sqA ?_) | (refine HO_k 12 rfl ?_; refine HO_callq rfl rfl rfl rfl (hr2) (fun _ _ => rfl) (srcsA) rfl rfl sqA ?_) | (refine HO_k 12 rfl ?_; refine HO_callq rfl rfl rfl rfl (hck) (fun _ _ => rfl) (srcsA) rfl rfl sqA ?_) | (refine HO_k 12 rfl ?_; refine HO_call rfl rfl rfl rfl (hput) rfl (srcsA) rfl rfl soA ?_; intro ⟨x1, c1⟩ h9; dsimp only [List.cons_append, List.nil_append]) | (refine HO_k 12 rfl ?_; refine HO_callq rfl rfl rfl rfl (hr3 x1 c1) (fun _ _ => rfl) (srcsA) rfl rfl sqA ?_) | exact HO_seg rfl rfl | refine S1 ?_ | (refine S2 ?_; intro _) | (refine S3 ?_; intro _ _) | (refine S4 ?_; intro _ _ _) | (refine HO_g 2 rfl ?_; (first | apply HO_and rfl rfl rfl rfl rfl rfl rfl rfl rfl | apply HO_or rfl rfl rfl rfl rfl rfl rfl rfl rfl)) | refine S5 ?_ | (intro hb; try replace hb := simB hb; try exact kill hb))
    rename_i b3
    refine HC_keeps (rw' := [cel b3 76 [.int .i64 d.t, .int .u32 d.id, .slice d.pA d.peers.length d.pc, .slice d.rA d.routes.length d.rc]]) permA ?_
    refine HC_loop (α := LwI) (fun z => z.i ≤ d.routes.length ∧ z.want + gsN (prvN d.routes z.i) (d.routes.drop z.i) = 1 + gsN none d.routes)
      (fun z => [(14, .int .i64 z.i), (13, .int .i64 z.want), (12, .bool true), (11, .int .i64 ((1 + gsN none d.routes : Nat) : Int)), (10, .int .i64 0), (3, pt b3)])
      (fun _ => [cel b3 76 [.int .i64 d.t, .int .u32 d.id, .slice d.pA d.peers.length d.pc, .slice d.rA d.routes.length d.rc]]) (fun z => d.routes.length - z.i) rfl ⟨0, 1⟩ ⟨Nat.zero_le _, rfl⟩ ⟨rfl, rfl, rfl, rfl, rfl, rfl, trivial⟩ rfl ?_
    intro ⟨j, want⟩ ⟨hj, hw⟩
    simp only at hj hw
    dsimp only [pt]
    rcases Nat.lt_or_ge j d.routes.length with hlt | hge
    · obtain ⟨y, hy⟩ : ∃ y, d.routes[j]? = some y := ⟨d.routes[j], List.getElem?_eq_getElem (by omega)⟩
      cases j with
      | zero =>
        rw [gs_step0 hy] at hw
        repeat' (first | refine SW ?_ | refine SD ?_ | exact HO_seg rfl rfl | refine S1 ?_ | (refine S2 ?_; intro _) | (refine S3 ?_; intro _ _) | (refine S4 ?_; intro _ _ _) | (refine HO_g 2 rfl ?_; (first | apply HO_and rfl rfl rfl rfl rfl rfl rfl rfl rfl | apply HO_or rfl rfl rfl rfl rfl rfl rfl rfl rfl)) | refine S5 ?_ | (intro hb; try replace hb := simB hb; try exact kill hb))
        exact HX_at ⟨1, want + 1⟩ ⟨⟨by simp only; omega, by simp only; omega⟩, by simp only; omega⟩ ⟨rfl, rfl, rfl, rfl, rfl, rfl, trivial⟩ rfl
      | succ k =>
        obtain ⟨x, hx⟩ : ∃ x, d.routes[k]? = some x := ⟨d.routes[k], List.getElem?_eq_getElem (by omega)⟩
        rw [gs_stepS hx hy] at hw
        have hk1 : (((k + 1 : Nat) : Int)) - 1 = (k : Int) := by omega
        cases hs : sameP y x with
        | true =>
          rw [hs, if_pos rfl] at hw
          have hs2 := hs
          unfold sameP at hs2
          have hs3 : (!(decide ((y.a : Int) = (x.a : Int)) && decide (y.n = x.n))) = false := by rw [hs2]; rfl
          repeat' (first | refine SW ?_ | refine SD ?_ | (with_reducible refine HO_rw (congrArg (Value.int .i64) hk1) ?_) | (with_reducible refine HO_rw (congrArg Value.bool hs3) ?_) | exact HO_seg rfl rfl | refine S1 ?_ | (refine S2 ?_; intro _) | (refine S3 ?_; intro _ _) | (refine S4 ?_; intro _ _ _) | (refine HO_g 2 rfl ?_; (first | apply HO_and rfl rfl rfl rfl rfl rfl rfl rfl rfl | apply HO_or rfl rfl rfl rfl rfl rfl rfl rfl rfl)) | refine S5 ?_ | (intro hb; try replace hb := simB hb; try exact kill hb))
          exact HX_at ⟨k + 1 + 1, want⟩ ⟨⟨by simp only; omega, by simp only; omega⟩, by simp only; omega⟩ ⟨rfl, rfl, rfl, rfl, rfl, rfl, trivial⟩ rfl
        | false =>
          rw [hs, if_neg (by decide)] at hw
          have hs2 := hs
          unfold sameP at hs2
          have hs3 : (!(decide ((y.a : Int) = (x.a : Int)) && decide (y.n = x.n))) = true := by rw [hs2]; rfl
          repeat' (first | refine SW ?_ | refine SD ?_ | (with_reducible refine HO_rw (congrArg (Value.int .i64) hk1) ?_) | (with_reducible refine HO_rw (congrArg Value.bool hs3) ?_) | exact HO_seg rfl rfl | refine S1 ?_ | (refine S2 ?_; intro _) | (refine S3 ?_; intro _ _) | (refine S4 ?_; intro _ _ _) | (refine HO_g 2 rfl ?_; (first | apply HO_and rfl rfl rfl rfl rfl rfl rfl rfl rfl | apply HO_or rfl rfl rfl rfl rfl rfl rfl rfl rfl)) | refine S5 ?_ | (intro hb; try replace hb := simB hb; try exact kill hb))
          exact HX_at ⟨k + 1 + 1, want + 1⟩ ⟨⟨by simp only; omega, by simp only; omega⟩, by simp only; omega⟩ ⟨rfl, rfl, rfl, rfl, rfl, rfl, trivial⟩ rfl
    · obtain rfl : j = d.routes.length := by omega
      rw [List.drop_length, show ∀ p, gsN p ([] : List RtS) = 0 from fun p => by cases p <;> rfl, Nat.add_zero] at hw
      subst hw
      repeat' (first | refine SW ?_ | refine SD ?_ | exact HO_seg rfl rfl | refine S1 ?_ | (refine S2 ?_; intro _) | (refine S3 ?_; intro _ _) | (refine S4 ?_; intro _ _ _) | (refine HO_g 2 rfl ?_; (first | apply HO_and rfl rfl rfl rfl rfl rfl rfl rfl rfl | apply HO_or rfl rfl rfl rfl rfl rfl rfl rfl rfl)) | refine S5 ?_ | (intro hb; try replace hb := simB hb; try exact kill hb))
      ((first | apply HX_ret | apply HX_retn); (repeat (first | exact Res_nil | apply Res_tmp rfl | apply Res_ce rfl rfl rfl)); unfold RetQ; refine ⟨(), trivial, ?_, Keeps.nil⟩)
      rfl
end Go.Proofs.Ytklkmdlnbddfaaa
