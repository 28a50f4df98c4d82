/- The law UpdateMany walked: it returns true. -/
import Derived.Test.YtklkmdlnbddfaaaUpdL1
import Derived.Test.YtklkmdlnbddfaaaMan
namespace Go.Proofs.Ytklkmdlnbddfaaa
set_option linter.unusedVariables false
set_option linter.unusedSimpArgs false
open Go.RowKit
attribute [local irreducible] HC HX HO Tri eP adr

def z3 : List Value := [.int .i64 0, .int .u32 0, .int .i64 0]
theorem rep_wf {v : List Value} (h1 : v.length = 3) (h2 : oneB v = true) (n : Nat) : WfL 3 (List.replicate n v) := fun x hx => by
  rw [List.eq_of_mem_replicate hx]
  exact ⟨h1, h2⟩
theorem rep_at {v : List Value} {j t : Nat} (h : j < t) (u : List Value) : (List.replicate j v ++ List.replicate (t - j) u)[j]? = some u := by
  rw [List.getElem?_append_right (by simp), List.length_replicate, Nat.sub_self, List.getElem?_replicate, if_pos (by omega)]
theorem rep_set {v : List Value} {j t : Nat} (h : j < t) (u : List Value) : (List.replicate j v ++ List.replicate (t - j) u).set j v = List.replicate (j + 1) v ++ List.replicate (t - (j + 1)) u := by
  rw [List.set_append_right _ _ (by simp), List.length_replicate, Nat.sub_self, show t - j = (t - (j + 1)) + 1 by omega, List.replicate_succ, List.set_cons_zero, List.replicate_succ', List.append_assoc]
  rfl
theorem quo_nat (p q : Nat) (h : p ≤ 4073) : bQuo .i64 (p : Int) (q : Int) = ((p / q : Nat) : Int) := by
  have h1 := Nat.div_le_self p q
  show IntKind.i64.wrap ((p / q : Nat) : Int) = _
  obtain ⟨r, hr⟩ : ∃ r, p / q = r := ⟨_, rfl⟩
  rw [hr] at h1 ⊢
  rw [IntKind.wrap_i64]
  omega
set_option maxHeartbeats 64000000 in
set_option maxRecDepth 100000 in
theorem umany_t (i : Int) (a0 : Nat) (ha : a0 < 4294967296) (n times : Int) (a : AttS) (hn : 0 ≤ a.nxt ∧ a.nxt ≤ 4294967295) (four paths : Bool) :
    Tri Try.prog 10 [nlV i a0 n, .int .i64 times, .agg a.e.toArray, .bool four, .bool paths] a.ro [] (fun _ : Unit => True) (fun _ => .bool true) (fun _ => []) := by
  have hla := large_t a
  have hone := rone_t i a0 ha n paths
  dsimp only [nlV] at hone
  by_cases t1 : times < 0
  · refine Tri_of (N := Try.f10.ntmps) (c := bodyOf Try.f10) Try.func10 rfl rfl rfl rfl (fun w0 S0 => ?_)
    dsimp only [AttS.ro, nlV]
    repeat' (first | refine SW ?_ | refine SD ?_ | (refine HO_k 12 rfl ?_; refine HO_callq rfl rfl rfl rfl (ulives_t) (fun _ _ => rfl) (trivial) rfl rfl sqA ?_) | exact HO_seg rfl rfl | refine S1 ?_ | (refine S2 ?_; intro _) | (refine S3 ?_; intro _ _) | (refine S4 ?_; intro _ _ _) | (refine HO_g 2 rfl ?_; (first | apply HO_and rfl rfl rfl rfl rfl rfl rfl rfl rfl | apply HO_or rfl rfl rfl rfl rfl rfl rfl rfl rfl)) | refine S5 ?_ | (intro hb; try replace hb := simB hb; try exact kill hb))
    ((first | apply HX_ret | apply HX_retn); (repeat (first | exact Res_nil | apply Res_tmp rfl | apply Res_ce rfl rfl rfl)); unfold RetQ; refine ⟨(), trivial, ?_, Keeps.nil⟩)
    rfl
  by_cases t2 : 1500 < times
  · refine Tri_of (N := Try.f10.ntmps) (c := bodyOf Try.f10) Try.func10 rfl rfl rfl rfl (fun w0 S0 => ?_)
    dsimp only [AttS.ro, nlV]
    repeat' (first | refine SW ?_ | refine SD ?_ | (refine HO_k 12 rfl ?_; refine HO_callq rfl rfl rfl rfl (ulives_t) (fun _ _ => rfl) (trivial) rfl rfl sqA ?_) | exact HO_seg rfl rfl | refine S1 ?_ | (refine S2 ?_; intro _) | (refine S3 ?_; intro _ _) | (refine S4 ?_; intro _ _ _) | (refine HO_g 2 rfl ?_; (first | apply HO_and rfl rfl rfl rfl rfl rfl rfl rfl rfl | apply HO_or rfl rfl rfl rfl rfl rfl rfl rfl rfl)) | refine S5 ?_ | (intro hb; try replace hb := simB hb; try exact kill hb))
    ((first | apply HX_ret | apply HX_retn); (repeat (first | exact Res_nil | apply Res_tmp rfl | apply Res_ce rfl rfl rfl)); unfold RetQ; refine ⟨(), trivial, ?_, Keeps.nil⟩)
    rfl
  cases hlg : largeB a
  rotate_left
  · rw [hlg] at hla
    refine Tri_of (N := Try.f10.ntmps) (c := bodyOf Try.f10) Try.func10 rfl rfl rfl rfl (fun w0 S0 => ?_)
    dsimp only [AttS.ro, nlV]
    repeat' (first | refine SW ?_ | refine SD ?_ | (refine HO_k 12 rfl ?_; refine HO_callq rfl rfl rfl rfl (hla) (fun _ _ => rfl) (srcsA) rfl rfl sqA ?_) | (refine HO_k 12 rfl ?_; refine HO_callq rfl rfl rfl rfl (ulives_t) (fun _ _ => rfl) (trivial) rfl rfl sqA ?_) | exact HO_seg rfl rfl | refine S1 ?_ | (refine S2 ?_; intro _) | (refine S3 ?_; intro _ _) | (refine S4 ?_; intro _ _ _) | (refine HO_g 2 rfl ?_; (first | apply HO_and rfl rfl rfl rfl rfl rfl rfl rfl rfl | apply HO_or rfl rfl rfl rfl rfl rfl rfl rfl rfl)) | refine S5 ?_ | (intro hb; try replace hb := simB hb; try exact kill hb))
    ((first | apply HX_ret | apply HX_retn); (repeat (first | exact Res_nil | apply Res_tmp rfl | apply Res_ce rfl rfl rfl)); unfold RetQ; refine ⟨(), trivial, ?_, Keeps.nil⟩)
    rfl
  rw [hlg] at hla
  have la := lim_of hlg
  cases hx : oneN paths i a0 n
  · rw [hx] at hone
    refine Tri_of (N := Try.f10.ntmps) (c := bodyOf Try.f10) Try.func10 rfl rfl rfl rfl (fun w0 S0 => ?_)
    dsimp only [AttS.ro, nlV]
    repeat' (first | refine SW ?_ | refine SD ?_ | (refine HO_k 12 rfl ?_; refine HO_callq rfl rfl rfl rfl (hla) (fun _ _ => rfl) (srcsA) rfl rfl sqA ?_) | (refine HO_k 12 rfl ?_; refine HO_callq rfl rfl rfl rfl (hone) (fun _ _ => rfl) (trivial) rfl rfl sqA ?_) | (refine HO_k 12 rfl ?_; refine HO_callq rfl rfl rfl rfl (ulives_t) (fun _ _ => rfl) (trivial) rfl rfl sqA ?_) | exact HO_seg rfl rfl | refine S1 ?_ | (refine S2 ?_; intro _) | (refine S3 ?_; intro _ _) | (refine S4 ?_; intro _ _ _) | (refine HO_g 2 rfl ?_; (first | apply HO_and rfl rfl rfl rfl rfl rfl rfl rfl rfl | apply HO_or rfl rfl rfl rfl rfl rfl rfl rfl rfl)) | refine S5 ?_ | (intro hb; try replace hb := simB hb; try exact kill hb))
    ((first | apply HX_ret | apply HX_retn); (repeat (first | exact Res_nil | apply Res_tmp rfl | apply Res_ce rfl rfl rfl)); unfold RetQ; refine ⟨(), trivial, ?_, Keeps.nil⟩)
    rfl
  have hck := rcheck_t a four (by have := la.p; omega) (by have := la.c; omega) (fun s hs => by have := la.s s hs; omega)
  cases hok : attOk four a
  · rw [hx] at hone
    rw [hok] at hck
    refine Tri_of (N := Try.f10.ntmps) (c := bodyOf Try.f10) Try.func10 rfl rfl rfl rfl (fun w0 S0 => ?_)
    dsimp only [AttS.ro, nlV]
    repeat' (first | refine SW ?_ | refine SD ?_ | (refine HO_k 12 rfl ?_; refine HO_callq rfl rfl rfl rfl (hla) (fun _ _ => rfl) (srcsA) rfl rfl sqA ?_) | (refine HO_k 12 rfl ?_; refine HO_callq rfl rfl rfl rfl (hone) (fun _ _ => rfl) (trivial) rfl rfl sqA ?_) | (refine HO_k 12 rfl ?_; refine HO_callq rfl rfl rfl rfl (hck) (fun _ _ => rfl) (srcsA) rfl rfl sqA ?_) | (refine HO_k 12 rfl ?_; refine HO_callq rfl rfl rfl rfl (ulives_t) (fun _ _ => rfl) (trivial) rfl rfl sqA ?_) | exact HO_seg rfl rfl | refine S1 ?_ | (refine S2 ?_; intro _) | (refine S3 ?_; intro _ _) | (refine S4 ?_; intro _ _ _) | (refine HO_g 2 rfl ?_; (first | apply HO_and rfl rfl rfl rfl rfl rfl rfl rfl rfl | apply HO_or rfl rfl rfl rfl rfl rfl rfl rfl rfl)) | refine S5 ?_ | (intro hb; try replace hb := simB hb; try exact kill hb))
    ((first | apply HX_ret | apply HX_retn); (repeat (first | exact Res_nil | apply Res_tmp rfl | apply Res_ce rfl rfl rfl)); unfold RetQ; refine ⟨(), trivial, ?_, Keeps.nil⟩)
    rfl
  rw [hx] at hone
  rw [hok] at hck
  obtain ⟨t, rfl⟩ : ∃ t : Nat, times = t := ⟨times.toNat, by omega⟩
  obtain ⟨i', k', e, hi, hk, hkk⟩ := one_nat (paths := paths) (x := ⟨i, a0, n⟩) hx
  have ei : i = (i' : Int) := congrArg Nl.i e
  have en : n = (k' : Int) := congrArg Nl.n e
  subst ei en
  have hput := rput5_t a four hok hn
  have hle := putB_le2 (szF four) (szF_bd four).2 a.pa (okP_of hn (by rw [← ok_pa]; exact hok))
  have hby := rnlb_t i' a0 k' ha hi hk paths
  dsimp only [nlV] at hby
  have hfit := fun b : Nat => fit_t (some ⟨b, 0, none⟩) t t ⟨i', a0, k'⟩ ha (List.replicate t ⟨i', a0, k'⟩) rfl (by omega) paths hx a four hok hn
  have hpos := nlB_pos paths ⟨i', a0, k'⟩
  obtain ⟨z, hz⟩ : ∃ z, (nlB paths ⟨i', a0, k'⟩).length = z := ⟨_, rfl⟩
  rw [hz] at hby hpos
  obtain ⟨s, hs⟩ : ∃ s, putB (szF four) a.pa = s := ⟨_, rfl⟩
  rw [hs] at hput hle
  simp only [hs, hz] at hfit
  obtain ⟨room, hroom⟩ : ∃ r, 4073 - s.length = r := ⟨_, rfl⟩
  simp only [hroom] at hfit
  have hr : (4073 : Int) - ((s.length : Nat) : Int) = (room : Nat) := by omega
  have hq := quo_nat room z (by omega)
  have hz0 : ((z : Nat) : Int) ≠ 0 := by omega
  obtain ⟨q, hq0⟩ : ∃ q, room / z = q := ⟨_, rfl⟩
  have hq4 : q ≤ 4073 := by rw [← hq0]; exact Nat.le_trans (Nat.div_le_self _ _) (by omega)
  rw [hq0] at hq
  have hfn : fitN room z t = min (min q 1024) t := by unfold fitN; rw [hq0]
  simp only [hfn] at hfit
  obtain ⟨xe, hxe⟩ : ∃ xe, xe = [Value.int .i64 i', .int .u32 a0, .int .i64 k'] := ⟨_, rfl⟩
  have hx3 : xe.length = 3 ∧ oneB xe = true := by rw [hxe]; exact ⟨rfl, rfl⟩
  have hmap : ∀ t : Nat, List.replicate t xe ++ List.replicate (t - t) z3 = List.map Nl.e (List.replicate t ⟨i', a0, k'⟩) := fun t => by
    rw [Nat.sub_self, List.replicate_zero, List.append_nil, List.map_replicate, hxe]
    rfl
  refine Tri_of (N := Try.f10.ntmps) (c := bodyOf Try.f10) Try.func10 rfl rfl rfl rfl (fun w0 S0 => ?_)
  dsimp only [AttS.ro, nlV]
  repeat' (first | refine SW ?_ | refine SD ?_ | (refine HO_k 14 rfl ?_; refine HO_mksn rfl rfl rfl rfl rfl ?h1 ?h2 ?h3 rfl rfl soA ?_; (case h1 => omega); (case h2 => omega); (case h3 => omega); intro _) | (refine HO_k 12 rfl ?_; refine HO_callq rfl rfl rfl rfl (hla) (fun _ _ => rfl) (srcsA) rfl rfl sqA ?_) | (refine HO_k 12 rfl ?_; refine HO_callq rfl rfl rfl rfl (hone) (fun _ _ => rfl) (trivial) rfl rfl sqA ?_) | (refine HO_k 12 rfl ?_; refine HO_callq rfl rfl rfl rfl (hck) (fun _ _ => rfl) (srcsA) rfl rfl sqA ?_) | (refine HO_k 12 rfl ?_; refine HO_callq rfl rfl rfl rfl (ulives_t) (fun _ _ => rfl) (trivial) rfl rfl sqA ?_) | exact HO_seg rfl rfl | refine S1 ?_ | (refine S2 ?_; intro _) | (refine S3 ?_; intro _ _) | (refine S4 ?_; intro _ _ _) | (refine HO_g 2 rfl ?_; (first | apply HO_and rfl rfl rfl rfl rfl rfl rfl rfl rfl | apply HO_or rfl rfl rfl rfl rfl rfl rfl rfl rfl)) | refine S5 ?_ | (intro hb; try replace hb := simB hb; try exact kill hb))
  rename_i b5 b7 bm
  refine HC_loop (α := Nat) (fun j => j ≤ t) (fun j => [(12, .int .i64 j), (11, .slice (some ⟨bm, 0, none⟩) t t), (7, pt b7), (5, pt b5), (3, .bool four), (4, .bool paths), (1, .int .i64 t)])
    (fun j => [own idE 67 3 (some ⟨bm, 0, none⟩) t t (List.replicate j xe ++ List.replicate (t - j) z3), cel b7 26 a.e, cel b5 67 [Value.int .i64 i', .int .u32 a0, .int .i64 k']]) (fun j => t - j) rfl 0 (Nat.zero_le _) ⟨rfl, rfl, rfl, rfl, rfl, rfl, rfl, trivial⟩ rfl ?_
  intro j hj
  rcases Nat.lt_or_ge j t with hlt | hge
  · have hw1 := rep_wf hx3.1 hx3.2 j
    have hw2 := rep_wf (v := z3) rfl rfl (t - j)
    have hat := rep_at (v := xe) hlt z3
    have hset := rep_set (v := xe) hlt z3
    dsimp only [pt]
    repeat' (first | refine SW ?_ | refine SD ?_ | (refine HO_k 3 rfl ?_; refine HO_stAn rfl rfl rfl rfl rfl rfl rfl rfl wfA hat rfl rfl soA ?_) | exact HO_seg rfl rfl | refine S1 ?_ | (refine S2 ?_; intro _) | (refine S3 ?_; intro _ _) | (refine S4 ?_; intro _ _ _) | (refine HO_g 2 rfl ?_; (first | apply HO_and rfl rfl rfl rfl rfl rfl rfl rfl rfl | apply HO_or rfl rfl rfl rfl rfl rfl rfl rfl rfl)) | refine S5 ?_ | (intro hb; try replace hb := simB hb; try exact kill hb))
    refine HX_keeps (rw' := [own idE 67 3 (some ⟨bm, 0, none⟩) t t (List.replicate (j + 1) xe ++ List.replicate (t - (j + 1)) z3), cel b7 26 a.e, cel b5 67 [Value.int .i64 i', .int .u32 a0, .int .i64 k']]) (Keeps.own_cons Keeps.refl rfl (by rw [← hset, hxe]; rfl)) ?_
    exact HX_at (j + 1) ⟨hlt, by omega⟩ ⟨rfl, rfl, rfl, rfl, rfl, rfl, rfl, trivial⟩ rfl
  · obtain rfl : j = t := by omega
    rw [hmap]
    dsimp only [pt]
    have h4 : s.length ≤ 2300 := hle
    by_cases c1 : 1024 < q
    · by_cases c2 : j < 1024
      · have hm2 : min (min q 1024) j = j := by omega
        rw [hm2] at hfit
        repeat' (first | refine SW ?_ | refine SD ?_ | refine HC_lex rfl rfl (by decide +kernel) rfl rfl ?_ | (with_reducible refine HO_rw (congrArg (Value.int .i64) hr) ?_) | (with_reducible refine HO_rw (congrArg (Value.int .i64) hq) ?_) | (refine HO_k 0 rfl ?_; refine HO_quo rfl rfl rfl hz0 rfl rfl rdA ?_) | (refine HO_k 12 rfl ?_; refine HO_call rfl rfl rfl rfl (hput) rfl (srcsA) rfl rfl soA ?_; intro ⟨x1, c1⟩ g1; dsimp only [List.cons_append, List.nil_append]) | (refine HO_k 12 rfl ?_; refine HO_call rfl rfl rfl rfl (hby) rfl (trivial) rfl rfl soA ?_; intro ⟨x2, c2⟩ g2; dsimp only [List.cons_append, List.nil_append]) | (refine HO_k 12 rfl ?_; refine HO_callq rfl rfl rfl rfl (ulives_t) (fun _ _ => rfl) (trivial) rfl rfl sqA ?_) | (refine HO_k 12 rfl ?_; refine HO_callq rfl rfl rfl rfl (hfit bm) (fun _ _ => rfl) (srcsA) rfl rfl sqA ?_) | exact HO_seg rfl rfl | refine S1 ?_ | (refine S2 ?_; intro _) | (refine S3 ?_; intro _ _) | (refine S4 ?_; intro _ _ _) | (refine HO_g 2 rfl ?_; (first | apply HO_and rfl rfl rfl rfl rfl rfl rfl rfl rfl | apply HO_or rfl rfl rfl rfl rfl rfl rfl rfl rfl)) | refine S5 ?_ | (intro hb; try replace hb := simB hb; try exact kill hb))
        ((first | apply HX_ret | apply HX_retn); (repeat (first | exact Res_nil | apply Res_tmp rfl | apply Res_ce rfl rfl rfl)); unfold RetQ; refine ⟨(), trivial, ?_, Keeps.nil⟩)
        rfl
      · have hm2 : min (min q 1024) j = 1024 := by omega
        rw [hm2] at hfit
        repeat' (first | refine SW ?_ | refine SD ?_ | refine HC_lex rfl rfl (by decide +kernel) rfl rfl ?_ | (with_reducible refine HO_rw (congrArg (Value.int .i64) hr) ?_) | (with_reducible refine HO_rw (congrArg (Value.int .i64) hq) ?_) | (refine HO_k 0 rfl ?_; refine HO_quo rfl rfl rfl hz0 rfl rfl rdA ?_) | (refine HO_k 12 rfl ?_; refine HO_call rfl rfl rfl rfl (hput) rfl (srcsA) rfl rfl soA ?_; intro ⟨x1, c1⟩ g1; dsimp only [List.cons_append, List.nil_append]) | (refine HO_k 12 rfl ?_; refine HO_call rfl rfl rfl rfl (hby) rfl (trivial) rfl rfl soA ?_; intro ⟨x2, c2⟩ g2; dsimp only [List.cons_append, List.nil_append]) | (refine HO_k 12 rfl ?_; refine HO_callq rfl rfl rfl rfl (ulives_t) (fun _ _ => rfl) (trivial) rfl rfl sqA ?_) | (refine HO_k 12 rfl ?_; refine HO_callq rfl rfl rfl rfl (hfit bm) (fun _ _ => rfl) (srcsA) rfl rfl sqA ?_) | exact HO_seg rfl rfl | refine S1 ?_ | (refine S2 ?_; intro _) | (refine S3 ?_; intro _ _) | (refine S4 ?_; intro _ _ _) | (refine HO_g 2 rfl ?_; (first | apply HO_and rfl rfl rfl rfl rfl rfl rfl rfl rfl | apply HO_or rfl rfl rfl rfl rfl rfl rfl rfl rfl)) | refine S5 ?_ | (intro hb; try replace hb := simB hb; try exact kill hb))
        ((first | apply HX_ret | apply HX_retn); (repeat (first | exact Res_nil | apply Res_tmp rfl | apply Res_ce rfl rfl rfl)); unfold RetQ; refine ⟨(), trivial, ?_, Keeps.nil⟩)
        rfl
    · by_cases c2 : j < q
      · have hm2 : min (min q 1024) j = j := by omega
        rw [hm2] at hfit
        repeat' (first | refine SW ?_ | refine SD ?_ | refine HC_lex rfl rfl (by decide +kernel) rfl rfl ?_ | (with_reducible refine HO_rw (congrArg (Value.int .i64) hr) ?_) | (with_reducible refine HO_rw (congrArg (Value.int .i64) hq) ?_) | (refine HO_k 0 rfl ?_; refine HO_quo rfl rfl rfl hz0 rfl rfl rdA ?_) | (refine HO_k 12 rfl ?_; refine HO_call rfl rfl rfl rfl (hput) rfl (srcsA) rfl rfl soA ?_; intro ⟨x1, c1⟩ g1; dsimp only [List.cons_append, List.nil_append]) | (refine HO_k 12 rfl ?_; refine HO_call rfl rfl rfl rfl (hby) rfl (trivial) rfl rfl soA ?_; intro ⟨x2, c2⟩ g2; dsimp only [List.cons_append, List.nil_append]) | (refine HO_k 12 rfl ?_; refine HO_callq rfl rfl rfl rfl (ulives_t) (fun _ _ => rfl) (trivial) rfl rfl sqA ?_) | (refine HO_k 12 rfl ?_; refine HO_callq rfl rfl rfl rfl (hfit bm) (fun _ _ => rfl) (srcsA) rfl rfl sqA ?_) | exact HO_seg rfl rfl | refine S1 ?_ | (refine S2 ?_; intro _) | (refine S3 ?_; intro _ _) | (refine S4 ?_; intro _ _ _) | (refine HO_g 2 rfl ?_; (first | apply HO_and rfl rfl rfl rfl rfl rfl rfl rfl rfl | apply HO_or rfl rfl rfl rfl rfl rfl rfl rfl rfl)) | refine S5 ?_ | (intro hb; try replace hb := simB hb; try exact kill hb))
        ((first | apply HX_ret | apply HX_retn); (repeat (first | exact Res_nil | apply Res_tmp rfl | apply Res_ce rfl rfl rfl)); unfold RetQ; refine ⟨(), trivial, ?_, Keeps.nil⟩)
        rfl
      · have hm2 : min (min q 1024) j = q := by omega
        rw [hm2] at hfit
        repeat' (first | refine SW ?_ | refine SD ?_ | refine HC_lex rfl rfl (by decide +kernel) rfl rfl ?_ | (with_reducible refine HO_rw (congrArg (Value.int .i64) hr) ?_) | (with_reducible refine HO_rw (congrArg (Value.int .i64) hq) ?_) | (refine HO_k 0 rfl ?_; refine HO_quo rfl rfl rfl hz0 rfl rfl rdA ?_) | (refine HO_k 12 rfl ?_; refine HO_call rfl rfl rfl rfl (hput) rfl (srcsA) rfl rfl soA ?_; intro ⟨x1, c1⟩ g1; dsimp only [List.cons_append, List.nil_append]) | (refine HO_k 12 rfl ?_; refine HO_call rfl rfl rfl rfl (hby) rfl (trivial) rfl rfl soA ?_; intro ⟨x2, c2⟩ g2; dsimp only [List.cons_append, List.nil_append]) | (refine HO_k 12 rfl ?_; refine HO_callq rfl rfl rfl rfl (ulives_t) (fun _ _ => rfl) (trivial) rfl rfl sqA ?_) | (refine HO_k 12 rfl ?_; refine HO_callq rfl rfl rfl rfl (hfit bm) (fun _ _ => rfl) (srcsA) rfl rfl sqA ?_) | exact HO_seg rfl rfl | refine S1 ?_ | (refine S2 ?_; intro _) | (refine S3 ?_; intro _ _) | (refine S4 ?_; intro _ _ _) | (refine HO_g 2 rfl ?_; (first | apply HO_and rfl rfl rfl rfl rfl rfl rfl rfl rfl | apply HO_or rfl rfl rfl rfl rfl rfl rfl rfl rfl)) | refine S5 ?_ | (intro hb; try replace hb := simB hb; try exact kill hb))
        ((first | apply HX_ret | apply HX_retn); (repeat (first | exact Res_nil | apply Res_tmp rfl | apply Res_ce rfl rfl rfl)); unfold RetQ; refine ⟨(), trivial, ?_, Keeps.nil⟩)
        rfl
end Go.Proofs.Ytklkmdlnbddfaaa
