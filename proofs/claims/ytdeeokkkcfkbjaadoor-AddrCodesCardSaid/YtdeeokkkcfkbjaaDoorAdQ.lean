/- The law of prefixes' bytes walked. -/
import Derived.Test.YtdeeokkkcfkbjaaDoorAdO
namespace Go.Proofs.YtdeeokkkcfkbjaaDoor
set_option linter.unusedVariables false
set_option linter.unusedSimpArgs false
open Go.RowKit
attribute [local irreducible] HC HX HO Tri eP adr

theorem andN (x y : Int) : (!(decide (x = x) && decide (y = y))) = false := by simp
/-- what addr.Get answers -/
def agV : Option (Nat × Nat) → Value
  | none => .tuple #[pfV 0 0, .int .i64 0, .int .i64 20]
  | some (a, q) => .tuple #[pfV a q, .int .i64 ((1 + (q + 7) / 8 : Nat)), .int .i64 0]
theorem agetA_t (A : Option Addr) (c : Nat) (l : List UInt8) (hb : l.length ≤ 100000) : Tri Tryd.prog 32 [.slice A l.length c] [arr bE 1 A l] [] (fun _ : Unit => True) (fun _ => agV (pfG l)) (fun _ => []) := by
  cases h : pfG l with
  | none => exact pget_bad A c l hb h
  | some y =>
    obtain ⟨a, q⟩ := y
    exact pget_t A c l hb a q h
theorem pfB_len (a k : Nat) (hk : k ≤ 32) : (pfB a k).length = 1 + (k + 7) / 8 := by
  unfold pfB
  rw [List.length_cons, List.length_take, be_length]
  omega
set_option maxHeartbeats 16000000 in
theorem lawCodes_bad (m : Int) (a : Nat) (ha : a < 4294967296) (n : Int) (hx : okX a n = false) (A : Option Addr) (c : Nat) (l : List UInt8) (hc : l.length ≤ c) :
    Tri Tryd.prog 7 [pfV a n, .slice A l.length c] [tab1, maxLen0 m, arr bE 1 A l] [] (fun _ : Unit => True) (fun _ => .bool true) (fun _ => []) := by
  have c1 := alives_t m
  by_cases hl : 1000 < l.length
  · refine Tri_of (N := Tryd.f7.ntmps) (c := bodyOf Tryd.f7) Tryd.func7 rfl rfl rfl rfl (fun w0 S0 => ?_)
    dsimp only [pfV]
    repeat' (first | refine SW ?_ | refine SD ?_ | (refine HO_k 12 rfl ?_; refine HO_callq rfl rfl rfl rfl (c1) (fun _ _ => rfl) (srcsA) rfl rfl sqA ?_) | exact HO_seg rfl rfl | refine S1 ?_ | (refine S2 ?_; intro _) | (refine S3 ?_; intro _ _) | (refine S4 ?_; intro _ _ _) | (refine HO_g 2 rfl ?_; (first | apply HO_and rfl rfl rfl rfl rfl rfl rfl rfl rfl | apply HO_or rfl rfl rfl rfl rfl rfl rfl rfl rfl)) | refine S5 ?_ | (intro hb; try replace hb := simB hb; try exact kill hb))
    ((first | apply HX_ret | apply HX_retn); (repeat (first | exact Res_nil | apply Res_tmp rfl | apply Res_ce rfl rfl rfl)); unfold RetQ; refine ⟨(), trivial, ?_, Keeps.nil⟩)
    rfl
  have c2 := pput_bad a ha n hx
  have c3 := agetA_t A c l (by omega)
  have c4 := rpget_t A c l (by omega) hc
  have c5 := rchk_t a ha n
  rw [hx] at c5
  cases hp : pfG l with
  | none =>
    rw [hp] at c3 c4
    unfold agV at c3
    unfold pgV at c4
    dsimp only [pfV] at c2 c3 c4 c5
    refine Tri_of (N := Tryd.f7.ntmps) (c := bodyOf Tryd.f7) Tryd.func7 rfl rfl rfl rfl (fun w0 S0 => ?_)
    dsimp only [pfV]
    repeat' (first | refine SW ?_ | refine SD ?_ | (with_reducible refine HO_rw (congrArg Value.bool (andT _ _)) ?_) | (with_reducible refine HO_rw (congrArg Value.bool (andN _ _)) ?_) | (refine HO_k 12 rfl ?_; refine HO_callq rfl rfl rfl rfl (c1) (fun _ _ => rfl) (srcsA) rfl rfl sqA ?_) | (refine HO_k 12 rfl ?_; refine HO_callq rfl rfl rfl rfl (c2) (fun _ _ => rfl) (trivial) rfl rfl sqA ?_) | (refine HO_k 12 rfl ?_; refine HO_callq rfl rfl rfl rfl (c3) (fun _ _ => rfl) (srcsA) rfl rfl sqA ?_) | (refine HO_k 12 rfl ?_; refine HO_callq rfl rfl rfl rfl (c4) (fun _ _ => rfl) (srcsA) rfl rfl sqA ?_) | (refine HO_k 12 rfl ?_; refine HO_callq rfl rfl rfl rfl (c5) (fun _ _ => rfl) (trivial) rfl rfl sqA ?_) | exact HO_seg rfl rfl | refine S1 ?_ | (refine S2 ?_; intro _) | (refine S3 ?_; intro _ _) | (refine S4 ?_; intro _ _ _) | (refine HO_g 2 rfl ?_; (first | apply HO_and rfl rfl rfl rfl rfl rfl rfl rfl rfl | apply HO_or rfl rfl rfl rfl rfl rfl rfl rfl rfl)) | refine S5 ?_ | (intro hb; try replace hb := simB hb; try exact kill hb))
    ((first | apply HX_ret | apply HX_retn); (repeat (first | exact Res_nil | apply Res_tmp rfl | apply Res_ce rfl rfl rfl)); unfold RetQ; refine ⟨(), trivial, ?_, Keeps.nil⟩)
    rfl
  | some y =>
    obtain ⟨b, q⟩ := y
    rw [hp] at c3 c4
    unfold agV at c3
    unfold pgV at c4
    dsimp only [pfV] at c2 c3 c4 c5
    refine Tri_of (N := Tryd.f7.ntmps) (c := bodyOf Tryd.f7) Tryd.func7 rfl rfl rfl rfl (fun w0 S0 => ?_)
    dsimp only [pfV]
    repeat' (first | refine SW ?_ | refine SD ?_ | (with_reducible refine HO_rw (congrArg Value.bool (andT _ _)) ?_) | (with_reducible refine HO_rw (congrArg Value.bool (andN _ _)) ?_) | (refine HO_k 12 rfl ?_; refine HO_callq rfl rfl rfl rfl (c1) (fun _ _ => rfl) (srcsA) rfl rfl sqA ?_) | (refine HO_k 12 rfl ?_; refine HO_callq rfl rfl rfl rfl (c2) (fun _ _ => rfl) (trivial) rfl rfl sqA ?_) | (refine HO_k 12 rfl ?_; refine HO_callq rfl rfl rfl rfl (c3) (fun _ _ => rfl) (srcsA) rfl rfl sqA ?_) | (refine HO_k 12 rfl ?_; refine HO_callq rfl rfl rfl rfl (c4) (fun _ _ => rfl) (srcsA) rfl rfl sqA ?_) | (refine HO_k 12 rfl ?_; refine HO_callq rfl rfl rfl rfl (c5) (fun _ _ => rfl) (trivial) rfl rfl sqA ?_) | exact HO_seg rfl rfl | refine S1 ?_ | (refine S2 ?_; intro _) | (refine S3 ?_; intro _ _) | (refine S4 ?_; intro _ _ _) | (refine HO_g 2 rfl ?_; (first | apply HO_and rfl rfl rfl rfl rfl rfl rfl rfl rfl | apply HO_or rfl rfl rfl rfl rfl rfl rfl rfl rfl)) | refine S5 ?_ | (intro hb; try replace hb := simB hb; try exact kill hb))
    ((first | apply HX_ret | apply HX_retn); (repeat (first | exact Res_nil | apply Res_tmp rfl | apply Res_ce rfl rfl rfl)); unfold RetQ; refine ⟨(), trivial, ?_, Keeps.nil⟩)
    rfl
set_option maxHeartbeats 16000000 in
theorem lawCodes_ok (m : Int) (a : Nat) (ha : a < 4294967296) (k : Nat) (hx : okX a k = true) (A : Option Addr) (c : Nat) (l : List UInt8) (hc : l.length ≤ c) :
    Tri Tryd.prog 7 [pfV a k, .slice A l.length c] [tab1, maxLen0 m, arr bE 1 A l] [] (fun _ : Unit => True) (fun _ => .bool true) (fun _ => []) := by
  have c1 := alives_t m
  by_cases hl : 1000 < l.length
  · refine Tri_of (N := Tryd.f7.ntmps) (c := bodyOf Tryd.f7) Tryd.func7 rfl rfl rfl rfl (fun w0 S0 => ?_)
    dsimp only [pfV]
    repeat' (first | refine SW ?_ | refine SD ?_ | (refine HO_k 12 rfl ?_; refine HO_callq rfl rfl rfl rfl (c1) (fun _ _ => rfl) (srcsA) rfl rfl sqA ?_) | exact HO_seg rfl rfl | refine S1 ?_ | (refine S2 ?_; intro _) | (refine S3 ?_; intro _ _) | (refine S4 ?_; intro _ _ _) | (refine HO_g 2 rfl ?_; (first | apply HO_and rfl rfl rfl rfl rfl rfl rfl rfl rfl | apply HO_or rfl rfl rfl rfl rfl rfl rfl rfl rfl)) | refine S5 ?_ | (intro hb; try replace hb := simB hb; try exact kill hb))
    ((first | apply HX_ret | apply HX_retn); (repeat (first | exact Res_nil | apply Res_tmp rfl | apply Res_ce rfl rfl rfl)); unfold RetQ; refine ⟨(), trivial, ?_, Keeps.nil⟩)
    rfl
  have hk := (okX_top hx).2
  have hpl := pfB_len a k hk
  have c2 := pput_t a ha k hx
  have c3 := agetA_t A c l (by omega)
  have c4 := rpget_t A c l (by omega) hc
  have c5 := rchk_t a ha k
  rw [hx] at c5
  have c6 := rpput_t a ha k hk
  have c7 := fun (B : Option Addr) (d : Nat) => agetA_t B d (pfB a k ++ l) (by rw [List.length_append]; omega)
  rw [(pfG_pfB a k ha hx l).1] at c7
  have ex : ∃ z : Nat, (1 + (k + 7) / 8 : Nat) = z ∧ (pfB a k).length = z := ⟨_, rfl, hpl⟩
  obtain ⟨z, hz, hz'⟩ := ex
  have hz33 : z ≤ 5 := by omega
  unfold agV at c7
  dsimp only at c7
  rw [hz] at c7
  obtain ⟨bs, hbs⟩ : ∃ bs, pfB a k = bs := ⟨_, rfl⟩
  rw [hbs] at c2 c6 c7 hz'
  have hstr : (ByteArray.toList ⟨bs.toArray⟩ == ByteArray.toList ⟨bs.toArray⟩) = true := beq_self_eq_true _
  have hzl : ((z : Nat) : Int) = (bs.length : Int) := by omega
  rw [hzl] at c7
  clear hz hbs hpl
  cases hp : pfG l with
  | none =>
    rw [hp] at c3 c4
    unfold agV at c3
    unfold pgV at c4
    dsimp only [pfV] at c2 c3 c4 c5 c6 c7
    refine Tri_of (N := Tryd.f7.ntmps) (c := bodyOf Tryd.f7) Tryd.func7 rfl rfl rfl rfl (fun w0 S0 => ?_)
    dsimp only [pfV]
    repeat' (first | refine SW ?_ | refine SD ?_ | (with_reducible refine HO_rw (congrArg Value.bool (andT _ _)) ?_) | (with_reducible refine HO_rw (congrArg Value.bool (andN _ _)) ?_) | (refine HO_k 12 rfl ?_; refine HO_callq rfl rfl rfl rfl (c1) (fun _ _ => rfl) (srcsA) rfl rfl sqA ?_) | (refine HO_k 12 rfl ?_; refine HO_call rfl rfl rfl rfl (c2) rfl (trivial) rfl rfl soA ?_; intro ⟨xA, xc⟩ hxx; dsimp only [List.cons_append, List.nil_append]) | (refine HO_k 12 rfl ?_; refine HO_callq rfl rfl rfl rfl (c3) (fun _ _ => rfl) (srcsA) rfl rfl sqA ?_) | (refine HO_k 12 rfl ?_; refine HO_callq rfl rfl rfl rfl (c4) (fun _ _ => rfl) (srcsA) rfl rfl sqA ?_) | (refine HO_k 12 rfl ?_; refine HO_callq rfl rfl rfl rfl (c5) (fun _ _ => rfl) (trivial) rfl rfl sqA ?_) | exact HO_seg rfl rfl | refine S1 ?_ | (refine S2 ?_; intro _) | (refine S3 ?_; intro _ _) | (refine S4 ?_; intro _ _ _) | (refine HO_g 2 rfl ?_; (first | apply HO_and rfl rfl rfl rfl rfl rfl rfl rfl rfl | apply HO_or rfl rfl rfl rfl rfl rfl rfl rfl rfl)) | refine S5 ?_ | (intro hb; try replace hb := simB hb; try exact kill hb))
    rename_i b3 b2 b1 b0 A1 d1 A2 d2
    have eM : [] ++ List.map bE bs ++ List.map bE l = List.map bE (bs ++ l) := by rw [List.map_append]; rfl
    have eL : 0 + bs.length + l.length = (bs ++ l).length := by rw [List.length_append]; omega
    rw [eM, eL]
    repeat' (first | refine SW ?_ | refine SD ?_ | (with_reducible refine HO_rw (congrArg Value.bool (andT _ _)) ?_) | (with_reducible refine HO_rw (congrArg Value.bool hstr) ?_) | (refine HO_k 12 rfl ?_; refine HO_callq rfl rfl rfl rfl (c7 _ _) (fun _ _ => rfl) (by first | exact AllSrc.own 3 rfl rfl trivial | exact AllSrc.own 4 rfl rfl trivial | exact AllSrc.own 2 rfl rfl trivial | exact AllSrc.own 5 rfl rfl trivial) rfl rfl sqA ?_) | refine HC_lex rfl rfl (by decide +kernel) rfl rfl ?_ | (refine HO_k 12 rfl ?_; refine HO_call rfl rfl rfl rfl (c6) rfl (trivial) rfl rfl soA ?_; intro ⟨yA, yc⟩ hyy; dsimp only [List.cons_append, List.nil_append]) | (refine HO_k 7 rfl ?_; (first | (refine HO_holdA 0 rfl rfl ?_; refine HO_b2sr (l := bs) 0 rfl rfl rfl rfl rfl rfl rfl rdA ?_) | (refine HO_holdA 1 rfl rfl ?_; refine HO_b2sr (l := bs) 0 rfl rfl rfl rfl rfl rfl rfl rdA ?_) | (refine HO_holdA 2 rfl rfl ?_; refine HO_b2sr (l := bs) 0 rfl rfl rfl rfl rfl rfl rfl rdA ?_) | (refine HO_holdA 3 rfl rfl ?_; refine HO_b2sr (l := bs) 0 rfl rfl rfl rfl rfl rfl rfl rdA ?_) | (refine HO_holdA 4 rfl rfl ?_; refine HO_b2sr (l := bs) 0 rfl rfl rfl rfl rfl rfl rfl rdA ?_) | (refine HO_holdA 5 rfl rfl ?_; refine HO_b2sr (l := bs) 0 rfl rfl rfl rfl rfl rfl rfl rdA ?_) | (refine HO_holdA 6 rfl rfl ?_; refine HO_b2sr (l := bs) 0 rfl rfl rfl rfl rfl rfl rfl rdA ?_) | (refine HO_holdA 7 rfl rfl ?_; refine HO_b2sr (l := bs) 0 rfl rfl rfl rfl rfl rfl rfl rdA ?_) | (refine HO_holdA 8 rfl rfl ?_; refine HO_b2sr (l := bs) 0 rfl rfl rfl rfl rfl rfl rfl rdA ?_) | (refine HO_holdA 9 rfl rfl ?_; refine HO_b2sr (l := bs) 0 rfl rfl rfl rfl rfl rfl rfl rdA ?_) | (refine HO_holdA 10 rfl rfl ?_; refine HO_b2sr (l := bs) 0 rfl rfl rfl rfl rfl rfl rfl rdA ?_) | (refine HO_holdA 11 rfl rfl ?_; refine HO_b2sr (l := bs) 0 rfl rfl rfl rfl rfl rfl rfl rdA ?_))) | exact HO_seg rfl rfl | refine S1 ?_ | (refine S2 ?_; intro _) | (refine S3 ?_; intro _ _) | (refine S4 ?_; intro _ _ _) | (refine HO_g 2 rfl ?_; (first | apply HO_and rfl rfl rfl rfl rfl rfl rfl rfl rfl | apply HO_or rfl rfl rfl rfl rfl rfl rfl rfl rfl)) | refine S5 ?_ | (intro hb; try replace hb := simB hb; try exact kill hb))
    ((first | apply HX_ret | apply HX_retn); (repeat (first | exact Res_nil | apply Res_tmp rfl | apply Res_ce rfl rfl rfl)); unfold RetQ; refine ⟨(), trivial, ?_, Keeps.nil⟩)
    rfl
  | some y =>
    obtain ⟨b, q⟩ := y
    rw [hp] at c3 c4
    unfold agV at c3
    unfold pgV at c4
    dsimp only [pfV] at c2 c3 c4 c5 c6 c7
    refine Tri_of (N := Tryd.f7.ntmps) (c := bodyOf Tryd.f7) Tryd.func7 rfl rfl rfl rfl (fun w0 S0 => ?_)
    dsimp only [pfV]
    repeat' (first | refine SW ?_ | refine SD ?_ | (with_reducible refine HO_rw (congrArg Value.bool (andT _ _)) ?_) | (with_reducible refine HO_rw (congrArg Value.bool (andN _ _)) ?_) | (refine HO_k 12 rfl ?_; refine HO_callq rfl rfl rfl rfl (c1) (fun _ _ => rfl) (srcsA) rfl rfl sqA ?_) | (refine HO_k 12 rfl ?_; refine HO_call rfl rfl rfl rfl (c2) rfl (trivial) rfl rfl soA ?_; intro ⟨xA, xc⟩ hxx; dsimp only [List.cons_append, List.nil_append]) | (refine HO_k 12 rfl ?_; refine HO_callq rfl rfl rfl rfl (c3) (fun _ _ => rfl) (srcsA) rfl rfl sqA ?_) | (refine HO_k 12 rfl ?_; refine HO_callq rfl rfl rfl rfl (c4) (fun _ _ => rfl) (srcsA) rfl rfl sqA ?_) | (refine HO_k 12 rfl ?_; refine HO_callq rfl rfl rfl rfl (c5) (fun _ _ => rfl) (trivial) rfl rfl sqA ?_) | exact HO_seg rfl rfl | refine S1 ?_ | (refine S2 ?_; intro _) | (refine S3 ?_; intro _ _) | (refine S4 ?_; intro _ _ _) | (refine HO_g 2 rfl ?_; (first | apply HO_and rfl rfl rfl rfl rfl rfl rfl rfl rfl | apply HO_or rfl rfl rfl rfl rfl rfl rfl rfl rfl)) | refine S5 ?_ | (intro hb; try replace hb := simB hb; try exact kill hb))
    rename_i b3 b2 b1 b0 A1 d1 A2 d2
    have eM : [] ++ List.map bE bs ++ List.map bE l = List.map bE (bs ++ l) := by rw [List.map_append]; rfl
    have eL : 0 + bs.length + l.length = (bs ++ l).length := by rw [List.length_append]; omega
    rw [eM, eL]
    repeat' (first | refine SW ?_ | refine SD ?_ | (with_reducible refine HO_rw (congrArg Value.bool (andT _ _)) ?_) | (with_reducible refine HO_rw (congrArg Value.bool hstr) ?_) | (refine HO_k 12 rfl ?_; refine HO_callq rfl rfl rfl rfl (c7 _ _) (fun _ _ => rfl) (by first | exact AllSrc.own 3 rfl rfl trivial | exact AllSrc.own 4 rfl rfl trivial | exact AllSrc.own 2 rfl rfl trivial | exact AllSrc.own 5 rfl rfl trivial) rfl rfl sqA ?_) | refine HC_lex rfl rfl (by decide +kernel) rfl rfl ?_ | (refine HO_k 12 rfl ?_; refine HO_call rfl rfl rfl rfl (c6) rfl (trivial) rfl rfl soA ?_; intro ⟨yA, yc⟩ hyy; dsimp only [List.cons_append, List.nil_append]) | (refine HO_k 7 rfl ?_; (first | (refine HO_holdA 0 rfl rfl ?_; refine HO_b2sr (l := bs) 0 rfl rfl rfl rfl rfl rfl rfl rdA ?_) | (refine HO_holdA 1 rfl rfl ?_; refine HO_b2sr (l := bs) 0 rfl rfl rfl rfl rfl rfl rfl rdA ?_) | (refine HO_holdA 2 rfl rfl ?_; refine HO_b2sr (l := bs) 0 rfl rfl rfl rfl rfl rfl rfl rdA ?_) | (refine HO_holdA 3 rfl rfl ?_; refine HO_b2sr (l := bs) 0 rfl rfl rfl rfl rfl rfl rfl rdA ?_) | (refine HO_holdA 4 rfl rfl ?_; refine HO_b2sr (l := bs) 0 rfl rfl rfl rfl rfl rfl rfl rdA ?_) | (refine HO_holdA 5 rfl rfl ?_; refine HO_b2sr (l := bs) 0 rfl rfl rfl rfl rfl rfl rfl rdA ?_) | (refine HO_holdA 6 rfl rfl ?_; refine HO_b2sr (l := bs) 0 rfl rfl rfl rfl rfl rfl rfl rdA ?_) | (refine HO_holdA 7 rfl rfl ?_; refine HO_b2sr (l := bs) 0 rfl rfl rfl rfl rfl rfl rfl rdA ?_) | (refine HO_holdA 8 rfl rfl ?_; refine HO_b2sr (l := bs) 0 rfl rfl rfl rfl rfl rfl rfl rdA ?_) | (refine HO_holdA 9 rfl rfl ?_; refine HO_b2sr (l := bs) 0 rfl rfl rfl rfl rfl rfl rfl rdA ?_) | (refine HO_holdA 10 rfl rfl ?_; refine HO_b2sr (l := bs) 0 rfl rfl rfl rfl rfl rfl rfl rdA ?_) | (refine HO_holdA 11 rfl rfl ?_; refine HO_b2sr (l := bs) 0 rfl rfl rfl rfl rfl rfl rfl rdA ?_))) | exact HO_seg rfl rfl | refine S1 ?_ | (refine S2 ?_; intro _) | (refine S3 ?_; intro _ _) | (refine S4 ?_; intro _ _ _) | (refine HO_g 2 rfl ?_; (first | apply HO_and rfl rfl rfl rfl rfl rfl rfl rfl rfl | apply HO_or rfl rfl rfl rfl rfl rfl rfl rfl rfl)) | refine S5 ?_ | (intro hb; try replace hb := simB hb; try exact kill hb))
    ((first | apply HX_ret | apply HX_retn); (repeat (first | exact Res_nil | apply Res_tmp rfl | apply Res_ce rfl rfl rfl)); unfold RetQ; refine ⟨(), trivial, ?_, Keeps.nil⟩)
    rfl
end Go.Proofs.YtdeeokkkcfkbjaaDoor
