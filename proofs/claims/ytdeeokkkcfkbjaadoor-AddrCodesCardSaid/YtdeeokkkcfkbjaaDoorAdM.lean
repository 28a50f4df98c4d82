/- The laws of prefixes and their texts walked. -/
import Derived.Test.YtdeeokkkcfkbjaaDoorAdL
namespace Go.Proofs.YtdeeokkkcfkbjaaDoor
set_option linter.unusedVariables false
set_option linter.unusedSimpArgs false
open Go.RowKit
attribute [local irreducible] HC HX HO Tri eP adr

theorem andT (x y : Int) : (decide (x = x) && decide (y = y)) = true := by simp
theorem sba_ne (l l' : List UInt8) : (!(ByteArray.toList ⟨l.toArray⟩ == ByteArray.toList ⟨l'.toArray⟩)) = !decide (l = l') := by rw [sba_eq]
theorem HO_neg {m : Md} {P : Program} {N : Nat} {w0 : World} {S0 : Foot} {ops : List Oper} {i : Nat} {lq : List Nat} {env : Env} {ro rw : List SL} {K : Act → World → Prop} {d : Nat} {ty : TypeId} {pos : String} {aft : Array Edge} {g : Option (Nat × Bool)}
    {T : TypeId} {x : Operand} {k : IntKind} {p : Int} (ho : ops[i]? = some ⟨some d, .unOp .neg T x, ty, pos, aft, g⟩)
    (hx : Env.ev env x = some (.int k p)) (hw : wantE ops env g = some true) (hN : Nat.blt d N = true) (hr : rdyB m ops i lq = true)
    (h : HO m P N w0 S0 ops lq ((d, .int k (k.wrap (-p))) :: env) ro rw K) : HO m P N w0 S0 ops (i :: lq) env ro rw K := by
  refine HO_val ho hw rfl hN hr (fun a w ha hf => ?_) h
  simp [execOp, Op.unary, Op.intArith, Sem.run_bind, ha.ev hx]
set_option maxHeartbeats 16000000 in
theorem lawMakes (m : Int) (a : Nat) (ha : a < 4294967296) (n : Int) (pa : Nat) (hpa : pa < 4294967296) (pn : Int) :
    Tri Tryd.prog 3 [.int .u32 a, .int .i64 n, pfV pa pn] [tab1, maxLen0 m] [] (fun _ : Unit => True) (fun _ => .bool true) (fun _ => []) := by
  have c1 := alives_t m
  have c2 := amake_t a ha n
  have c3 := rmake_t a ha n
  have c4 := addrCheck_t pa hpa pn
  have c5 := rchk_t pa hpa pn
  have c6 := abit_t a ha n
  have c7 := rbitx_t a ha n
  have c8 := aholds_t pa hpa pn a ha
  have c9 := rholds_t pa hpa pn a ha
  dsimp only [pfV] at c2 c3 c4 c5 c8 c9
  cases hx : okX pa pn
  all_goals rw [hx] at c4 c5
  · refine Tri_of (N := Tryd.f3.ntmps) (c := bodyOf Tryd.f3) Tryd.func3 rfl rfl rfl rfl (fun w0 S0 => ?_)
    dsimp only [pfV]
    repeat' (first | refine SW ?_ | refine SD ?_ | (with_reducible refine HO_rw (congrArg Value.bool (andT _ _)) ?_) | (refine HO_k 12 rfl ?_; refine HO_callq rfl rfl rfl rfl (c1) (fun _ _ => rfl) (srcsA) rfl rfl sqA ?_) | (refine HO_k 12 rfl ?_; refine HO_callq rfl rfl rfl rfl (c2) (fun _ _ => rfl) (trivial) rfl rfl sqA ?_) | (refine HO_k 12 rfl ?_; refine HO_callq rfl rfl rfl rfl (c3) (fun _ _ => rfl) (trivial) rfl rfl sqA ?_) | (refine HO_k 12 rfl ?_; refine HO_callq rfl rfl rfl rfl (c4) (fun _ _ => rfl) (trivial) rfl rfl sqA ?_) | (refine HO_k 12 rfl ?_; refine HO_callq rfl rfl rfl rfl (c5) (fun _ _ => rfl) (trivial) rfl rfl sqA ?_) | (refine HO_k 12 rfl ?_; refine HO_callq rfl rfl rfl rfl (c6) (fun _ _ => rfl) (trivial) rfl rfl sqA ?_) | (refine HO_k 12 rfl ?_; refine HO_callq rfl rfl rfl rfl (c7) (fun _ _ => rfl) (trivial) rfl rfl sqA ?_) | (refine HO_k 12 rfl ?_; refine HO_callq rfl rfl rfl rfl (c8) (fun _ _ => rfl) (trivial) rfl rfl sqA ?_) | (refine HO_k 12 rfl ?_; refine HO_callq rfl rfl rfl rfl (c9) (fun _ _ => rfl) (trivial) rfl rfl sqA ?_) | exact HO_seg rfl rfl | refine S1 ?_ | (refine S2 ?_; intro _) | (refine S3 ?_; intro _ _) | (refine S4 ?_; intro _ _ _) | (refine HO_g 2 rfl ?_; (first | apply HO_and rfl rfl rfl rfl rfl rfl rfl rfl rfl | apply HO_or rfl rfl rfl rfl rfl rfl rfl rfl rfl)) | refine S5 ?_ | (intro hb; try replace hb := simB hb; try exact kill hb))
    ((first | apply HX_ret | apply HX_retn); (repeat (first | exact Res_nil | apply Res_tmp rfl | apply Res_ce rfl rfl rfl)); unfold RetQ; refine ⟨(), trivial, ?_, Keeps.nil⟩)
    rfl
  · refine Tri_of (N := Tryd.f3.ntmps) (c := bodyOf Tryd.f3) Tryd.func3 rfl rfl rfl rfl (fun w0 S0 => ?_)
    dsimp only [pfV]
    repeat' (first | refine SW ?_ | refine SD ?_ | (with_reducible refine HO_rw (congrArg Value.bool (andT _ _)) ?_) | (refine HO_k 12 rfl ?_; refine HO_callq rfl rfl rfl rfl (c1) (fun _ _ => rfl) (srcsA) rfl rfl sqA ?_) | (refine HO_k 12 rfl ?_; refine HO_callq rfl rfl rfl rfl (c2) (fun _ _ => rfl) (trivial) rfl rfl sqA ?_) | (refine HO_k 12 rfl ?_; refine HO_callq rfl rfl rfl rfl (c3) (fun _ _ => rfl) (trivial) rfl rfl sqA ?_) | (refine HO_k 12 rfl ?_; refine HO_callq rfl rfl rfl rfl (c4) (fun _ _ => rfl) (trivial) rfl rfl sqA ?_) | (refine HO_k 12 rfl ?_; refine HO_callq rfl rfl rfl rfl (c5) (fun _ _ => rfl) (trivial) rfl rfl sqA ?_) | (refine HO_k 12 rfl ?_; refine HO_callq rfl rfl rfl rfl (c6) (fun _ _ => rfl) (trivial) rfl rfl sqA ?_) | (refine HO_k 12 rfl ?_; refine HO_callq rfl rfl rfl rfl (c7) (fun _ _ => rfl) (trivial) rfl rfl sqA ?_) | (refine HO_k 12 rfl ?_; refine HO_callq rfl rfl rfl rfl (c8) (fun _ _ => rfl) (trivial) rfl rfl sqA ?_) | (refine HO_k 12 rfl ?_; refine HO_callq rfl rfl rfl rfl (c9) (fun _ _ => rfl) (trivial) rfl rfl sqA ?_) | exact HO_seg rfl rfl | refine S1 ?_ | (refine S2 ?_; intro _) | (refine S3 ?_; intro _ _) | (refine S4 ?_; intro _ _ _) | (refine HO_g 2 rfl ?_; (first | apply HO_and rfl rfl rfl rfl rfl rfl rfl rfl rfl | apply HO_or rfl rfl rfl rfl rfl rfl rfl rfl rfl)) | refine S5 ?_ | (intro hb; try replace hb := simB hb; try exact kill hb))
    ((first | apply HX_ret | apply HX_retn); (repeat (first | exact Res_nil | apply Res_tmp rfl | apply Res_ce rfl rfl rfl)); unfold RetQ; refine ⟨(), trivial, ?_, Keeps.nil⟩)
    rfl
set_option maxHeartbeats 16000000 in
theorem lawOrders (m : Int) (a : Nat) (ha : a < 4294967296) (n : Int) (b : Nat) (hb : b < 4294967296) (k : Int) :
    Tri Tryd.prog 4 [pfV a n, pfV b k] [tab1, maxLen0 m] [] (fun _ : Unit => True) (fun _ => .bool true) (fun _ => []) := by
  have c1 := alives_t m
  have c2 := pcmp_t a n b k
  have c3 := rcmp_t a n b k
  have c4 := pcmp_t b k a n
  have c5 := awithin_t a ha n b hb k
  have c6 := rwithin_t a ha n b hb k
  rw [cmp_flip] at c4
  have hr : -1 ≤ cmpP a n b k ∧ cmpP a n b k ≤ 1 := by
    rw [cmpP_eq]
    split
    · omega
    · split <;> omega
  dsimp only [pfV] at c3 c5 c6
  generalize cmpP a n b k = z at *
  refine Tri_of (N := Tryd.f4.ntmps) (c := bodyOf Tryd.f4) Tryd.func4 rfl rfl rfl rfl (fun w0 S0 => ?_)
  dsimp only [pfV]
  repeat' (first | refine SW ?_ | refine SD ?_ | (refine HO_k 0 rfl ?_; refine HO_neg rfl rfl rfl rfl rdA ?_) | (with_reducible refine HO_rw (congrArg Value.bool (andT _ _)) ?_) | (refine HO_k 12 rfl ?_; refine HO_callq rfl rfl rfl rfl (c1) (fun _ _ => rfl) (srcsA) rfl rfl sqA ?_) | (refine HO_k 12 rfl ?_; refine HO_callq rfl rfl rfl rfl (c2) (fun _ _ => rfl) (trivial) rfl rfl sqA ?_) | (refine HO_k 12 rfl ?_; refine HO_callq rfl rfl rfl rfl (c3) (fun _ _ => rfl) (trivial) rfl rfl sqA ?_) | (refine HO_k 12 rfl ?_; refine HO_callq rfl rfl rfl rfl (c4) (fun _ _ => rfl) (trivial) rfl rfl sqA ?_) | (refine HO_k 12 rfl ?_; refine HO_callq rfl rfl rfl rfl (c5) (fun _ _ => rfl) (trivial) rfl rfl sqA ?_) | (refine HO_k 12 rfl ?_; refine HO_callq rfl rfl rfl rfl (c6) (fun _ _ => rfl) (trivial) rfl rfl sqA ?_) | exact HO_seg rfl rfl | refine S1 ?_ | (refine S2 ?_; intro _) | (refine S3 ?_; intro _ _) | (refine S4 ?_; intro _ _ _) | (refine HO_g 2 rfl ?_; (first | apply HO_and rfl rfl rfl rfl rfl rfl rfl rfl rfl | apply HO_or rfl rfl rfl rfl rfl rfl rfl rfl rfl)) | refine S5 ?_ | (intro hb; try replace hb := simB hb; try exact kill hb))
  ((first | apply HX_ret | apply HX_retn); (repeat (first | exact Res_nil | apply Res_tmp rfl | apply Res_ce rfl rfl rfl)); unfold RetQ; refine ⟨(), trivial, ?_, Keeps.nil⟩)
  rfl
set_option maxHeartbeats 16000000 in
theorem lawApart (m : Int) (a : Nat) (ha : a < 4294967296) (n : Int) (b : Nat) (hb : b < 4294967296) (k : Int) (x : Nat) (hx : x < 4294967296) :
    Tri Tryd.prog 8 [pfV a n, pfV b k, .int .u32 x] [tab1, maxLen0 m] [] (fun _ : Unit => True) (fun _ => .bool true) (fun _ => []) := by
  have c1 := alives_t m
  have c2 := aholds_t a ha n x hx
  have c3 := aholds_t b hb k x hx
  have c4 := awithin_t a ha n b hb k
  have c5 := awithin_t b hb k a ha n
  have hap := apart a n b k x
  dsimp only [pfV] at c2 c3 c4 c5
  cases h1 : hoX a n x
  · rw [h1] at c2
    refine Tri_of (N := Tryd.f8.ntmps) (c := bodyOf Tryd.f8) Tryd.func8 rfl rfl rfl rfl (fun w0 S0 => ?_)
    dsimp only [pfV]
    repeat' (first | refine SW ?_ | refine SD ?_ | (refine HO_k 12 rfl ?_; refine HO_callq rfl rfl rfl rfl (c1) (fun _ _ => rfl) (srcsA) rfl rfl sqA ?_) | (refine HO_k 12 rfl ?_; refine HO_callq rfl rfl rfl rfl (c2) (fun _ _ => rfl) (trivial) rfl rfl sqA ?_) | exact HO_seg rfl rfl | refine S1 ?_ | (refine S2 ?_; intro _) | (refine S3 ?_; intro _ _) | (refine S4 ?_; intro _ _ _) | (refine HO_g 2 rfl ?_; (first | apply HO_and rfl rfl rfl rfl rfl rfl rfl rfl rfl | apply HO_or rfl rfl rfl rfl rfl rfl rfl rfl rfl)) | refine S5 ?_ | (intro hb; try replace hb := simB hb; try exact kill hb))
    ((first | apply HX_ret | apply HX_retn); (repeat (first | exact Res_nil | apply Res_tmp rfl | apply Res_ce rfl rfl rfl)); unfold RetQ; refine ⟨(), trivial, ?_, Keeps.nil⟩)
    rfl
  cases h2 : hoX b k x
  · rw [h1] at c2
    rw [h2] at c3
    refine Tri_of (N := Tryd.f8.ntmps) (c := bodyOf Tryd.f8) Tryd.func8 rfl rfl rfl rfl (fun w0 S0 => ?_)
    dsimp only [pfV]
    repeat' (first | refine SW ?_ | refine SD ?_ | (refine HO_k 12 rfl ?_; refine HO_callq rfl rfl rfl rfl (c1) (fun _ _ => rfl) (srcsA) rfl rfl sqA ?_) | (refine HO_k 12 rfl ?_; refine HO_callq rfl rfl rfl rfl (c2) (fun _ _ => rfl) (trivial) rfl rfl sqA ?_) | (refine HO_k 12 rfl ?_; refine HO_callq rfl rfl rfl rfl (c3) (fun _ _ => rfl) (trivial) rfl rfl sqA ?_) | exact HO_seg rfl rfl | refine S1 ?_ | (refine S2 ?_; intro _) | (refine S3 ?_; intro _ _) | (refine S4 ?_; intro _ _ _) | (refine HO_g 2 rfl ?_; (first | apply HO_and rfl rfl rfl rfl rfl rfl rfl rfl rfl | apply HO_or rfl rfl rfl rfl rfl rfl rfl rfl rfl)) | refine S5 ?_ | (intro hb; try replace hb := simB hb; try exact kill hb))
    ((first | apply HX_ret | apply HX_retn); (repeat (first | exact Res_nil | apply Res_tmp rfl | apply Res_ce rfl rfl rfl)); unfold RetQ; refine ⟨(), trivial, ?_, Keeps.nil⟩)
    rfl
  have h3 := hap h1 h2
  rw [h1] at c2
  rw [h2] at c3
  cases h4 : wiX a n b k
  · have h5 : wiX b k a n = true := by
      rcases h3 with h | h
      · rw [h4] at h; cases h
      · exact h
    rw [h4] at c4
    rw [h5] at c5
    refine Tri_of (N := Tryd.f8.ntmps) (c := bodyOf Tryd.f8) Tryd.func8 rfl rfl rfl rfl (fun w0 S0 => ?_)
    dsimp only [pfV]
    repeat' (first | refine SW ?_ | refine SD ?_ | (refine HO_k 12 rfl ?_; refine HO_callq rfl rfl rfl rfl (c1) (fun _ _ => rfl) (srcsA) rfl rfl sqA ?_) | (refine HO_k 12 rfl ?_; refine HO_callq rfl rfl rfl rfl (c2) (fun _ _ => rfl) (trivial) rfl rfl sqA ?_) | (refine HO_k 12 rfl ?_; refine HO_callq rfl rfl rfl rfl (c3) (fun _ _ => rfl) (trivial) rfl rfl sqA ?_) | (refine HO_k 12 rfl ?_; refine HO_callq rfl rfl rfl rfl (c4) (fun _ _ => rfl) (trivial) rfl rfl sqA ?_) | (refine HO_k 12 rfl ?_; refine HO_callq rfl rfl rfl rfl (c5) (fun _ _ => rfl) (trivial) rfl rfl sqA ?_) | exact HO_seg rfl rfl | refine S1 ?_ | (refine S2 ?_; intro _) | (refine S3 ?_; intro _ _) | (refine S4 ?_; intro _ _ _) | (refine HO_g 2 rfl ?_; (first | apply HO_and rfl rfl rfl rfl rfl rfl rfl rfl rfl | apply HO_or rfl rfl rfl rfl rfl rfl rfl rfl rfl)) | refine S5 ?_ | (intro hb; try replace hb := simB hb; try exact kill hb))
    ((first | apply HX_ret | apply HX_retn); (repeat (first | exact Res_nil | apply Res_tmp rfl | apply Res_ce rfl rfl rfl)); unfold RetQ; refine ⟨(), trivial, ?_, Keeps.nil⟩)
    rfl
  · rw [h4] at c4
    refine Tri_of (N := Tryd.f8.ntmps) (c := bodyOf Tryd.f8) Tryd.func8 rfl rfl rfl rfl (fun w0 S0 => ?_)
    dsimp only [pfV]
    repeat' (first | refine SW ?_ | refine SD ?_ | (refine HO_k 12 rfl ?_; refine HO_callq rfl rfl rfl rfl (c1) (fun _ _ => rfl) (srcsA) rfl rfl sqA ?_) | (refine HO_k 12 rfl ?_; refine HO_callq rfl rfl rfl rfl (c2) (fun _ _ => rfl) (trivial) rfl rfl sqA ?_) | (refine HO_k 12 rfl ?_; refine HO_callq rfl rfl rfl rfl (c3) (fun _ _ => rfl) (trivial) rfl rfl sqA ?_) | (refine HO_k 12 rfl ?_; refine HO_callq rfl rfl rfl rfl (c4) (fun _ _ => rfl) (trivial) rfl rfl sqA ?_) | exact HO_seg rfl rfl | refine S1 ?_ | (refine S2 ?_; intro _) | (refine S3 ?_; intro _ _) | (refine S4 ?_; intro _ _ _) | (refine HO_g 2 rfl ?_; (first | apply HO_and rfl rfl rfl rfl rfl rfl rfl rfl rfl | apply HO_or rfl rfl rfl rfl rfl rfl rfl rfl rfl)) | refine S5 ?_ | (intro hb; try replace hb := simB hb; try exact kill hb))
    ((first | apply HX_ret | apply HX_retn); (repeat (first | exact Res_nil | apply Res_tmp rfl | apply Res_ce rfl rfl rfl)); unfold RetQ; refine ⟨(), trivial, ?_, Keeps.nil⟩)
    rfl
end Go.Proofs.YtdeeokkkcfkbjaaDoor
