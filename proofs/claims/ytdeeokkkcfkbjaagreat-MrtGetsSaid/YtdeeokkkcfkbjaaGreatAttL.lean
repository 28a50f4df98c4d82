/- attr's reading of one attribute. -/
import Derived.Test.YtdeeokkkcfkbjaaGreatAttK
namespace Go.Proofs.YtdeeokkkcfkbjaaGreat
set_option linter.unusedVariables false
set_option linter.unusedSimpArgs false
open Go.RowKit
attribute [local irreducible] HC HX HO Tri eP adr

theorem flagsI_neg {k : Nat} (h : ¬ (k = 1 ∨ k = 2 ∨ k = 3 ∨ k = 4 ∨ k = 5 ∨ k = 8)) : flagsI k = -1 := by
  unfold flagsI
  rw [if_neg (by omega), if_neg (by omega), if_neg (by omega)]
set_option maxHeartbeats 8000000 in
theorem flags_t (k : Nat) : Tri Tryz.prog 113 [.int .i64 k] [] [] (fun _ : Unit => True) (fun _ => .int .i64 (flagsI k)) (fun _ => []) := by
  by_cases h : k = 1 ∨ k = 2 ∨ k = 3 ∨ k = 4 ∨ k = 5 ∨ k = 8
  · rcases h with rfl | rfl | rfl | rfl | rfl | rfl
    all_goals
      refine Tri_of (N := Tryz.f113.ntmps) (c := bodyOf Tryz.f113) Tryz.func113 rfl rfl rfl rfl (fun w0 S0 => ?_)
      repeat' (first | refine SW ?_ | refine SD ?_ | exact HO_seg rfl rfl | refine S1 ?_ | (refine S2 ?_; intro _) | (refine S3 ?_; intro _ _) | (refine S4 ?_; intro _ _ _) | (refine HO_g 2 rfl ?_; (first | apply HO_and rfl rfl rfl rfl rfl rfl rfl rfl rfl | apply HO_or rfl rfl rfl rfl rfl rfl rfl rfl rfl)) | refine S5 ?_ | (intro hb; try replace hb := simB hb; try exact kill hb))
      ((first | apply HX_ret | apply HX_retn); (repeat (first | exact Res_nil | apply Res_tmp rfl | apply Res_ce rfl rfl rfl)); unfold RetQ; refine ⟨(), trivial, ?_, Keeps.nil⟩)
      rfl
  · rw [flagsI_neg h]
    refine Tri_of (N := Tryz.f113.ntmps) (c := bodyOf Tryz.f113) Tryz.func113 rfl rfl rfl rfl (fun w0 S0 => ?_)
    repeat' (first | refine SW ?_ | refine SD ?_ | exact HO_seg rfl rfl | refine S1 ?_ | (refine S2 ?_; intro _) | (refine S3 ?_; intro _ _) | (refine S4 ?_; intro _ _ _) | (refine HO_g 2 rfl ?_; (first | apply HO_and rfl rfl rfl rfl rfl rfl rfl rfl rfl | apply HO_or rfl rfl rfl rfl rfl rfl rfl rfl rfl)) | refine S5 ?_ | (intro hb; try replace hb := simB hb; try exact kill hb))
    ((first | apply HX_ret | apply HX_retn); (repeat (first | exact Res_nil | apply Res_tmp rfl | apply Res_ce rfl rfl rfl)); unfold RetQ; refine ⟨(), trivial, ?_, Keeps.nil⟩)
    rfl
set_option maxHeartbeats 8000000 in
theorem rflags_t (k : Nat) : Tri Tryz.prog 94 [.int .i64 k] [] [] (fun _ : Unit => True) (fun _ => .int .i64 (flagsI k)) (fun _ => []) := by
  by_cases h : k = 1 ∨ k = 2 ∨ k = 3 ∨ k = 4 ∨ k = 5 ∨ k = 8
  · rcases h with rfl | rfl | rfl | rfl | rfl | rfl
    all_goals
      refine Tri_of (N := Tryz.f94.ntmps) (c := bodyOf Tryz.f94) Tryz.func94 rfl rfl rfl rfl (fun w0 S0 => ?_)
      repeat' (first | refine SW ?_ | refine SD ?_ | exact HO_seg rfl rfl | refine S1 ?_ | (refine S2 ?_; intro _) | (refine S3 ?_; intro _ _) | (refine S4 ?_; intro _ _ _) | (refine HO_g 2 rfl ?_; (first | apply HO_and rfl rfl rfl rfl rfl rfl rfl rfl rfl | apply HO_or rfl rfl rfl rfl rfl rfl rfl rfl rfl)) | refine S5 ?_ | (intro hb; try replace hb := simB hb; try exact kill hb))
      ((first | apply HX_ret | apply HX_retn); (repeat (first | exact Res_nil | apply Res_tmp rfl | apply Res_ce rfl rfl rfl)); unfold RetQ; refine ⟨(), trivial, ?_, Keeps.nil⟩)
      rfl
  · rw [flagsI_neg h]
    refine Tri_of (N := Tryz.f94.ntmps) (c := bodyOf Tryz.f94) Tryz.func94 rfl rfl rfl rfl (fun w0 S0 => ?_)
    repeat' (first | refine SW ?_ | refine SD ?_ | exact HO_seg rfl rfl | refine S1 ?_ | (refine S2 ?_; intro _) | (refine S3 ?_; intro _ _) | (refine S4 ?_; intro _ _ _) | (refine HO_g 2 rfl ?_; (first | apply HO_and rfl rfl rfl rfl rfl rfl rfl rfl rfl | apply HO_or rfl rfl rfl rfl rfl rfl rfl rfl rfl)) | refine S5 ?_ | (intro hb; try replace hb := simB hb; try exact kill hb))
    ((first | apply HX_ret | apply HX_retn); (repeat (first | exact Res_nil | apply Res_tmp rfl | apply Res_ce rfl rfl rfl)); unfold RetQ; refine ⟨(), trivial, ?_, Keeps.nil⟩)
    rfl

def updN (k : Nat) (a : AttS) (n : Int) : AttS := if k = 3 then { a with nxt := IntKind.u32.wrap n } else if k = 4 then { a with med := n } else { a with pref := n }
set_option maxHeartbeats 8000000 in
theorem number_t (b : Nat) (a : AttS) (four : Bool) (seen : Int) (k : Nat) (hk : k = 3 ∨ k = 4 ∨ k = 5) (dA : Option Addr) (dc : Nat) (d : List UInt8) :
    Tri Tryz.prog 117 [pt b, .int .i64 k, .slice dA d.length dc] [arr bE 1 dA d] [cel b TG (rgC a four seen)] (fun _ : Unit => True) (fun _ => .bool (decide ((d.length : Int) = 4) && (!decide ((k : Int) = 3) || !decide ((ngetR d).1 = 0))))
      (fun _ => [cel b TG (rgC (updN k a (ngetR d).1) four seen)]) := by
  rcases hk with rfl | rfl | rfl
  all_goals
    refine Tri_of (N := Tryz.f117.ntmps) (c := bodyOf Tryz.f117) Tryz.func117 rfl rfl rfl rfl (fun w0 S0 => ?_)
    dsimp only [pt]
    repeat' (first | refine SW ?_ | refine SD ?_ | (refine HO_k 12 rfl ?_; refine HO_callq rfl rfl rfl rfl (nget_t dA d.length dc d rfl) (fun _ _ => rfl) (AllSrc.at_ 0 rfl trivial) rfl rfl sqA ?_) | exact HO_seg rfl rfl | refine S1 ?_ | (refine S2 ?_; intro _) | (refine S3 ?_; intro _ _) | (refine S4 ?_; intro _ _ _) | (refine HO_g 2 rfl ?_; (first | apply HO_and rfl rfl rfl rfl rfl rfl rfl rfl rfl | apply HO_or rfl rfl rfl rfl rfl rfl rfl rfl rfl)) | refine S5 ?_ | (intro hb; try replace hb := simB hb; try exact kill hb))
    ((first | apply HX_ret | apply HX_retn); (repeat (first | exact Res_nil | apply Res_tmp rfl | apply Res_ce rfl rfl rfl)); unfold RetQ; refine ⟨(), trivial, rfl, Keeps.cons Ent.rfl_ Keeps.nil⟩)
end Go.Proofs.YtdeeokkkcfkbjaaGreat
