/- Settings held against each other. -/
import Derived.Test.YtbhiojedmkcfoaaGreatDoorCfD
namespace Go.Proofs.YtbhiojedmkcfoaaGreatDoor
set_option linter.unusedVariables false
set_option linter.unusedSimpArgs false
open Go.RowKit
attribute [local irreducible] HC HX HO Tri eP adr

theorem memA {α : Type} {e : α} {l : List α} (h : e ∈ l := by first | exact List.Mem.head _ | exact .tail _ (.head _) | exact .tail _ (.tail _ (.head _)) | exact .tail _ (.tail _ (.tail _ (.head _))) | exact .tail _ (.tail _ (.tail _ (.tail _ (.head _)))) | exact .tail _ (.tail _ (.tail _ (.tail _ (.tail _ (.head _)))))) : e ∈ l := h
@[reducible] def TAr : Nat := 112
set_option maxHeartbeats 16000000 in
theorem csame_t (c d : CfS) (hc : CfL c) (hd : CfL d) : Tri Tryz.prog 25 [.agg c.e.toArray, .agg d.e.toArray] [arr IfQ.e 5 c.iA c.q.ifs, arr IfQ.e 5 d.iA d.q.ifs, arr iE 1 c.dA c.q.deny, arr iE 1 d.dA d.q.deny] [] (fun _ : Unit => True) (fun _ => .bool (cfSame c.q d.q)) (fun _ => []) := by
  have h1 := fields_t
  have h3 := ceqN_t c.iA c.q.ifs.length c.ic c.q.ifs rfl d.iA d.q.ifs.length d.ic d.q.ifs rfl (by have := hc.1; omega) (by have := hd.1; omega)
  have h4 := ceqI_t c.dA c.q.deny.length c.dc c.q.deny rfl d.dA d.q.deny.length d.dc d.q.deny rfl (by have := hc.2.1; omega) (by have := hd.2.1; omega)
  refine Tri_of (N := Tryz.f25.ntmps) (c := bodyOf Tryz.f25) Tryz.func25 rfl rfl rfl rfl (fun w0 S0 => ?_)
  repeat' (first | refine SW ?_ | refine SD ?_ | (refine HO_k 12 rfl ?_; refine HO_call rfl rfl rfl rfl (h1 _) rfl (trivial) rfl rfl soA ?_; intro b hb; dsimp only [List.cons_append, List.nil_append]) | exact HO_seg rfl rfl | refine S1 ?_ | (refine S2 ?_; intro _) | (refine S3 ?_; intro _ _) | (refine S4 ?_; intro _ _ _) | (refine HO_g 2 rfl ?_; (first | apply HO_and rfl rfl rfl rfl rfl rfl rfl rfl rfl | apply HO_or rfl rfl rfl rfl rfl rfl rfl rfl rfl)) | refine S5 ?_ | (intro hb; try replace hb := simB hb; try exact kill hb))
  rename_i bc bd q1 hq1 pa pb
  refine HC_loop (α := Nat) (fun j => j ≤ 18 ∧ ∀ q, q < j → (numsOf c.q)[q]? = (numsOf d.q)[q]?) (fun j => [(10, .int .i64 j), (6, pt pb), (5, pt pa), (3, pt bd), (2, pt bc)]) (fun _ => [cel pb TAr (ptrsL bd b), cel pa TAr (ptrsL bc q1), cel b 3 [.int .i64 0], cel q1 3 [.int .i64 0], cel bd TCf d.e, cel bc TCf c.e]) (fun j => 18 - j) rfl 0 ⟨Nat.zero_le _, fun q hq => by omega⟩ ⟨rfl, rfl, rfl, rfl, rfl, trivial⟩ rfl ?_
  rintro j ⟨hj, hno⟩
  rcases Nat.lt_or_ge j 18 with hlt | hge
  · by_cases hj1 : j = 1
    · subst hj1
      repeat' (first | refine SW ?_ | refine SD ?_ | (refine HO_k 10 rfl ?_; refine HO_ixa (j := 1) rfl rfl rfl rfl hlt rfl rfl rdA ?_) | exact HO_seg rfl rfl | refine S1 ?_ | (refine S2 ?_; intro _) | (refine S3 ?_; intro _ _) | (refine S4 ?_; intro _ _ _) | (refine HO_g 2 rfl ?_; (first | apply HO_and rfl rfl rfl rfl rfl rfl rfl rfl rfl | apply HO_or rfl rfl rfl rfl rfl rfl rfl rfl rfl)) | refine S5 ?_ | (intro hb; try replace hb := simB hb; try exact kill hb))
      exact HX_at 2 ⟨⟨by omega, fun q hq => by
        rcases Nat.lt_or_ge q 1 with h | h
        · exact hno q h
        · obtain rfl : q = 1 := by omega
          rfl⟩, by show 18 - 2 < 18 - 1; omega⟩ ⟨rfl, rfl, rfl, rfl, rfl, trivial⟩ rfl
    · have p1 := ptrs_at bc q1 hlt hj1
      have p2 := ptrs_at bd b hlt hj1
      have v1 := e_at c hlt hj1
      have v2 := e_at d hlt hj1
      by_cases hxy : num c.q j = num d.q j
      · repeat' (first | refine SW ?_ | refine SD ?_ | (refine HO_k 10 rfl ?_; refine HO_ixa (j := j) rfl rfl rfl rfl hlt rfl rfl rdA ?_) | (refine HO_k 2 rfl ?_; first | refine HO_loj (hm := rfl) rfl rfl memA p1 rfl rfl rdA ?_ | refine HO_loj (hm := rfl) rfl rfl memA p2 rfl rfl rdA ?_ | refine HO_loj (hm := rfl) rfl rfl memA v1 rfl rfl rdA ?_ | refine HO_loj (hm := rfl) rfl rfl memA v2 rfl rfl rdA ?_) | exact HO_seg rfl rfl | refine S1 ?_ | (refine S2 ?_; intro _) | (refine S3 ?_; intro _ _) | (refine S4 ?_; intro _ _ _) | (refine HO_g 2 rfl ?_; (first | apply HO_and rfl rfl rfl rfl rfl rfl rfl rfl rfl | apply HO_or rfl rfl rfl rfl rfl rfl rfl rfl rfl)) | refine S5 ?_ | (intro hb; try replace hb := simB hb; try exact kill hb))
        exact HX_at (j + 1) ⟨⟨hlt, fun q hq => by
          rcases Nat.lt_or_ge q j with h | h
          · exact hno q h
          · obtain rfl : q = j := by omega
            rw [nums_at c.q hlt hj1, nums_at d.q hlt hj1, hxy]⟩, by show 18 - (j + 1) < 18 - j; omega⟩ ⟨rfl, rfl, rfl, rfl, rfl, trivial⟩ rfl
      · repeat' (first | refine SW ?_ | refine SD ?_ | (refine HO_k 10 rfl ?_; refine HO_ixa (j := j) rfl rfl rfl rfl hlt rfl rfl rdA ?_) | (refine HO_k 2 rfl ?_; first | refine HO_loj (hm := rfl) rfl rfl memA p1 rfl rfl rdA ?_ | refine HO_loj (hm := rfl) rfl rfl memA p2 rfl rfl rdA ?_ | refine HO_loj (hm := rfl) rfl rfl memA v1 rfl rfl rdA ?_ | refine HO_loj (hm := rfl) rfl rfl memA v2 rfl rfl rdA ?_) | exact HO_seg rfl rfl | refine S1 ?_ | (refine S2 ?_; intro _) | (refine S3 ?_; intro _ _) | (refine S4 ?_; intro _ _ _) | (refine HO_g 2 rfl ?_; (first | apply HO_and rfl rfl rfl rfl rfl rfl rfl rfl rfl | apply HO_or rfl rfl rfl rfl rfl rfl rfl rfl rfl)) | refine S5 ?_ | (intro hb; try replace hb := simB hb; try exact kill hb))
        ((first | apply HX_ret | apply HX_retn); (repeat (first | exact Res_nil | apply Res_tmp rfl | apply Res_ce rfl rfl rfl)); unfold RetQ; refine ⟨(), trivial, ?_, Keeps.nil⟩)
        have huv : ¬ numsOf c.q = numsOf d.q := fun e => hxy (by
          have a1 := nums_at c.q hlt hj1
          rw [e, nums_at d.q hlt hj1] at a1
          injection a1 with a1
          exact a1.symm)
        unfold cfSame
        rw [decide_eq_false huv]
        rfl
  · obtain rfl : j = 18 := by omega
    have huv : numsOf c.q = numsOf d.q := call_same rfl (fun q hq => hno q hq)
    unfold cfSame
    rw [decide_eq_true huv]
    dsimp only [CfS.e]
    repeat' (first | refine SW ?_ | refine SD ?_ | (refine HO_k 12 rfl ?_; refine HO_callq rfl rfl rfl rfl (h3) (fun _ _ => rfl) (srcsA) rfl rfl sqA ?_) | (refine HO_k 12 rfl ?_; refine HO_callq rfl rfl rfl rfl (h4) (fun _ _ => rfl) (srcsA) rfl rfl sqA ?_) | exact HO_seg rfl rfl | refine S1 ?_ | (refine S2 ?_; intro _) | (refine S3 ?_; intro _ _) | (refine S4 ?_; intro _ _ _) | (refine HO_g 2 rfl ?_; (first | apply HO_and rfl rfl rfl rfl rfl rfl rfl rfl rfl | apply HO_or rfl rfl rfl rfl rfl rfl rfl rfl rfl)) | refine S5 ?_ | (intro hb; try replace hb := simB hb; try exact kill hb))
    have he : decide (((c.q.id : Nat) : Int) = (d.q.id : Nat)) = decide (c.q.id = d.q.id) := decide_eq_decide.2 (by omega)
    rw [he, Bool.true_and]
    ((first | apply HX_ret | apply HX_retn); (repeat (first | exact Res_nil | apply Res_tmp rfl | apply Res_ce rfl rfl rfl)); unfold RetQ; refine ⟨(), trivial, ?_, Keeps.nil⟩)
    rfl
end Go.Proofs.YtbhiojedmkcfoaaGreatDoor
