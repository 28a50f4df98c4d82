/- Whether two attributes are the same; a path's length, its first number, whether one is in it. -/
import Derived.Test.YtdeeokkkcfkbjaaGreatAttJ
namespace Go.Proofs.YtdeeokkkcfkbjaaGreat
set_option linter.unusedVariables false
set_option linter.unusedSimpArgs false
open Go.RowKit
attribute [local irreducible] HC HX HO Tri eP adr

theorem all_same {α : Type} {l l' : List α} (hl : l.length = l'.length) (h : ∀ q, q < l.length → l[q]? = l'[q]?) : l = l' := by
  apply List.ext_getElem? 
  intro i
  rcases Nat.lt_or_ge i l.length with hi | hi
  · exact h i hi
  · rw [List.getElem?_eq_none hi, List.getElem?_eq_none (by omega)]
theorem dec_false {α : Type} [DecidableEq α] {l l' : List α} {j : Nat} {x y : α} (h1 : l[j]? = some x) (h2 : l'[j]? = some y) (hne : ¬ x = y) : decide (l = l') = false :=
  decide_eq_false fun e => hne (by rw [e, h2] at h1; injection h1 with h1; exact h1.symm)
set_option maxHeartbeats 4000000 in
theorem reqI_t (A : Option Addr) (n c : Nat) (l : List Int) (hn : n = l.length) (B : Option Addr) (n' c' : Nat) (l' : List Int) (hn' : n' = l'.length) (hl : l.length ≤ 1000000) (hl' : l'.length ≤ 1000000) :
    Tri Tryz.prog 93 [.slice A n c, .slice B n' c'] [arr iE 1 A l, arr iE 1 B l'] [] (fun _ : Unit => True) (fun _ => .bool (decide (l = l'))) (fun _ => []) := by
  by_cases hne : l.length = l'.length
  · refine Tri_of (N := Tryz.f93.ntmps) (c := bodyOf Tryz.f93) Tryz.func93 rfl rfl rfl rfl (fun w0 S0 => ?_)
    repeat' (first | refine SW ?_ | refine SD ?_ | exact HO_seg rfl rfl | refine S1 ?_ | (refine S2 ?_; intro _) | (refine S3 ?_; intro _ _) | (refine S4 ?_; intro _ _ _) | (refine HO_g 2 rfl ?_; (first | apply HO_and rfl rfl rfl rfl rfl rfl rfl rfl rfl | apply HO_or rfl rfl rfl rfl rfl rfl rfl rfl rfl)) | refine S5 ?_ | (intro hb; try replace hb := simB hb; try exact kill hb))
    refine HC_loop (α := Nat) (fun j => j ≤ l.length ∧ ∀ q, q < j → l[q]? = l'[q]?) (fun j => [(5, .int .i64 j), (0, .slice A n c), (1, .slice B n' c')]) (fun _ => []) (fun j => l.length - j) rfl 0 ⟨Nat.zero_le _, fun q hq => by omega⟩ ⟨rfl, rfl, rfl, trivial⟩ rfl ?_
    intro j ⟨hj, hno⟩
    rcases Nat.lt_or_ge j l.length with hlt | hge
    · obtain ⟨x, hx⟩ : ∃ x, l[j]? = some x := ⟨l[j], List.getElem?_eq_getElem hlt⟩
      obtain ⟨y, hy⟩ : ∃ y, l'[j]? = some y := ⟨l'[j], List.getElem?_eq_getElem (by omega)⟩
      by_cases hxy : x = y
      · repeat' (first | refine SW ?_ | refine SD ?_ | exact HO_seg rfl rfl | refine S1 ?_ | (refine S2 ?_; intro _) | (refine S3 ?_; intro _ _) | (refine S4 ?_; intro _ _ _) | (refine HO_g 2 rfl ?_; (first | apply HO_and rfl rfl rfl rfl rfl rfl rfl rfl rfl | apply HO_or rfl rfl rfl rfl rfl rfl rfl rfl rfl)) | refine S5 ?_ | (intro hb; try replace hb := simB hb; try exact kill hb))
        exact HX_at (j + 1) ⟨⟨hlt, fun q hq => by
          rcases Nat.lt_or_ge q j with h | h
          · exact hno q h
          · obtain rfl : q = j := by omega
            rw [hx, hy, hxy]⟩, by omega⟩ ⟨rfl, rfl, rfl, trivial⟩ rfl
      · repeat' (first | refine SW ?_ | refine SD ?_ | exact HO_seg rfl rfl | refine S1 ?_ | (refine S2 ?_; intro _) | (refine S3 ?_; intro _ _) | (refine S4 ?_; intro _ _ _) | (refine HO_g 2 rfl ?_; (first | apply HO_and rfl rfl rfl rfl rfl rfl rfl rfl rfl | apply HO_or rfl rfl rfl rfl rfl rfl rfl rfl rfl)) | refine S5 ?_ | (intro hb; try replace hb := simB hb; try exact kill hb))
        ((first | apply HX_ret | apply HX_retn); (repeat (first | exact Res_nil | apply Res_tmp rfl | apply Res_ce rfl rfl rfl)); unfold RetQ; refine ⟨(), trivial, ?_, Keeps.nil⟩)
        rw [dec_false hx hy hxy]; rfl
    · obtain rfl : j = l.length := by omega
      repeat' (first | refine SW ?_ | refine SD ?_ | exact HO_seg rfl rfl | refine S1 ?_ | (refine S2 ?_; intro _) | (refine S3 ?_; intro _ _) | (refine S4 ?_; intro _ _ _) | (refine HO_g 2 rfl ?_; (first | apply HO_and rfl rfl rfl rfl rfl rfl rfl rfl rfl | apply HO_or rfl rfl rfl rfl rfl rfl rfl rfl rfl)) | refine S5 ?_ | (intro hb; try replace hb := simB hb; try exact kill hb))
      ((first | apply HX_ret | apply HX_retn); (repeat (first | exact Res_nil | apply Res_tmp rfl | apply Res_ce rfl rfl rfl)); unfold RetQ; refine ⟨(), trivial, ?_, Keeps.nil⟩)
      rw [decide_eq_true (all_same hne hno)]; rfl
  · have e : decide (l = l') = false := decide_eq_false fun h => hne (by rw [h])
    rw [e]
    refine Tri_of (N := Tryz.f93.ntmps) (c := bodyOf Tryz.f93) Tryz.func93 rfl rfl rfl rfl (fun w0 S0 => ?_)
    repeat' (first | refine SW ?_ | refine SD ?_ | exact HO_seg rfl rfl | refine S1 ?_ | (refine S2 ?_; intro _) | (refine S3 ?_; intro _ _) | (refine S4 ?_; intro _ _ _) | (refine HO_g 2 rfl ?_; (first | apply HO_and rfl rfl rfl rfl rfl rfl rfl rfl rfl | apply HO_or rfl rfl rfl rfl rfl rfl rfl rfl rfl)) | refine S5 ?_ | (intro hb; try replace hb := simB hb; try exact kill hb))
    ((first | apply HX_ret | apply HX_retn); (repeat (first | exact Res_nil | apply Res_tmp rfl | apply Res_ce rfl rfl rfl)); unfold RetQ; refine ⟨(), trivial, ?_, Keeps.nil⟩)
    rfl
/-- whether two segments are the same -/
def sgSame (s t : SegS) : Bool := decide (s.set = t.set) && decide (s.ns = t.ns)
theorem sgSame_iff (s t : SegS) : sgSame s t = decide ((s.set, s.ns) = (t.set, t.ns)) := by
  unfold sgSame
  by_cases h1 : s.set = t.set <;> by_cases h2 : s.ns = t.ns <;> simp [h1, h2]
end Go.Proofs.YtdeeokkkcfkbjaaGreat
