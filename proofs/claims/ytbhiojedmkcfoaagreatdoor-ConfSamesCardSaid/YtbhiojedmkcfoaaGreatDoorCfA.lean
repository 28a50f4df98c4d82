/- Rows of interfaces and of numbers held against each other; the first settings; the numbers in a row. -/
import Derived.Test.YtbhiojedmkcfoaaGreatDoorCfO
namespace Go.Proofs.YtbhiojedmkcfoaaGreatDoor
set_option linter.unusedVariables false
set_option linter.unusedSimpArgs false
open Go.RowKit
attribute [local irreducible] HC HX HO Tri eP adr

theorem call_same {α : Type} {l l' : List α} (hl : l.length = l'.length) (h : ∀ q, q < l.length → l[q]? = l'[q]?) : l = l' := by
  apply List.ext_getElem?
  intro i
  rcases Nat.lt_or_ge i l.length with hi | hi
  · exact h i hi
  · rw [List.getElem?_eq_none hi, List.getElem?_eq_none (by omega)]
theorem cdec_false {α : Type} [DecidableEq α] {l l' : List α} {j : Nat} {x y : α} (h1 : l[j]? = some x) (h2 : l'[j]? = some y) (hne : ¬ x = y) : decide (l = l') = false :=
  decide_eq_false fun e => hne (by rw [e, h2] at h1; injection h1 with h1; exact h1.symm)
instance : TyDeep Tryz.prog TIf [0, 0, 0, 0, 0] := ⟨⟨by kernel_rfl, by kernel_rfl⟩, by kernel_rfl⟩
theorem if_eq (x y : IfQ) : eqZ [0, 0, 0, 0, 0] x.e y.e = some (decide (x = y)) := by
  obtain ⟨x1, x2, x3, x4, x5⟩ := x
  obtain ⟨y1, y2, y3, y4, y5⟩ := y
  have h3 : decide (((x3 : Nat) : Int) = y3) = decide (x3 = y3) := decide_eq_decide.2 (by omega)
  show some (decide (x1 = y1) && (decide (x2 = y2) && (decide (((x3 : Nat) : Int) = y3) && (decide (x4 = y4) && (decide (x5 = y5) && true))))) = _
  rw [h3]
  congr 1
  by_cases h1 : x1 = y1 <;> by_cases h2 : x2 = y2 <;> by_cases h3 : x3 = y3 <;> by_cases h4 : x4 = y4 <;> by_cases h5 : x5 = y5 <;> simp [h1, h2, h3, h4, h5]
set_option maxHeartbeats 8000000 in
theorem ceqI_t (A : Option Addr) (n c : Nat) (l : List Int) (hn : n = l.length) (B : Option Addr) (n' c' : Nat) (l' : List Int) (hn' : n' = l'.length) (hl : l.length ≤ 1000000) (hl' : l'.length ≤ 1000000) :
    Tri Tryz.prog 86 [.slice A n c, .slice B n' c'] [arr iE 1 A l, arr iE 1 B l'] [] (fun _ : Unit => True) (fun _ => .bool (decide (l = l'))) (fun _ => []) := by
  by_cases hne : l.length = l'.length
  · refine Tri_of (N := Tryz.f86.ntmps) (c := bodyOf Tryz.f86) Tryz.func86 rfl rfl rfl rfl (fun w0 S0 => ?_)
    repeat' (first | refine SW ?_ | refine SD ?_ | exact HO_seg rfl rfl | refine S1 ?_ | (refine S2 ?_; intro _) | (refine S3 ?_; intro _ _) | (refine S4 ?_; intro _ _ _) | (refine HO_g 2 rfl ?_; (first | apply HO_and rfl rfl rfl rfl rfl rfl rfl rfl rfl | apply HO_or rfl rfl rfl rfl rfl rfl rfl rfl rfl)) | refine S5 ?_ | (intro hb; try replace hb := simB hb; try exact kill hb))
    refine HC_loop (α := Nat) (fun j => j ≤ l.length ∧ ∀ q, q < j → l[q]? = l'[q]?) (fun j => [(13, .int .i64 j), (12, .int .i64 n), (0, .slice A n c), (1, .slice B n' c')]) (fun _ => []) (fun j => l.length - j) rfl 0 ⟨Nat.zero_le _, fun q hq => by omega⟩ ⟨rfl, rfl, rfl, rfl, trivial⟩ rfl ?_
    intro j ⟨hj, hno⟩
    rcases Nat.lt_or_ge j l.length with hlt | hge
    · obtain ⟨x, hx⟩ : ∃ x, l[j]? = some x := ⟨l[j], List.getElem?_eq_getElem hlt⟩
      obtain ⟨y, hy⟩ : ∃ y, l'[j]? = some y := ⟨l'[j], List.getElem?_eq_getElem (by omega)⟩
      by_cases hxy : x = y
      · repeat' (first | refine SW ?_ | refine SD ?_ | exact HO_seg rfl rfl | refine S1 ?_ | (refine S2 ?_; intro _) | (refine S3 ?_; intro _ _) | (refine S4 ?_; intro _ _ _) | (refine HO_g 2 rfl ?_; (first | apply HO_and rfl rfl rfl rfl rfl rfl rfl rfl rfl | apply HO_or rfl rfl rfl rfl rfl rfl rfl rfl rfl)) | refine S5 ?_ | (intro hb; try replace hb := simB hb; try exact kill hb))
        
        
        exact HX_at (j + 1) ⟨⟨hlt, fun q hq => by
          rcases Nat.lt_or_ge q j with h | h
          · exact hno q h
          · obtain rfl : q = j := by omega
            rw [hx, hy, hxy]⟩, by omega⟩ ⟨rfl, rfl, rfl, rfl, trivial⟩ rfl
      · repeat' (first | refine SW ?_ | refine SD ?_ | exact HO_seg rfl rfl | refine S1 ?_ | (refine S2 ?_; intro _) | (refine S3 ?_; intro _ _) | (refine S4 ?_; intro _ _ _) | (refine HO_g 2 rfl ?_; (first | apply HO_and rfl rfl rfl rfl rfl rfl rfl rfl rfl | apply HO_or rfl rfl rfl rfl rfl rfl rfl rfl rfl)) | refine S5 ?_ | (intro hb; try replace hb := simB hb; try exact kill hb))
        
        
        ((first | apply HX_ret | apply HX_retn); (repeat (first | exact Res_nil | apply Res_tmp rfl | apply Res_ce rfl rfl rfl)); unfold RetQ; refine ⟨(), trivial, ?_, Keeps.nil⟩)
        rw [cdec_false hx hy hxy]; rfl
    · obtain rfl : j = l.length := by omega
      repeat' (first | refine SW ?_ | refine SD ?_ | exact HO_seg rfl rfl | refine S1 ?_ | (refine S2 ?_; intro _) | (refine S3 ?_; intro _ _) | (refine S4 ?_; intro _ _ _) | (refine HO_g 2 rfl ?_; (first | apply HO_and rfl rfl rfl rfl rfl rfl rfl rfl rfl | apply HO_or rfl rfl rfl rfl rfl rfl rfl rfl rfl)) | refine S5 ?_ | (intro hb; try replace hb := simB hb; try exact kill hb))
      ((first | apply HX_ret | apply HX_retn); (repeat (first | exact Res_nil | apply Res_tmp rfl | apply Res_ce rfl rfl rfl)); unfold RetQ; refine ⟨(), trivial, ?_, Keeps.nil⟩)
      rw [decide_eq_true (call_same hne hno)]; rfl
  · have e : decide (l = l') = false := decide_eq_false fun h => hne (by rw [h])
    rw [e]
    refine Tri_of (N := Tryz.f86.ntmps) (c := bodyOf Tryz.f86) Tryz.func86 rfl rfl rfl rfl (fun w0 S0 => ?_)
    repeat' (first | refine SW ?_ | refine SD ?_ | exact HO_seg rfl rfl | refine S1 ?_ | (refine S2 ?_; intro _) | (refine S3 ?_; intro _ _) | (refine S4 ?_; intro _ _ _) | (refine HO_g 2 rfl ?_; (first | apply HO_and rfl rfl rfl rfl rfl rfl rfl rfl rfl | apply HO_or rfl rfl rfl rfl rfl rfl rfl rfl rfl)) | refine S5 ?_ | (intro hb; try replace hb := simB hb; try exact kill hb))
    ((first | apply HX_ret | apply HX_retn); (repeat (first | exact Res_nil | apply Res_tmp rfl | apply Res_ce rfl rfl rfl)); unfold RetQ; refine ⟨(), trivial, ?_, Keeps.nil⟩)
    rfl
set_option maxHeartbeats 8000000 in
theorem ceqN_t (A : Option Addr) (n c : Nat) (l : List IfQ) (hn : n = l.length) (B : Option Addr) (n' c' : Nat) (l' : List IfQ) (hn' : n' = l'.length) (hl : l.length ≤ 1000000) (hl' : l'.length ≤ 1000000) :
    Tri Tryz.prog 85 [.slice A n c, .slice B n' c'] [arr IfQ.e 5 A l, arr IfQ.e 5 B l'] [] (fun _ : Unit => True) (fun _ => .bool (decide (l = l'))) (fun _ => []) := by
  by_cases hne : l.length = l'.length
  · refine Tri_of (N := Tryz.f85.ntmps) (c := bodyOf Tryz.f85) Tryz.func85 rfl rfl rfl rfl (fun w0 S0 => ?_)
    repeat' (first | refine SW ?_ | refine SD ?_ | exact HO_seg rfl rfl | refine S1 ?_ | (refine S2 ?_; intro _) | (refine S3 ?_; intro _ _) | (refine S4 ?_; intro _ _ _) | (refine HO_g 2 rfl ?_; (first | apply HO_and rfl rfl rfl rfl rfl rfl rfl rfl rfl | apply HO_or rfl rfl rfl rfl rfl rfl rfl rfl rfl)) | refine S5 ?_ | (intro hb; try replace hb := simB hb; try exact kill hb))
    refine HC_loop (α := Nat) (fun j => j ≤ l.length ∧ ∀ q, q < j → l[q]? = l'[q]?) (fun j => [(13, .int .i64 j), (12, .int .i64 n), (0, .slice A n c), (1, .slice B n' c')]) (fun _ => []) (fun j => l.length - j) rfl 0 ⟨Nat.zero_le _, fun q hq => by omega⟩ ⟨rfl, rfl, rfl, rfl, trivial⟩ rfl ?_
    intro j ⟨hj, hno⟩
    rcases Nat.lt_or_ge j l.length with hlt | hge
    · obtain ⟨x, hx⟩ : ∃ x, l[j]? = some x := ⟨l[j], List.getElem?_eq_getElem hlt⟩
      obtain ⟨y, hy⟩ : ∃ y, l'[j]? = some y := ⟨l'[j], List.getElem?_eq_getElem (by omega)⟩
      by_cases hxy : x = y
      · repeat' (first | refine SW ?_ | refine SD ?_ | (refine HO_k 0 rfl ?_; refine HO_eqd rfl rfl rfl (if_eq x y) rfl rfl rfl rdA ?_) | exact HO_seg rfl rfl | refine S1 ?_ | (refine S2 ?_; intro _) | (refine S3 ?_; intro _ _) | (refine S4 ?_; intro _ _ _) | (refine HO_g 2 rfl ?_; (first | apply HO_and rfl rfl rfl rfl rfl rfl rfl rfl rfl | apply HO_or rfl rfl rfl rfl rfl rfl rfl rfl rfl)) | refine S5 ?_ | (intro hb; try replace hb := simB hb; try exact kill hb))
        exact HX_at (j + 1) ⟨⟨hlt, fun q hq => by
          rcases Nat.lt_or_ge q j with h | h
          · exact hno q h
          · obtain rfl : q = j := by omega
            rw [hx, hy, hxy]⟩, by omega⟩ ⟨rfl, rfl, rfl, rfl, trivial⟩ rfl
      · repeat' (first | refine SW ?_ | refine SD ?_ | (refine HO_k 0 rfl ?_; refine HO_eqd rfl rfl rfl (if_eq x y) rfl rfl rfl rdA ?_) | exact HO_seg rfl rfl | refine S1 ?_ | (refine S2 ?_; intro _) | (refine S3 ?_; intro _ _) | (refine S4 ?_; intro _ _ _) | (refine HO_g 2 rfl ?_; (first | apply HO_and rfl rfl rfl rfl rfl rfl rfl rfl rfl | apply HO_or rfl rfl rfl rfl rfl rfl rfl rfl rfl)) | refine S5 ?_ | (intro hb; try replace hb := simB hb; try exact kill hb))
        ((first | apply HX_ret | apply HX_retn); (repeat (first | exact Res_nil | apply Res_tmp rfl | apply Res_ce rfl rfl rfl)); unfold RetQ; refine ⟨(), trivial, ?_, Keeps.nil⟩)
        rw [cdec_false hx hy hxy]; rfl
    · obtain rfl : j = l.length := by omega
      repeat' (first | refine SW ?_ | refine SD ?_ | exact HO_seg rfl rfl | refine S1 ?_ | (refine S2 ?_; intro _) | (refine S3 ?_; intro _ _) | (refine S4 ?_; intro _ _ _) | (refine HO_g 2 rfl ?_; (first | apply HO_and rfl rfl rfl rfl rfl rfl rfl rfl rfl | apply HO_or rfl rfl rfl rfl rfl rfl rfl rfl rfl)) | refine S5 ?_ | (intro hb; try replace hb := simB hb; try exact kill hb))
      ((first | apply HX_ret | apply HX_retn); (repeat (first | exact Res_nil | apply Res_tmp rfl | apply Res_ce rfl rfl rfl)); unfold RetQ; refine ⟨(), trivial, ?_, Keeps.nil⟩)
      rw [decide_eq_true (call_same hne hno)]; rfl
  · have e : decide (l = l') = false := decide_eq_false fun h => hne (by rw [h])
    rw [e]
    refine Tri_of (N := Tryz.f85.ntmps) (c := bodyOf Tryz.f85) Tryz.func85 rfl rfl rfl rfl (fun w0 S0 => ?_)
    repeat' (first | refine SW ?_ | refine SD ?_ | exact HO_seg rfl rfl | refine S1 ?_ | (refine S2 ?_; intro _) | (refine S3 ?_; intro _ _) | (refine S4 ?_; intro _ _ _) | (refine HO_g 2 rfl ?_; (first | apply HO_and rfl rfl rfl rfl rfl rfl rfl rfl rfl | apply HO_or rfl rfl rfl rfl rfl rfl rfl rfl rfl)) | refine S5 ?_ | (intro hb; try replace hb := simB hb; try exact kill hb))
    ((first | apply HX_ret | apply HX_retn); (repeat (first | exact Res_nil | apply Res_tmp rfl | apply Res_ce rfl rfl rfl)); unfold RetQ; refine ⟨(), trivial, ?_, Keeps.nil⟩)
    rfl
set_option maxHeartbeats 8000000 in
theorem r16same_t (A : Option Addr) (n c : Nat) (l : List IfQ) (hn : n = l.length) (B : Option Addr) (n' c' : Nat) (l' : List IfQ) (hn' : n' = l'.length) (hl : l.length ≤ 1000000) (hl' : l'.length ≤ 1000000) :
    Tri Tryz.prog 79 [.slice A n c, .slice B n' c'] [arr IfQ.e 5 A l, arr IfQ.e 5 B l'] [] (fun _ : Unit => True) (fun _ => .bool (decide (l = l'))) (fun _ => []) := by
  by_cases hne : l.length = l'.length
  · refine Tri_of (N := Tryz.f79.ntmps) (c := bodyOf Tryz.f79) Tryz.func79 rfl rfl rfl rfl (fun w0 S0 => ?_)
    repeat' (first | refine SW ?_ | refine SD ?_ | exact HO_seg rfl rfl | refine S1 ?_ | (refine S2 ?_; intro _) | (refine S3 ?_; intro _ _) | (refine S4 ?_; intro _ _ _) | (refine HO_g 2 rfl ?_; (first | apply HO_and rfl rfl rfl rfl rfl rfl rfl rfl rfl | apply HO_or rfl rfl rfl rfl rfl rfl rfl rfl rfl)) | refine S5 ?_ | (intro hb; try replace hb := simB hb; try exact kill hb))
    refine HC_loop (α := Nat) (fun j => j ≤ l.length ∧ ∀ q, q < j → l[q]? = l'[q]?) (fun j => [(5, .int .i64 j), (0, .slice A n c), (1, .slice B n' c')]) (fun _ => []) (fun j => l.length - j) rfl 0 ⟨Nat.zero_le _, fun q hq => by omega⟩ ⟨rfl, rfl, rfl, trivial⟩ rfl ?_
    intro j ⟨hj, hno⟩
    rcases Nat.lt_or_ge j l.length with hlt | hge
    · obtain ⟨x, hx⟩ : ∃ x, l[j]? = some x := ⟨l[j], List.getElem?_eq_getElem hlt⟩
      obtain ⟨y, hy⟩ : ∃ y, l'[j]? = some y := ⟨l'[j], List.getElem?_eq_getElem (by omega)⟩
      by_cases hxy : x = y
      · repeat' (first | refine SW ?_ | refine SD ?_ | (refine HO_k 0 rfl ?_; refine HO_eqd rfl rfl rfl (if_eq x y) rfl rfl rfl rdA ?_) | exact HO_seg rfl rfl | refine S1 ?_ | (refine S2 ?_; intro _) | (refine S3 ?_; intro _ _) | (refine S4 ?_; intro _ _ _) | (refine HO_g 2 rfl ?_; (first | apply HO_and rfl rfl rfl rfl rfl rfl rfl rfl rfl | apply HO_or rfl rfl rfl rfl rfl rfl rfl rfl rfl)) | refine S5 ?_ | (intro hb; try replace hb := simB hb; try exact kill hb))
        exact HX_at (j + 1) ⟨⟨hlt, fun q hq => by
          rcases Nat.lt_or_ge q j with h | h
          · exact hno q h
          · obtain rfl : q = j := by omega
            rw [hx, hy, hxy]⟩, by omega⟩ ⟨rfl, rfl, rfl, trivial⟩ rfl
      · repeat' (first | refine SW ?_ | refine SD ?_ | (refine HO_k 0 rfl ?_; refine HO_eqd rfl rfl rfl (if_eq x y) rfl rfl rfl rdA ?_) | exact HO_seg rfl rfl | refine S1 ?_ | (refine S2 ?_; intro _) | (refine S3 ?_; intro _ _) | (refine S4 ?_; intro _ _ _) | (refine HO_g 2 rfl ?_; (first | apply HO_and rfl rfl rfl rfl rfl rfl rfl rfl rfl | apply HO_or rfl rfl rfl rfl rfl rfl rfl rfl rfl)) | refine S5 ?_ | (intro hb; try replace hb := simB hb; try exact kill hb))
        ((first | apply HX_ret | apply HX_retn); (repeat (first | exact Res_nil | apply Res_tmp rfl | apply Res_ce rfl rfl rfl)); unfold RetQ; refine ⟨(), trivial, ?_, Keeps.nil⟩)
        rw [cdec_false hx hy hxy]; rfl
    · obtain rfl : j = l.length := by omega
      repeat' (first | refine SW ?_ | refine SD ?_ | exact HO_seg rfl rfl | refine S1 ?_ | (refine S2 ?_; intro _) | (refine S3 ?_; intro _ _) | (refine S4 ?_; intro _ _ _) | (refine HO_g 2 rfl ?_; (first | apply HO_and rfl rfl rfl rfl rfl rfl rfl rfl rfl | apply HO_or rfl rfl rfl rfl rfl rfl rfl rfl rfl)) | refine S5 ?_ | (intro hb; try replace hb := simB hb; try exact kill hb))
      ((first | apply HX_ret | apply HX_retn); (repeat (first | exact Res_nil | apply Res_tmp rfl | apply Res_ce rfl rfl rfl)); unfold RetQ; refine ⟨(), trivial, ?_, Keeps.nil⟩)
      rw [decide_eq_true (call_same hne hno)]; rfl
  · have e : decide (l = l') = false := decide_eq_false fun h => hne (by rw [h])
    rw [e]
    refine Tri_of (N := Tryz.f79.ntmps) (c := bodyOf Tryz.f79) Tryz.func79 rfl rfl rfl rfl (fun w0 S0 => ?_)
    repeat' (first | refine SW ?_ | refine SD ?_ | exact HO_seg rfl rfl | refine S1 ?_ | (refine S2 ?_; intro _) | (refine S3 ?_; intro _ _) | (refine S4 ?_; intro _ _ _) | (refine HO_g 2 rfl ?_; (first | apply HO_and rfl rfl rfl rfl rfl rfl rfl rfl rfl | apply HO_or rfl rfl rfl rfl rfl rfl rfl rfl rfl)) | refine S5 ?_ | (intro hb; try replace hb := simB hb; try exact kill hb))
    ((first | apply HX_ret | apply HX_retn); (repeat (first | exact Res_nil | apply Res_tmp rfl | apply Res_ce rfl rfl rfl)); unfold RetQ; refine ⟨(), trivial, ?_, Keeps.nil⟩)
    rfl
/-- the numbers in the words' order -/
def numsOf (q : CfQ) : List Int := [num q 0, 0, num q 2, num q 3, num q 4, num q 5, num q 6, num q 7, num q 8, num q 9, num q 10, num q 11, num q 12, num q 13, num q 14, num q 15, num q 16, num q 17]
set_option maxHeartbeats 8000000 in
theorem rnums_t (c : CfS) : Tri Tryz.prog 75 [.agg c.e.toArray] [] [] (fun _ : Nat => True) (fun b => .slice (some ⟨b, 0, none⟩) 18 18) (fun b => [own idE 3 1 (some ⟨b, 0, none⟩) 18 18 ((numsOf c.q).map iE)]) := by
  refine Tri_of (N := Tryz.f75.ntmps) (c := bodyOf Tryz.f75) Tryz.func75 rfl rfl rfl rfl (fun w0 S0 => ?_)
  dsimp only [CfS.e]
  repeat' (first | refine SW ?_ | refine SD ?_ | exact HO_seg rfl rfl | refine S1 ?_ | (refine S2 ?_; intro _) | (refine S3 ?_; intro _ _) | (refine S4 ?_; intro _ _ _) | (refine HO_g 2 rfl ?_; (first | apply HO_and rfl rfl rfl rfl rfl rfl rfl rfl rfl | apply HO_or rfl rfl rfl rfl rfl rfl rfl rfl rfl)) | refine S5 ?_ | (intro hb; try replace hb := simB hb; try exact kill hb))
  rename_i b0 b
  ((first | apply HX_ret | apply HX_retn); (repeat (first | exact Res_nil | apply Res_tmp rfl | apply Res_ce rfl rfl rfl)); unfold RetQ; apply Exists.intro (b); refine ⟨trivial, ?_, ?_⟩; rotate_left 1; (repeat (first | exact Keeps.nil | refine Keeps.own_cons ?_ ?_ ?_ | refine Keeps.arr_cons ?_ ?_ | refine Keeps.cons Ent.rfl_ ?_ | refine Keeps.skip ?_ | refine Keeps.own_none ?_ ?_ ?_ | refine Keeps.arr_none ?_ ?_)))
  all_goals rfl
def firstQ : CfQ := ⟨[65000, 0, 90, 30, 1, 1, 0, 900, 700, 16, 30, 90, 2, 120, 1000, 2, 65536, 65536], 184483841, [], []⟩
@[reducible] def firstS : CfS := ⟨firstQ, none, 0, none, 0⟩
set_option maxHeartbeats 8000000 in
theorem rfirst_t : Tri Tryz.prog 51 [] [] [] (fun _ : Unit => True) (fun _ => .agg firstS.e.toArray) (fun _ => []) := by
  refine Tri_of (N := Tryz.f51.ntmps) (c := bodyOf Tryz.f51) Tryz.func51 rfl rfl rfl rfl (fun w0 S0 => ?_)
  repeat' (first | refine SW ?_ | refine SD ?_ | exact HO_seg rfl rfl | refine S1 ?_ | (refine S2 ?_; intro _) | (refine S3 ?_; intro _ _) | (refine S4 ?_; intro _ _ _) | (refine HO_g 2 rfl ?_; (first | apply HO_and rfl rfl rfl rfl rfl rfl rfl rfl rfl | apply HO_or rfl rfl rfl rfl rfl rfl rfl rfl rfl)) | refine S5 ?_ | (intro hb; try replace hb := simB hb; try exact kill hb))
  ((first | apply HX_ret | apply HX_retn); (repeat (first | exact Res_nil | apply Res_tmp rfl | apply Res_ce rfl rfl rfl)); unfold RetQ; refine ⟨(), trivial, ?_, Keeps.nil⟩)
  rfl
set_option maxHeartbeats 8000000 in
theorem cfirst_t : Tri Tryz.prog 50 [] [] [] (fun _ : Unit => True) (fun _ => .agg firstS.e.toArray) (fun _ => []) := by
  refine Tri_of (N := Tryz.f50.ntmps) (c := bodyOf Tryz.f50) Tryz.func50 rfl rfl rfl rfl (fun w0 S0 => ?_)
  repeat' (first | refine SW ?_ | refine SD ?_ | exact HO_seg rfl rfl | refine S1 ?_ | (refine S2 ?_; intro _) | (refine S3 ?_; intro _ _) | (refine S4 ?_; intro _ _ _) | (refine HO_g 2 rfl ?_; (first | apply HO_and rfl rfl rfl rfl rfl rfl rfl rfl rfl | apply HO_or rfl rfl rfl rfl rfl rfl rfl rfl rfl)) | refine S5 ?_ | (intro hb; try replace hb := simB hb; try exact kill hb))
  ((first | apply HX_ret | apply HX_retn); (repeat (first | exact Res_nil | apply Res_tmp rfl | apply Res_ce rfl rfl rfl)); unfold RetQ; refine ⟨(), trivial, ?_, Keeps.nil⟩)
  rfl
end Go.Proofs.YtbhiojedmkcfoaaGreatDoor
