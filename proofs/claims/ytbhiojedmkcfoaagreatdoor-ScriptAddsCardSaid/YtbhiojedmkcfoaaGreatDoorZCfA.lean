/- Part of a proof of many texts: what the theorem at its end leans on. -/
import Derived.Test.YtbhiojedmkcfoaaGreatDoorZCfK
import Derived.Test.YtbhiojedmkcfoaaGreatDoorZKc
namespace Go.Proofs.YtbhiojedmkcfoaaGreatDoor
set_option linter.unusedVariables false
set_option linter.unusedSimpArgs false
open Go.RowKit
attribute [local irreducible] HC HX HO Tri eP adr
theorem call_same {α : Type} {l l' : List α} (hl : l.length = l'.length) (h : ∀ q, q < l.length → l[q]? = l'[q]?) : l = l' := by
 apply List.ext_getElem?
 intro i
 rcases Nat.lt_or_ge i l.length with hi | hi
 ·exact h i hi
 ·rw [List.getElem?_eq_none hi, List.getElem?_eq_none (by omega)]
theorem cdec_false {α : Type} [DecidableEq α] {l l' : List α} {j : Nat} {x y : α} (h1 : l[j]? = some x) (h2 : l'[j]? = some y) (hne : ¬ x = y) : decide (l = l') = false :=
 decide_eq_false fun e => hne (by rw [e, h2] at h1; injection h1 with h1; exact h1.symm)
instance : TyDeep Tryz.prog TIf [0, 0, 0, 0, 0] := ⟨⟨by kernel_rfl, by kernel_rfl⟩, by kernel_rfl⟩
theorem if_eq (x y : IfQ) : eqZ [0, 0, 0, 0, 0] x.e y.e = some (decide (x = y)) := by
 obtain ⟨x1, x2, x3, x4, x5⟩ := x
 obtain ⟨y1, y2, y3, y4, y5⟩ := y
 have h3 : decide (((x3 : Nat) : Int) = y3) = decide (x3 = y3) := decide_eq_decide.2 (by omega)
 show some (decide (x1 = y1) && (decide (x2 = y2) && (decide (((x3 : Nat) : Int) = y3) && (decide (x4 = y4) && (decide (x5 = y5) && true))))) = _
 rw [h3]
 congr 1
 by_cases h1 : x1 = y1 <;> by_cases h2 : x2 = y2 <;> by_cases h3 : x3 = y3 <;> by_cases h4 : x4 = y4 <;> by_cases h5 : x5 = y5 <;> simp [h1, h2, h3, h4, h5]
set_option maxHeartbeats 8000000 in
theorem ceqI_t (A : Option Addr) (n c : Nat) (l : List Int) (hn : n = l.length) (B : Option Addr) (n' c' : Nat) (l' : List Int) (hn' : n' = l'.length) (hl : l.length ≤ 1000000) (hl' : l'.length ≤ 1000000) :
  Tri Tryz.prog 86 [.slice A n c, .slice B n' c'] [arr iE 1 A l, arr iE 1 B l'] [] (fun _ : Unit => True) (fun _ => .bool (decide (l = l'))) (fun _ => []) := by
 by_cases hne : l.length = l'.length
 ·refine Tri_of (N := Tryz.f86.ntmps) (c := bodyOf Tryz.f86) Tryz.func86 rfl rfl rfl rfl (fun w0 S0 => ?_)
  repeat' (first | refine SW ?_ | refine SD ?_ | exact HO_seg rfl rfl | refine S1 ?_ | (refine S2 ?_; intro _) | (refine S3 ?_; intro _ _) | (refine S4 ?_; intro _ _ _) | (refine HO_g 2 rfl ?_; first | apply HO_a1 rfl | apply HO_o1 rfl) | refine S5 ?_ | (intro hb; try replace hb := simB hb; try exact kill hb))
  refine HC_loop (α := Nat) (fun j => j ≤ l.length ∧ ∀ q, q < j → l[q]? = l'[q]?) (fun j => [(13, .int .i64 j), (12, .int .i64 n), (0, .slice A n c), (1, .slice B n' c')]) (fun _ => []) (fun j => l.length - j) rfl 0 ⟨Nat.zero_le _, fun q hq => by omega⟩ ⟨rfl, rfl, rfl, rfl, trivial⟩ rfl ?_
  intro j ⟨hj, hno⟩
  rcases Nat.lt_or_ge j l.length with hlt | hge
  ·obtain ⟨x, hx⟩ : ∃ x, l[j]? = some x := ⟨l[j], List.getElem?_eq_getElem hlt⟩
   obtain ⟨y, hy⟩ : ∃ y, l'[j]? = some y := ⟨l'[j], List.getElem?_eq_getElem (by omega)⟩
   by_cases hxy : x = y
   ·repeat' (first | refine SW ?_ | refine SD ?_ | exact HO_seg rfl rfl | refine S1 ?_ | (refine S2 ?_; intro _) | (refine S3 ?_; intro _ _) | (refine S4 ?_; intro _ _ _) | (refine HO_g 2 rfl ?_; first | apply HO_a1 rfl | apply HO_o1 rfl) | refine S5 ?_ | (intro hb; try replace hb := simB hb; try exact kill hb))


    exact HX_at (j + 1) ⟨⟨hlt, fun q hq => by
     rcases Nat.lt_or_ge q j with h | h
     ·exact hno q h
     ·obtain rfl : q = j := by omega
      rw [hx, hy, hxy]⟩, by omega⟩ ⟨rfl, rfl, rfl, rfl, trivial⟩ rfl
   ·repeat' (first | refine SW ?_ | refine SD ?_ | exact HO_seg rfl rfl | refine S1 ?_ | (refine S2 ?_; intro _) | (refine S3 ?_; intro _ _) | (refine S4 ?_; intro _ _ _) | (refine HO_g 2 rfl ?_; first | apply HO_a1 rfl | apply HO_o1 rfl) | refine S5 ?_ | (intro hb; try replace hb := simB hb; try exact kill hb))


    (refine SR ?_; unfold RetQ; refine ⟨(), trivial, ?_, Keeps.nil⟩)
    rw [cdec_false hx hy hxy]; rfl
  ·obtain rfl : j = l.length := by omega
   repeat' (first | refine SW ?_ | refine SD ?_ | exact HO_seg rfl rfl | refine S1 ?_ | (refine S2 ?_; intro _) | (refine S3 ?_; intro _ _) | (refine S4 ?_; intro _ _ _) | (refine HO_g 2 rfl ?_; first | apply HO_a1 rfl | apply HO_o1 rfl) | refine S5 ?_ | (intro hb; try replace hb := simB hb; try exact kill hb))
   (refine SR ?_; unfold RetQ; refine ⟨(), trivial, ?_, Keeps.nil⟩)
   rw [decide_eq_true (call_same hne hno)]; rfl
 ·have e : decide (l = l') = false := decide_eq_false fun h => hne (by rw [h])
  rw [e]
  refine Tri_of (N := Tryz.f86.ntmps) (c := bodyOf Tryz.f86) Tryz.func86 rfl rfl rfl rfl (fun w0 S0 => ?_)
  repeat' (first | refine SW ?_ | refine SD ?_ | exact HO_seg rfl rfl | refine S1 ?_ | (refine S2 ?_; intro _) | (refine S3 ?_; intro _ _) | (refine S4 ?_; intro _ _ _) | (refine HO_g 2 rfl ?_; first | apply HO_a1 rfl | apply HO_o1 rfl) | refine S5 ?_ | (intro hb; try replace hb := simB hb; try exact kill hb))
  (refine SR ?_; unfold RetQ; refine ⟨(), trivial, ?_, Keeps.nil⟩)
  rfl
set_option maxHeartbeats 8000000 in
theorem ceqN_t (A : Option Addr) (n c : Nat) (l : List IfQ) (hn : n = l.length) (B : Option Addr) (n' c' : Nat) (l' : List IfQ) (hn' : n' = l'.length) (hl : l.length ≤ 1000000) (hl' : l'.length ≤ 1000000) :
  Tri Tryz.prog 85 [.slice A n c, .slice B n' c'] [arr IfQ.e 5 A l, arr IfQ.e 5 B l'] [] (fun _ : Unit => True) (fun _ => .bool (decide (l = l'))) (fun _ => []) := by
 by_cases hne : l.length = l'.length
 ·refine Tri_of (N := Tryz.f85.ntmps) (c := bodyOf Tryz.f85) Tryz.func85 rfl rfl rfl rfl (fun w0 S0 => ?_)
  repeat' (first | refine SW ?_ | refine SD ?_ | exact HO_seg rfl rfl | refine S1 ?_ | (refine S2 ?_; intro _) | (refine S3 ?_; intro _ _) | (refine S4 ?_; intro _ _ _) | (refine HO_g 2 rfl ?_; first | apply HO_a1 rfl | apply HO_o1 rfl) | refine S5 ?_ | (intro hb; try replace hb := simB hb; try exact kill hb))
  refine HC_loop (α := Nat) (fun j => j ≤ l.length ∧ ∀ q, q < j → l[q]? = l'[q]?) (fun j => [(13, .int .i64 j), (12, .int .i64 n), (0, .slice A n c), (1, .slice B n' c')]) (fun _ => []) (fun j => l.length - j) rfl 0 ⟨Nat.zero_le _, fun q hq => by omega⟩ ⟨rfl, rfl, rfl, rfl, trivial⟩ rfl ?_
  intro j ⟨hj, hno⟩
  rcases Nat.lt_or_ge j l.length with hlt | hge
  ·obtain ⟨x, hx⟩ : ∃ x, l[j]? = some x := ⟨l[j], List.getElem?_eq_getElem hlt⟩
   obtain ⟨y, hy⟩ : ∃ y, l'[j]? = some y := ⟨l'[j], List.getElem?_eq_getElem (by omega)⟩
   by_cases hxy : x = y
   ·repeat' (first | refine SW ?_ | refine SD ?_ | (refine HO_k 0 rfl ?_; refine HO_eqd rfl rfl rfl (if_eq x y) rfl rfl rfl rdA ?_) | exact HO_seg rfl rfl | refine S1 ?_ | (refine S2 ?_; intro _) | (refine S3 ?_; intro _ _) | (refine S4 ?_; intro _ _ _) | (refine HO_g 2 rfl ?_; first | apply HO_a1 rfl | apply HO_o1 rfl) | refine S5 ?_ | (intro hb; try replace hb := simB hb; try exact kill hb))
    exact HX_at (j + 1) ⟨⟨hlt, fun q hq => by
     rcases Nat.lt_or_ge q j with h | h
     ·exact hno q h
     ·obtain rfl : q = j := by omega
      rw [hx, hy, hxy]⟩, by omega⟩ ⟨rfl, rfl, rfl, rfl, trivial⟩ rfl
   ·repeat' (first | refine SW ?_ | refine SD ?_ | (refine HO_k 0 rfl ?_; refine HO_eqd rfl rfl rfl (if_eq x y) rfl rfl rfl rdA ?_) | exact HO_seg rfl rfl | refine S1 ?_ | (refine S2 ?_; intro _) | (refine S3 ?_; intro _ _) | (refine S4 ?_; intro _ _ _) | (refine HO_g 2 rfl ?_; first | apply HO_a1 rfl | apply HO_o1 rfl) | refine S5 ?_ | (intro hb; try replace hb := simB hb; try exact kill hb))
    (refine SR ?_; unfold RetQ; refine ⟨(), trivial, ?_, Keeps.nil⟩)
    rw [cdec_false hx hy hxy]; rfl
  ·obtain rfl : j = l.length := by omega
   repeat' (first | refine SW ?_ | refine SD ?_ | exact HO_seg rfl rfl | refine S1 ?_ | (refine S2 ?_; intro _) | (refine S3 ?_; intro _ _) | (refine S4 ?_; intro _ _ _) | (refine HO_g 2 rfl ?_; first | apply HO_a1 rfl | apply HO_o1 rfl) | refine S5 ?_ | (intro hb; try replace hb := simB hb; try exact kill hb))
   (refine SR ?_; unfold RetQ; refine ⟨(), trivial, ?_, Keeps.nil⟩)
   rw [decide_eq_true (call_same hne hno)]; rfl
 ·have e : decide (l = l') = false := decide_eq_false fun h => hne (by rw [h])
  rw [e]
  refine Tri_of (N := Tryz.f85.ntmps) (c := bodyOf Tryz.f85) Tryz.func85 rfl rfl rfl rfl (fun w0 S0 => ?_)
  repeat' (first | refine SW ?_ | refine SD ?_ | exact HO_seg rfl rfl | refine S1 ?_ | (refine S2 ?_; intro _) | (refine S3 ?_; intro _ _) | (refine S4 ?_; intro _ _ _) | (refine HO_g 2 rfl ?_; first | apply HO_a1 rfl | apply HO_o1 rfl) | refine S5 ?_ | (intro hb; try replace hb := simB hb; try exact kill hb))
  (refine SR ?_; unfold RetQ; refine ⟨(), trivial, ?_, Keeps.nil⟩)
  rfl
set_option maxHeartbeats 8000000 in
theorem r16same_t (A : Option Addr) (n c : Nat) (l : List IfQ) (hn : n = l.length) (B : Option Addr) (n' c' : Nat) (l' : List IfQ) (hn' : n' = l'.length) (hl : l.length ≤ 1000000) (hl' : l'.length ≤ 1000000) :
  Tri Tryz.prog 79 [.slice A n c, .slice B n' c'] [arr IfQ.e 5 A l, arr IfQ.e 5 B l'] [] (fun _ : Unit => True) (fun _ => .bool (decide (l = l'))) (fun _ => []) := by
 by_cases hne : l.length = l'.length
 ·refine Tri_of (N := Tryz.f79.ntmps) (c := bodyOf Tryz.f79) Tryz.func79 rfl rfl rfl rfl (fun w0 S0 => ?_)
  repeat' (first | refine SW ?_ | refine SD ?_ | exact HO_seg rfl rfl | refine S1 ?_ | (refine S2 ?_; intro _) | (refine S3 ?_; intro _ _) | (refine S4 ?_; intro _ _ _) | (refine HO_g 2 rfl ?_; first | apply HO_a1 rfl | apply HO_o1 rfl) | refine S5 ?_ | (intro hb; try replace hb := simB hb; try exact kill hb))
  refine HC_loop (α := Nat) (fun j => j ≤ l.length ∧ ∀ q, q < j → l[q]? = l'[q]?) (fun j => [(5, .int .i64 j), (0, .slice A n c), (1, .slice B n' c')]) (fun _ => []) (fun j => l.length - j) rfl 0 ⟨Nat.zero_le _, fun q hq => by omega⟩ ⟨rfl, rfl, rfl, trivial⟩ rfl ?_
  intro j ⟨hj, hno⟩
  rcases Nat.lt_or_ge j l.length with hlt | hge
  ·obtain ⟨x, hx⟩ : ∃ x, l[j]? = some x := ⟨l[j], List.getElem?_eq_getElem hlt⟩
   obtain ⟨y, hy⟩ : ∃ y, l'[j]? = some y := ⟨l'[j], List.getElem?_eq_getElem (by omega)⟩
   by_cases hxy : x = y
   ·repeat' (first | refine SW ?_ | refine SD ?_ | (refine HO_k 0 rfl ?_; refine HO_eqd rfl rfl rfl (if_eq x y) rfl rfl rfl rdA ?_) | exact HO_seg rfl rfl | refine S1 ?_ | (refine S2 ?_; intro _) | (refine S3 ?_; intro _ _) | (refine S4 ?_; intro _ _ _) | (refine HO_g 2 rfl ?_; first | apply HO_a1 rfl | apply HO_o1 rfl) | refine S5 ?_ | (intro hb; try replace hb := simB hb; try exact kill hb))
    exact HX_at (j + 1) ⟨⟨hlt, fun q hq => by
     rcases Nat.lt_or_ge q j with h | h
     ·exact hno q h
     ·obtain rfl : q = j := by omega
      rw [hx, hy, hxy]⟩, by omega⟩ ⟨rfl, rfl, rfl, trivial⟩ rfl
   ·repeat' (first | refine SW ?_ | refine SD ?_ | (refine HO_k 0 rfl ?_; refine HO_eqd rfl rfl rfl (if_eq x y) rfl rfl rfl rdA ?_) | exact HO_seg rfl rfl | refine S1 ?_ | (refine S2 ?_; intro _) | (refine S3 ?_; intro _ _) | (refine S4 ?_; intro _ _ _) | (refine HO_g 2 rfl ?_; first | apply HO_a1 rfl | apply HO_o1 rfl) | refine S5 ?_ | (intro hb; try replace hb := simB hb; try exact kill hb))
    (refine SR ?_; unfold RetQ; refine ⟨(), trivial, ?_, Keeps.nil⟩)
    rw [cdec_false hx hy hxy]; rfl
  ·obtain rfl : j = l.length := by omega
   repeat' (first | refine SW ?_ | refine SD ?_ | exact HO_seg rfl rfl | refine S1 ?_ | (refine S2 ?_; intro _) | (refine S3 ?_; intro _ _) | (refine S4 ?_; intro _ _ _) | (refine HO_g 2 rfl ?_; first | apply HO_a1 rfl | apply HO_o1 rfl) | refine S5 ?_ | (intro hb; try replace hb := simB hb; try exact kill hb))
   (refine SR ?_; unfold RetQ; refine ⟨(), trivial, ?_, Keeps.nil⟩)
   rw [decide_eq_true (call_same hne hno)]; rfl
 ·have e : decide (l = l') = false := decide_eq_false fun h => hne (by rw [h])
  rw [e]
  refine Tri_of (N := Tryz.f79.ntmps) (c := bodyOf Tryz.f79) Tryz.func79 rfl rfl rfl rfl (fun w0 S0 => ?_)
  repeat' (first | refine SW ?_ | refine SD ?_ | exact HO_seg rfl rfl | refine S1 ?_ | (refine S2 ?_; intro _) | (refine S3 ?_; intro _ _) | (refine S4 ?_; intro _ _ _) | (refine HO_g 2 rfl ?_; first | apply HO_a1 rfl | apply HO_o1 rfl) | refine S5 ?_ | (intro hb; try replace hb := simB hb; try exact kill hb))
  (refine SR ?_; unfold RetQ; refine ⟨(), trivial, ?_, Keeps.nil⟩)
  rfl
def numsOf (q : CfQ) : List Int := [num q 0, 0, num q 2, num q 3, num q 4, num q 5, num q 6, num q 7, num q 8, num q 9, num q 10, num q 11, num q 12, num q 13, num q 14, num q 15, num q 16, num q 17]
set_option maxHeartbeats 8000000 in
theorem rnums_t (c : CfS) : Tri Tryz.prog 75 [.agg c.e.toArray] [] [] (fun _ : Nat => True) (fun b => .slice (some ⟨b, 0, none⟩) 18 18) (fun b => [own idE 3 1 (some ⟨b, 0, none⟩) 18 18 ((numsOf c.q).map iE)]) := by
 refine Tri_of (N := Tryz.f75.ntmps) (c := bodyOf Tryz.f75) Tryz.func75 rfl rfl rfl rfl (fun w0 S0 => ?_)
 dsimp only [CfS.e]
 repeat' (first | refine SW ?_ | refine SD ?_ | exact HO_seg rfl rfl | refine S1 ?_ | (refine S2 ?_; intro _) | (refine S3 ?_; intro _ _) | (refine S4 ?_; intro _ _ _) | (refine HO_g 2 rfl ?_; first | apply HO_a1 rfl | apply HO_o1 rfl) | refine S5 ?_ | (intro hb; try replace hb := simB hb; try exact kill hb))
 rename_i b0 b
 (refine SR ?_; unfold RetQ; apply Exists.intro (b); refine ⟨trivial, ?_, ?_⟩; rotate_left 1; (repeat (first | exact Keeps.nil | refine Keeps.own_cons ?_ ?_ ?_ | refine Keeps.arr_cons ?_ ?_ | refine Keeps.cons Ent.rfl_ ?_ | refine Keeps.skip ?_ | refine Keeps.own_none ?_ ?_ ?_ | refine Keeps.arr_none ?_ ?_)))
 all_goals rfl
def firstQ : CfQ := ⟨[65000, 0, 90, 30, 1, 1, 0, 900, 700, 16, 30, 90, 2, 120, 1000, 2, 65536, 65536], 184483841, [], []⟩
@[reducible] def firstS : CfS := ⟨firstQ, none, 0, none, 0⟩
set_option maxHeartbeats 8000000 in
theorem rfirst_t : Tri Tryz.prog 51 [] [] [] (fun _ : Unit => True) (fun _ => .agg firstS.e.toArray) (fun _ => []) := by
 refine Tri_of (N := Tryz.f51.ntmps) (c := bodyOf Tryz.f51) Tryz.func51 rfl rfl rfl rfl (fun w0 S0 => ?_)
 repeat' (first | refine SW ?_ | refine SD ?_ | exact HO_seg rfl rfl | refine S1 ?_ | (refine S2 ?_; intro _) | (refine S3 ?_; intro _ _) | (refine S4 ?_; intro _ _ _) | (refine HO_g 2 rfl ?_; first | apply HO_a1 rfl | apply HO_o1 rfl) | refine S5 ?_ | (intro hb; try replace hb := simB hb; try exact kill hb))
 (refine SR ?_; unfold RetQ; refine ⟨(), trivial, ?_, Keeps.nil⟩)
 rfl
def cfSame (a b : CfQ) : Bool := decide (numsOf a = numsOf b) && decide (a.id = b.id) && decide (a.ifs = b.ifs) && decide (a.deny = b.deny)
theorem numsOf_len (q : CfQ) : (numsOf q).length = 18 := rfl
set_option maxHeartbeats 16000000 in
theorem rsame19_t (c d : CfS) (hc : CfL c) (hd : CfL d) : Tri Tryz.prog 22 [.agg c.e.toArray, .agg d.e.toArray] [arr IfQ.e 5 c.iA c.q.ifs, arr IfQ.e 5 d.iA d.q.ifs, arr iE 1 c.dA c.q.deny, arr iE 1 d.dA d.q.deny] [] (fun _ : Unit => True) (fun _ => .bool (cfSame c.q d.q)) (fun _ => []) := by
 have h1 := rnums_t c
 have h2 := rnums_t d
 have h3 := r16same_t c.iA c.q.ifs.length c.ic c.q.ifs rfl d.iA d.q.ifs.length d.ic d.q.ifs rfl (by have := hc.1; omega) (by have := hd.1; omega)
 have l1 := hc.2.1
 have l2 := hd.2.1
 dsimp only [CfS.e] at h1 h2
 refine Tri_of (N := Tryz.f22.ntmps) (c := bodyOf Tryz.f22) Tryz.func22 rfl rfl rfl rfl (fun w0 S0 => ?_)
 dsimp only [CfS.e]
 repeat' (first | refine SW ?_ | refine SD ?_ | refine HC_lex rfl rfl (by decide +kernel) rfl rfl ?_ | (refine HO_k 12 rfl ?_; refine HO_call rfl rfl rfl rfl (h1) rfl (trivial) rfl rfl soA ?_; intro b1 hb1; dsimp only [lca, lna]) | (refine HO_k 12 rfl ?_; refine HO_call rfl rfl rfl rfl (h2) rfl (trivial) rfl rfl soA ?_; intro b2 hb2; dsimp only [lca, lna]) | exact HO_seg rfl rfl | refine S1 ?_ | (refine S2 ?_; intro _) | (refine S3 ?_; intro _ _) | (refine S4 ?_; intro _ _ _) | (refine HO_g 2 rfl ?_; first | apply HO_a1 rfl | apply HO_o1 rfl) | refine S5 ?_ | (intro hb; try replace hb := simB hb; try exact kill hb))
 rename_i bc bd
 refine HC_keeps (rw' := [cel bc TCf c.e, cel bd TCf d.e, own idE 3 1 (some ⟨b1, 0, none⟩) 18 18 ((numsOf c.q).map iE), own idE 3 1 (some ⟨b2, 0, none⟩) 18 18 ((numsOf d.q).map iE)]) permA ?_
 refine HC_loop (α := Nat) (fun j => j ≤ 18 ∧ ∀ q, q < j → (numsOf c.q)[q]? = (numsOf d.q)[q]?) (fun j => [(7, .int .i64 j), (6, .slice (some ⟨b2, 0, none⟩) 18 18), (5, .slice (some ⟨b1, 0, none⟩) 18 18), (3, pt bd), (2, pt bc)]) (fun _ => [cel bc TCf c.e, cel bd TCf d.e, own idE 3 1 (some ⟨b1, 0, none⟩) 18 18 ((numsOf c.q).map iE), own idE 3 1 (some ⟨b2, 0, none⟩) 18 18 ((numsOf d.q).map iE)]) (fun j => 18 - j) rfl 0 ⟨Nat.zero_le _, fun q hq => by omega⟩ ⟨rfl, rfl, rfl, rfl, rfl, trivial⟩ rfl ?_
 rintro j ⟨hj, hno⟩
 have lc := numsOf_len c.q
 have ld := numsOf_len d.q
 obtain ⟨u, hu⟩ : ∃ u, numsOf c.q = u := ⟨_, rfl⟩
 obtain ⟨v, hv⟩ : ∃ v, numsOf d.q = v := ⟨_, rfl⟩
 unfold cfSame
 rw [hu] at hno lc ⊢
 rw [hv] at hno ld ⊢
 rcases Nat.lt_or_ge j 18 with hlt | hge
 ·obtain ⟨x, hx⟩ : ∃ x, u[j]? = some x := ⟨u[j], List.getElem?_eq_getElem (by omega)⟩
  obtain ⟨y, hy⟩ : ∃ y, v[j]? = some y := ⟨v[j], List.getElem?_eq_getElem (by omega)⟩
  by_cases hxy : x = y
  ·repeat' (first | refine SW ?_ | refine SD ?_ | exact HO_seg rfl rfl | refine S1 ?_ | (refine S2 ?_; intro _) | (refine S3 ?_; intro _ _) | (refine S4 ?_; intro _ _ _) | (refine HO_g 2 rfl ?_; first | apply HO_a1 rfl | apply HO_o1 rfl) | refine S5 ?_ | (intro hb; try replace hb := simB hb; try exact kill hb))
   exact HX_at (j + 1) ⟨⟨hlt, fun q hq => by
    rcases Nat.lt_or_ge q j with h | h
    ·exact hno q h
    ·obtain rfl : q = j := by omega
     rw [hx, hy, hxy]⟩, by show 18 - (j + 1) < 18 - j; omega⟩ ⟨rfl, rfl, rfl, rfl, rfl, trivial⟩ rfl
  ·repeat' (first | refine SW ?_ | refine SD ?_ | exact HO_seg rfl rfl | refine S1 ?_ | (refine S2 ?_; intro _) | (refine S3 ?_; intro _ _) | (refine S4 ?_; intro _ _ _) | (refine HO_g 2 rfl ?_; first | apply HO_a1 rfl | apply HO_o1 rfl) | refine S5 ?_ | (intro hb; try replace hb := simB hb; try exact kill hb))
   (refine SR ?_; unfold RetQ; refine ⟨(), trivial, ?_, Keeps.nil⟩)
   have huv : ¬ u = v := fun e => hxy (by rw [e, hy] at hx; injection hx with hx; exact hx.symm)
   rw [decide_eq_false huv]
   rfl
 ·obtain rfl : j = 18 := by omega
  have huv : u = v := call_same (by omega) (fun q hq => hno q (by omega))
  dsimp only [CfS.e]
  rw [decide_eq_true huv]
  by_cases g1 : c.q.id = d.q.id
  ·rw [decide_eq_true g1]
   by_cases g2 : c.q.ifs = d.q.ifs
   ·rw [decide_eq_true g2] at h3 ⊢
    by_cases g3 : c.q.deny.length = d.q.deny.length
    ·repeat' (first | refine SW ?_ | refine SD ?_ | (refine HO_k 12 rfl ?_; refine HO_callq rfl rfl rfl rfl (h3) (fun _ _ => rfl) (srcsA) rfl rfl sqA ?_) | exact HO_seg rfl rfl | refine S1 ?_ | (refine S2 ?_; intro _) | (refine S3 ?_; intro _ _) | (refine S4 ?_; intro _ _ _) | (refine HO_g 2 rfl ?_; first | apply HO_a1 rfl | apply HO_o1 rfl) | refine S5 ?_ | (intro hb; try replace hb := simB hb; try exact kill hb))
     refine HC_keeps (rw' := [cel bc TCf c.e, cel bd TCf d.e]) (Keeps.cons Ent.rfl_ (Keeps.cons Ent.rfl_ (Keeps.skip (Keeps.skip Keeps.nil)))) ?_
     refine HC_loop (α := Nat) (fun k => k ≤ c.q.deny.length ∧ ∀ q, q < k → c.q.deny[q]? = d.q.deny[q]?) (fun k => [(8, .int .i64 k), (3, pt bd), (2, pt bc)]) (fun _ => [cel bc TCf c.e, cel bd TCf d.e]) (fun k => c.q.deny.length - k) rfl 0 ⟨Nat.zero_le _, fun q hq => by omega⟩ ⟨rfl, rfl, rfl, trivial⟩ rfl ?_
     rintro k ⟨hk, hkn⟩
     dsimp only [CfS.e]
     rcases Nat.lt_or_ge k c.q.deny.length with hlt | hge
     ·obtain ⟨x, hx⟩ : ∃ x, c.q.deny[k]? = some x := ⟨c.q.deny[k], List.getElem?_eq_getElem (by omega)⟩
      obtain ⟨y, hy⟩ : ∃ y, d.q.deny[k]? = some y := ⟨d.q.deny[k], List.getElem?_eq_getElem (by omega)⟩
      by_cases hxy : x = y
      ·repeat' (first | refine SW ?_ | refine SD ?_ | exact HO_seg rfl rfl | refine S1 ?_ | (refine S2 ?_; intro _) | (refine S3 ?_; intro _ _) | (refine S4 ?_; intro _ _ _) | (refine HO_g 2 rfl ?_; first | apply HO_a1 rfl | apply HO_o1 rfl) | refine S5 ?_ | (intro hb; try replace hb := simB hb; try exact kill hb))
       exact HX_at (k + 1) ⟨⟨hlt, fun q hq => by
        rcases Nat.lt_or_ge q k with h | h
        ·exact hkn q h
        ·obtain rfl : q = k := by omega
         rw [hx, hy, hxy]⟩, by show c.q.deny.length - (k + 1) < c.q.deny.length - k; omega⟩ ⟨rfl, rfl, rfl, trivial⟩ rfl
      ·repeat' (first | refine SW ?_ | refine SD ?_ | exact HO_seg rfl rfl | refine S1 ?_ | (refine S2 ?_; intro _) | (refine S3 ?_; intro _ _) | (refine S4 ?_; intro _ _ _) | (refine HO_g 2 rfl ?_; first | apply HO_a1 rfl | apply HO_o1 rfl) | refine S5 ?_ | (intro hb; try replace hb := simB hb; try exact kill hb))
       (refine SR ?_; unfold RetQ; refine ⟨(), trivial, ?_, Keeps.nil⟩)
       rw [cdec_false hx hy hxy]
       rfl
     ·obtain rfl : k = c.q.deny.length := by omega
      repeat' (first | refine SW ?_ | refine SD ?_ | exact HO_seg rfl rfl | refine S1 ?_ | (refine S2 ?_; intro _) | (refine S3 ?_; intro _ _) | (refine S4 ?_; intro _ _ _) | (refine HO_g 2 rfl ?_; first | apply HO_a1 rfl | apply HO_o1 rfl) | refine S5 ?_ | (intro hb; try replace hb := simB hb; try exact kill hb))
      (refine SR ?_; unfold RetQ; refine ⟨(), trivial, ?_, Keeps.nil⟩)
      rw [decide_eq_true (call_same g3 hkn)]
      rfl
    ·repeat' (first | refine SW ?_ | refine SD ?_ | (refine HO_k 12 rfl ?_; refine HO_callq rfl rfl rfl rfl (h3) (fun _ _ => rfl) (srcsA) rfl rfl sqA ?_) | exact HO_seg rfl rfl | refine S1 ?_ | (refine S2 ?_; intro _) | (refine S3 ?_; intro _ _) | (refine S4 ?_; intro _ _ _) | (refine HO_g 2 rfl ?_; first | apply HO_a1 rfl | apply HO_o1 rfl) | refine S5 ?_ | (intro hb; try replace hb := simB hb; try exact kill hb))
     (refine SR ?_; unfold RetQ; refine ⟨(), trivial, ?_, Keeps.nil⟩)
     rw [decide_eq_false fun e => g3 (by rw [e])]
     rfl
   ·rw [decide_eq_false g2] at h3 ⊢
    repeat' (first | refine SW ?_ | refine SD ?_ | (refine HO_k 12 rfl ?_; refine HO_callq rfl rfl rfl rfl (h3) (fun _ _ => rfl) (srcsA) rfl rfl sqA ?_) | exact HO_seg rfl rfl | refine S1 ?_ | (refine S2 ?_; intro _) | (refine S3 ?_; intro _ _) | (refine S4 ?_; intro _ _ _) | (refine HO_g 2 rfl ?_; first | apply HO_a1 rfl | apply HO_o1 rfl) | refine S5 ?_ | (intro hb; try replace hb := simB hb; try exact kill hb))
    (refine SR ?_; unfold RetQ; refine ⟨(), trivial, ?_, Keeps.nil⟩)
    rfl
  ·rw [decide_eq_false g1]
   repeat' (first | refine SW ?_ | refine SD ?_ | (refine HO_k 12 rfl ?_; refine HO_callq rfl rfl rfl rfl (h3) (fun _ _ => rfl) (srcsA) rfl rfl sqA ?_) | exact HO_seg rfl rfl | refine S1 ?_ | (refine S2 ?_; intro _) | (refine S3 ?_; intro _ _) | (refine S4 ?_; intro _ _ _) | (refine HO_g 2 rfl ?_; first | apply HO_a1 rfl | apply HO_o1 rfl) | refine S5 ?_ | (intro hb; try replace hb := simB hb; try exact kill hb))
   (refine SR ?_; unfold RetQ; refine ⟨(), trivial, ?_, Keeps.nil⟩)
   rfl
@[reducible] def ptO (b o : Nat) : Value := .pointer (some ⟨b, o, none⟩)
def offN (i : Nat) : Nat := if i < 7 then i else if i < 16 then i + 1 else i + 2
def ptrsL (b b1 : Nat) : List Value := [ptO b 0, ptO b1 0, ptO b 2, ptO b 3, ptO b 4, ptO b 5, ptO b 6, ptO b 8, ptO b 9, ptO b 10, ptO b 11, ptO b 12, ptO b 13, ptO b 14, ptO b 15, ptO b 16, ptO b 18, ptO b 19]
theorem ptrs_at (b b1 : Nat) {i : Nat} (h : i < 18) (h1 : i ≠ 1) : (ptrsL b b1)[i]? = some (ptO b (offN i)) := by
 obtain h | h | h | h | h | h | h | h | h | h | h | h | h | h | h | h | h | h : i = 0 ∨ i = 1 ∨ i = 2 ∨ i = 3 ∨ i = 4 ∨ i = 5 ∨ i = 6 ∨ i = 7 ∨ i = 8 ∨ i = 9 ∨ i = 10 ∨ i = 11 ∨ i = 12 ∨ i = 13 ∨ i = 14 ∨ i = 15 ∨ i = 16 ∨ i = 17 := by omega
 all_goals first | (subst h; rfl) | omega
theorem e_at (c : CfS) {i : Nat} (h : i < 18) (h1 : i ≠ 1) : c.e[offN i]? = some (.int .i64 (num c.q i)) := by
 obtain h | h | h | h | h | h | h | h | h | h | h | h | h | h | h | h | h | h : i = 0 ∨ i = 1 ∨ i = 2 ∨ i = 3 ∨ i = 4 ∨ i = 5 ∨ i = 6 ∨ i = 7 ∨ i = 8 ∨ i = 9 ∨ i = 10 ∨ i = 11 ∨ i = 12 ∨ i = 13 ∨ i = 14 ∨ i = 15 ∨ i = 16 ∨ i = 17 := by omega
 all_goals first | (subst h; rfl) | omega
theorem nums_at (q : CfQ) {i : Nat} (h : i < 18) (h1 : i ≠ 1) : (numsOf q)[i]? = some (num q i) := by
 obtain h | h | h | h | h | h | h | h | h | h | h | h | h | h | h | h | h | h : i = 0 ∨ i = 1 ∨ i = 2 ∨ i = 3 ∨ i = 4 ∨ i = 5 ∨ i = 6 ∨ i = 7 ∨ i = 8 ∨ i = 9 ∨ i = 10 ∨ i = 11 ∨ i = 12 ∨ i = 13 ∨ i = 14 ∨ i = 15 ∨ i = 16 ∨ i = 17 := by omega
 all_goals first | (subst h; rfl) | omega
def CfQ.put (q : CfQ) (i : Nat) (n : Int) : CfQ := { q with nums := q.nums.set i n }
def CfS.put (c : CfS) (i : Nat) (n : Int) : CfS := { c with q := c.q.put i n }
theorem e_put (c : CfS) (hl : c.q.nums.length = 18) {i : Nat} (n : Int) (h : i < 18) (h1 : i ≠ 1) : c.e.set (offN i) (.int .i64 n) = (c.put i n).e := by
 obtain ⟨⟨l, id, ifs, deny⟩, iA, ic, dA, dc⟩ := c
 have hl : l.length = 18 := hl
 match l, hl with
 | [x0, x1, x2, x3, x4, x5, x6, x7, x8, x9, x10, x11, x12, x13, x14, x15, x16, x17], _ =>
  obtain h | h | h | h | h | h | h | h | h | h | h | h | h | h | h | h | h | h : i = 0 ∨ i = 1 ∨ i = 2 ∨ i = 3 ∨ i = 4 ∨ i = 5 ∨ i = 6 ∨ i = 7 ∨ i = 8 ∨ i = 9 ∨ i = 10 ∨ i = 11 ∨ i = 12 ∨ i = 13 ∨ i = 14 ∨ i = 15 ∨ i = 16 ∨ i = 17 := by omega
  all_goals first | (subst h; rfl) | omega
set_option maxHeartbeats 16000000 in
theorem fields_t (b : Nat) : Tri Tryz.prog 55 [pt b] [] [] (fun _ : Nat => True) (fun b1 => .agg (ptrsL b b1).toArray) (fun b1 => [cel b1 3 [.int .i64 0]]) := by
 refine Tri_of (N := Tryz.f55.ntmps) (c := bodyOf Tryz.f55) Tryz.func55 rfl rfl rfl rfl (fun w0 S0 => ?_)
 repeat' (first | refine SW ?_ | refine SD ?_ | (refine HO_k 6 rfl ?_; refine HO_buildA rfl rfl rfl rfl rfl rdA ?_) | exact HO_seg rfl rfl | refine S1 ?_ | (refine S2 ?_; intro _) | (refine S3 ?_; intro _ _) | (refine S4 ?_; intro _ _ _) | (refine HO_g 2 rfl ?_; first | apply HO_a1 rfl | apply HO_o1 rfl) | refine S5 ?_ | (intro hb; try replace hb := simB hb; try exact kill hb))
 rename_i b0 b1
 (refine SR ?_; unfold RetQ; apply Exists.intro (b1); refine ⟨trivial, ?_, ?_⟩; rotate_left 1; (repeat (first | exact Keeps.nil | refine Keeps.own_cons ?_ ?_ ?_ | refine Keeps.arr_cons ?_ ?_ | refine Keeps.cons Ent.rfl_ ?_ | refine Keeps.skip ?_ | refine Keeps.own_none ?_ ?_ ?_ | refine Keeps.arr_none ?_ ?_)))
 all_goals rfl
theorem memA {α : Type} {e : α} {l : List α} (h : e ∈ l := by first | exact List.Mem.head _ | exact .tail _ (.head _) | exact .tail _ (.tail _ (.head _)) | exact .tail _ (.tail _ (.tail _ (.head _))) | exact .tail _ (.tail _ (.tail _ (.tail _ (.head _)))) | exact .tail _ (.tail _ (.tail _ (.tail _ (.tail _ (.head _)))))) : e ∈ l := h
@[reducible] def TAr : Nat := 112
set_option maxHeartbeats 16000000 in
theorem csame_t (c d : CfS) (hc : CfL c) (hd : CfL d) : Tri Tryz.prog 25 [.agg c.e.toArray, .agg d.e.toArray] [arr IfQ.e 5 c.iA c.q.ifs, arr IfQ.e 5 d.iA d.q.ifs, arr iE 1 c.dA c.q.deny, arr iE 1 d.dA d.q.deny] [] (fun _ : Unit => True) (fun _ => .bool (cfSame c.q d.q)) (fun _ => []) := by
 have h1 := fields_t
 have h3 := ceqN_t c.iA c.q.ifs.length c.ic c.q.ifs rfl d.iA d.q.ifs.length d.ic d.q.ifs rfl (by have := hc.1; omega) (by have := hd.1; omega)
 have h4 := ceqI_t c.dA c.q.deny.length c.dc c.q.deny rfl d.dA d.q.deny.length d.dc d.q.deny rfl (by have := hc.2.1; omega) (by have := hd.2.1; omega)
 refine Tri_of (N := Tryz.f25.ntmps) (c := bodyOf Tryz.f25) Tryz.func25 rfl rfl rfl rfl (fun w0 S0 => ?_)
 repeat' (first | refine SW ?_ | refine SD ?_ | (refine HO_k 12 rfl ?_; refine HO_call rfl rfl rfl rfl (h1 _) rfl (trivial) rfl rfl soA ?_; intro b hb; dsimp only [lca, lna]) | exact HO_seg rfl rfl | refine S1 ?_ | (refine S2 ?_; intro _) | (refine S3 ?_; intro _ _) | (refine S4 ?_; intro _ _ _) | (refine HO_g 2 rfl ?_; first | apply HO_a1 rfl | apply HO_o1 rfl) | refine S5 ?_ | (intro hb; try replace hb := simB hb; try exact kill hb))
 rename_i bc bd q1 hq1 pa pb
 refine HC_loop (α := Nat) (fun j => j ≤ 18 ∧ ∀ q, q < j → (numsOf c.q)[q]? = (numsOf d.q)[q]?) (fun j => [(10, .int .i64 j), (6, pt pb), (5, pt pa), (3, pt bd), (2, pt bc)]) (fun _ => [cel pb TAr (ptrsL bd b), cel pa TAr (ptrsL bc q1), cel b 3 [.int .i64 0], cel q1 3 [.int .i64 0], cel bd TCf d.e, cel bc TCf c.e]) (fun j => 18 - j) rfl 0 ⟨Nat.zero_le _, fun q hq => by omega⟩ ⟨rfl, rfl, rfl, rfl, rfl, trivial⟩ rfl ?_
 rintro j ⟨hj, hno⟩
 rcases Nat.lt_or_ge j 18 with hlt | hge
 ·by_cases hj1 : j = 1
  ·subst hj1
   repeat' (first | refine SW ?_ | refine SD ?_ | (refine HO_k 10 rfl ?_; refine HO_ixa (j := 1) rfl rfl rfl rfl hlt rfl rfl rdA ?_) | exact HO_seg rfl rfl | refine S1 ?_ | (refine S2 ?_; intro _) | (refine S3 ?_; intro _ _) | (refine S4 ?_; intro _ _ _) | (refine HO_g 2 rfl ?_; first | apply HO_a1 rfl | apply HO_o1 rfl) | refine S5 ?_ | (intro hb; try replace hb := simB hb; try exact kill hb))
   exact HX_at 2 ⟨⟨by omega, fun q hq => by
    rcases Nat.lt_or_ge q 1 with h | h
    ·exact hno q h
    ·obtain rfl : q = 1 := by omega
     rfl⟩, by show 18 - 2 < 18 - 1; omega⟩ ⟨rfl, rfl, rfl, rfl, rfl, trivial⟩ rfl
  ·have p1 := ptrs_at bc q1 hlt hj1
   have p2 := ptrs_at bd b hlt hj1
   have v1 := e_at c hlt hj1
   have v2 := e_at d hlt hj1
   by_cases hxy : num c.q j = num d.q j
   ·repeat' (first | refine SW ?_ | refine SD ?_ | (refine HO_k 10 rfl ?_; refine HO_ixa (j := j) rfl rfl rfl rfl hlt rfl rfl rdA ?_) | (refine HO_k 2 rfl ?_; first | refine HO_loj (hm := rfl) rfl rfl memA p1 rfl rfl rdA ?_ | refine HO_loj (hm := rfl) rfl rfl memA p2 rfl rfl rdA ?_ | refine HO_loj (hm := rfl) rfl rfl memA v1 rfl rfl rdA ?_ | refine HO_loj (hm := rfl) rfl rfl memA v2 rfl rfl rdA ?_) | exact HO_seg rfl rfl | refine S1 ?_ | (refine S2 ?_; intro _) | (refine S3 ?_; intro _ _) | (refine S4 ?_; intro _ _ _) | (refine HO_g 2 rfl ?_; first | apply HO_a1 rfl | apply HO_o1 rfl) | refine S5 ?_ | (intro hb; try replace hb := simB hb; try exact kill hb))
    exact HX_at (j + 1) ⟨⟨hlt, fun q hq => by
     rcases Nat.lt_or_ge q j with h | h
     ·exact hno q h
     ·obtain rfl : q = j := by omega
      rw [nums_at c.q hlt hj1, nums_at d.q hlt hj1, hxy]⟩, by show 18 - (j + 1) < 18 - j; omega⟩ ⟨rfl, rfl, rfl, rfl, rfl, trivial⟩ rfl
   ·repeat' (first | refine SW ?_ | refine SD ?_ | (refine HO_k 10 rfl ?_; refine HO_ixa (j := j) rfl rfl rfl rfl hlt rfl rfl rdA ?_) | (refine HO_k 2 rfl ?_; first | refine HO_loj (hm := rfl) rfl rfl memA p1 rfl rfl rdA ?_ | refine HO_loj (hm := rfl) rfl rfl memA p2 rfl rfl rdA ?_ | refine HO_loj (hm := rfl) rfl rfl memA v1 rfl rfl rdA ?_ | refine HO_loj (hm := rfl) rfl rfl memA v2 rfl rfl rdA ?_) | exact HO_seg rfl rfl | refine S1 ?_ | (refine S2 ?_; intro _) | (refine S3 ?_; intro _ _) | (refine S4 ?_; intro _ _ _) | (refine HO_g 2 rfl ?_; first | apply HO_a1 rfl | apply HO_o1 rfl) | refine S5 ?_ | (intro hb; try replace hb := simB hb; try exact kill hb))
    (refine SR ?_; unfold RetQ; refine ⟨(), trivial, ?_, Keeps.nil⟩)
    have huv : ¬ numsOf c.q = numsOf d.q := fun e => hxy (by
     have a1 := nums_at c.q hlt hj1
     rw [e, nums_at d.q hlt hj1] at a1
     injection a1 with a1
     exact a1.symm)
    unfold cfSame
    rw [decide_eq_false huv]
    rfl
 ·obtain rfl : j = 18 := by omega
  have huv : numsOf c.q = numsOf d.q := call_same rfl (fun q hq => hno q hq)
  unfold cfSame
  rw [decide_eq_true huv]
  dsimp only [CfS.e]
  repeat' (first | refine SW ?_ | refine SD ?_ | (refine HO_k 12 rfl ?_; refine HO_callq rfl rfl rfl rfl (h3) (fun _ _ => rfl) (srcsA) rfl rfl sqA ?_) | (refine HO_k 12 rfl ?_; refine HO_callq rfl rfl rfl rfl (h4) (fun _ _ => rfl) (srcsA) rfl rfl sqA ?_) | exact HO_seg rfl rfl | refine S1 ?_ | (refine S2 ?_; intro _) | (refine S3 ?_; intro _ _) | (refine S4 ?_; intro _ _ _) | (refine HO_g 2 rfl ?_; first | apply HO_a1 rfl | apply HO_o1 rfl) | refine S5 ?_ | (intro hb; try replace hb := simB hb; try exact kill hb))
  have he : decide (((c.q.id : Nat) : Int) = (d.q.id : Nat)) = decide (c.q.id = d.q.id) := decide_eq_decide.2 (by omega)
  rw [he, Bool.true_and]
  (refine SR ?_; unfold RetQ; refine ⟨(), trivial, ?_, Keeps.nil⟩)
  rfl
end Go.Proofs.YtbhiojedmkcfoaaGreatDoor
