/- The pointers to the numbers of settings; settings held against each other. -/
import Derived.Test.YtbhiojedmkcfoaaGreatDoorCfC
import Derived.Test.YtbhiojedmkcfoaaGreatDoorKc
namespace Go.Proofs.YtbhiojedmkcfoaaGreatDoor
set_option linter.unusedVariables false
set_option linter.unusedSimpArgs false
open Go.RowKit
attribute [local irreducible] HC HX HO Tri eP adr

@[reducible] def ptO (b o : Nat) : Value := .pointer (some ⟨b, o, none⟩)
/-- where a number lies in settings -/
def offN (i : Nat) : Nat := if i < 7 then i else if i < 16 then i + 1 else i + 2
/-- what fields tells: pointers into b, and one into b1 -/
def ptrsL (b b1 : Nat) : List Value := [ptO b 0, ptO b1 0, ptO b 2, ptO b 3, ptO b 4, ptO b 5, ptO b 6, ptO b 8, ptO b 9, ptO b 10, ptO b 11, ptO b 12, ptO b 13, ptO b 14, ptO b 15, ptO b 16, ptO b 18, ptO b 19]
theorem ptrs_at (b b1 : Nat) {i : Nat} (h : i < 18) (h1 : i ≠ 1) : (ptrsL b b1)[i]? = some (ptO b (offN i)) := by
  obtain h | h | h | h | h | h | h | h | h | h | h | h | h | h | h | h | h | h : i = 0 ∨ i = 1 ∨ i = 2 ∨ i = 3 ∨ i = 4 ∨ i = 5 ∨ i = 6 ∨ i = 7 ∨ i = 8 ∨ i = 9 ∨ i = 10 ∨ i = 11 ∨ i = 12 ∨ i = 13 ∨ i = 14 ∨ i = 15 ∨ i = 16 ∨ i = 17 := by omega
  all_goals first | (subst h; rfl) | omega
theorem e_at (c : CfS) {i : Nat} (h : i < 18) (h1 : i ≠ 1) : c.e[offN i]? = some (.int .i64 (num c.q i)) := by
  obtain h | h | h | h | h | h | h | h | h | h | h | h | h | h | h | h | h | h : i = 0 ∨ i = 1 ∨ i = 2 ∨ i = 3 ∨ i = 4 ∨ i = 5 ∨ i = 6 ∨ i = 7 ∨ i = 8 ∨ i = 9 ∨ i = 10 ∨ i = 11 ∨ i = 12 ∨ i = 13 ∨ i = 14 ∨ i = 15 ∨ i = 16 ∨ i = 17 := by omega
  all_goals first | (subst h; rfl) | omega
theorem nums_at (q : CfQ) {i : Nat} (h : i < 18) (h1 : i ≠ 1) : (numsOf q)[i]? = some (num q i) := by
  obtain h | h | h | h | h | h | h | h | h | h | h | h | h | h | h | h | h | h : i = 0 ∨ i = 1 ∨ i = 2 ∨ i = 3 ∨ i = 4 ∨ i = 5 ∨ i = 6 ∨ i = 7 ∨ i = 8 ∨ i = 9 ∨ i = 10 ∨ i = 11 ∨ i = 12 ∨ i = 13 ∨ i = 14 ∨ i = 15 ∨ i = 16 ∨ i = 17 := by omega
  all_goals first | (subst h; rfl) | omega
/-- settings with another number -/
def CfQ.put (q : CfQ) (i : Nat) (n : Int) : CfQ := { q with nums := q.nums.set i n }
def CfS.put (c : CfS) (i : Nat) (n : Int) : CfS := { c with q := c.q.put i n }
theorem e_put (c : CfS) (hl : c.q.nums.length = 18) {i : Nat} (n : Int) (h : i < 18) (h1 : i ≠ 1) : c.e.set (offN i) (.int .i64 n) = (c.put i n).e := by
  obtain ⟨⟨l, id, ifs, deny⟩, iA, ic, dA, dc⟩ := c
  have hl : l.length = 18 := hl
  match l, hl with
  | [x0, x1, x2, x3, x4, x5, x6, x7, x8, x9, x10, x11, x12, x13, x14, x15, x16, x17], _ =>
    obtain h | h | h | h | h | h | h | h | h | h | h | h | h | h | h | h | h | h : i = 0 ∨ i = 1 ∨ i = 2 ∨ i = 3 ∨ i = 4 ∨ i = 5 ∨ i = 6 ∨ i = 7 ∨ i = 8 ∨ i = 9 ∨ i = 10 ∨ i = 11 ∨ i = 12 ∨ i = 13 ∨ i = 14 ∨ i = 15 ∨ i = 16 ∨ i = 17 := by omega
    all_goals first | (subst h; rfl) | omega
set_option maxHeartbeats 16000000 in
theorem fields_t (b : Nat) : Tri Tryz.prog 55 [pt b] [] [] (fun _ : Nat => True) (fun b1 => .agg (ptrsL b b1).toArray) (fun b1 => [cel b1 3 [.int .i64 0]]) := by
  refine Tri_of (N := Tryz.f55.ntmps) (c := bodyOf Tryz.f55) Tryz.func55 rfl rfl rfl rfl (fun w0 S0 => ?_)
  repeat' (first | refine SW ?_ | refine SD ?_ | (refine HO_k 6 rfl ?_; refine HO_buildA rfl rfl rfl rfl rfl rdA ?_) | exact HO_seg rfl rfl | refine S1 ?_ | (refine S2 ?_; intro _) | (refine S3 ?_; intro _ _) | (refine S4 ?_; intro _ _ _) | (refine HO_g 2 rfl ?_; (first | apply HO_and rfl rfl rfl rfl rfl rfl rfl rfl rfl | apply HO_or rfl rfl rfl rfl rfl rfl rfl rfl rfl)) | refine S5 ?_ | (intro hb; try replace hb := simB hb; try exact kill hb))
  rename_i b0 b1
  ((first | apply HX_ret | apply HX_retn); (repeat (first | exact Res_nil | apply Res_tmp rfl | apply Res_ce rfl rfl rfl)); unfold RetQ; apply Exists.intro (b1); refine ⟨trivial, ?_, ?_⟩; rotate_left 1; (repeat (first | exact Keeps.nil | refine Keeps.own_cons ?_ ?_ ?_ | refine Keeps.arr_cons ?_ ?_ | refine Keeps.cons Ent.rfl_ ?_ | refine Keeps.skip ?_ | refine Keeps.own_none ?_ ?_ ?_ | refine Keeps.arr_none ?_ ?_)))
  all_goals rfl
end Go.Proofs.YtbhiojedmkcfoaaGreatDoor
