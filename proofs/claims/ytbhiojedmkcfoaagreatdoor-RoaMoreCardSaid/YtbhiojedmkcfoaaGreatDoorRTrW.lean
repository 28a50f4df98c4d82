/- Part of a proof of many texts: what the theorem at its end leans on. -/
import Derived.Test.YtbhiojedmkcfoaaGreatDoorRTrV
import Derived.Test.YtbhiojedmkcfoaaGreatDoorRTrO
import Derived.Test.YtbhiojedmkcfoaaGreatDoorRTrR
import Derived.Test.YtbhiojedmkcfoaaGreatDoorRTrJ
namespace Go.Proofs.YtbhiojedmkcfoaaGreatDoor
set_option linter.unusedVariables false
set_option linter.unusedSimpArgs false
open Go.RowKit
attribute [local irreducible] HC HX HO Tri eP adr
theorem inn_1 {e : SL} : Ent e (inn [e]) := fun S w hp f hf => by
 cases List.mem_singleton.1 hf
 exact ⟨S, fun _ h => h, hp⟩
def es33 : List RoQ := [⟨167772160, 8, 16, 7⟩]
def tx33 : List UInt8 := [49, 48, 46, 48, 46, 48, 46, 48, 47, 56, 32, 49, 54, 32, 55, 10]
def tx34 : List UInt8 := [49, 48, 46, 48, 46, 48, 46, 48, 47, 56, 32, 55, 32, 55, 10]
theorem es33_ok : roaOk es33 = true := by decide +kernel
theorem es33_all : ∀ x ∈ es33, roOk x = true := by decide +kernel
theorem es33_a : ∀ x ∈ es33, x.a < 4294967296 := by decide +kernel
theorem tx33_e : roT es33 = tx33 := by decide +kernel
theorem lin33 : linB tx33 = [tx33] := by decide +kernel
theorem lin34 : linB tx34 = [tx34] := by decide +kernel
theorem lins33 : linsQ tx33 = es33 := by decide +kernel
theorem lins34 : linsQ tx34 = [⟨167772160, 8, 7, 7⟩] := by decide +kernel
theorem show33_t (b : Nat) : Tri Tryz.prog 87 [.slice (some ⟨b, 0, none⟩) 1 1] [arr RoQ.e 4 (some ⟨b, 0, none⟩) es33, tab1] [] (fun _ : Unit => True) (fun _ => .string ⟨tx33.toArray⟩) (fun _ => []) := by
 have := roshow_t (some ⟨b, 0, none⟩) 1 es33 (by decide) (by rw [tx33_e]; decide) es33_a es33_ok (by rw [tx33_e]; decide)
 rw [tx33_e] at this
 exact this
theorem parse33_t (m : Int) : Tri Tryz.prog 88 [.string ⟨tx33.toArray⟩] [maxLen0 m] [] (fun _ : OA => True) (fun x => .tuple #[.slice x.1 1 x.2, .int .i64 0]) (fun x => [own idE 73 4 x.1 1 x.2 (es33.map RoQ.e)]) := by
 have := roparse_t m tx33 (by decide) (by rw [lin33]; decide) (by
  rw [lin33]
  intro x hx
  cases List.mem_singleton.1 hx
  decide +kernel)
 rw [lins33, es33_ok] at this
 exact this
theorem parse34_t (m : Int) : Tri Tryz.prog 88 [.string ⟨tx34.toArray⟩] [maxLen0 m] [] (fun _ : OA => True) (fun x => .tuple #[.slice none 0 0, .int .i64 330]) (fun x => []) := by
 have := roparse_t m tx34 (by decide) (by rw [lin34]; decide) (by
  rw [lin34]
  intro x hx
  cases List.mem_singleton.1 hx
  decide +kernel)
 rw [lins34, show roaOk [⟨167772160, 8, 7, 7⟩] = false from by decide +kernel] at this
 exact this
abbrev T33 := (Nat × Nat × Nat) × Int × Tre RoN
def Ok33 (z : T33) : Prop := z.2.2.root = some ⟨z.1.2.2, 0, none⟩ ∧ TabOk z.2.2 es33
theorem st33_t (z : T33) (hz : Ok33 z) (a : Nat) (ha : a < 4294967296) (n s : Int) (b1 b2 : Nat) (v : Int) (hv : stQ es33 a n (s, true) = v) :
  Tri Tryz.prog 34 [pt z.1.1, pfV a n, .agg (lAt s 1 b1 b2).e.toArray] [cel z.1.1 TTab [pt z.1.2.1, .int .i64 1], cel z.1.2.1 TTr [pt z.1.2.2, .int .i64 z.2.1], inn z.2.2.pc, arr iE 1 (some ⟨b1, 0, none⟩) [s], arr SegS.e 2 (some ⟨b2, 0, none⟩) [lSg s b1]] [] (fun _ : Unit => True) (fun _ => .int .i64 v) (fun _ => []) := by
 have hat : PathW (lAt s 1 b1 b2) := by
  unfold PathW lAt lSg
  simp
 have := state_r z.1.1 z.1.2.1 z.1.2.2 z.2.2 z.2.1 1 es33 hz.1 hz.2 es33_all es33_a (by decide) a ha n (lAt s 1 b1 b2) hat
 rw [show lastQ (lAt s 1 b1 b2) = (s, true) from rfl, hv] at this
 exact Tri_ro this (AllSrc.at_ 0 rfl (AllSrc.at_ 1 rfl (AllSrc.at_ 2 rfl (AllSrc.via 3 rfl inn_1 (AllSrc.at_ 4 rfl (AllSrc.free (fun w => arr_nil _ w) trivial))))))
def n33a : Nl := ⟨0, 167837696, 16⟩
def n33b : Nl := ⟨0, 167837696, 24⟩
def u33 (b b1 b2 : Nat) : UpS := ⟨none, 0, [], some ⟨b, 0, none⟩, 2, [n33a, n33b], lAt 7 1 b1 b2, false⟩
theorem flt33_t (z : T33) (hz : Ok33 z) (b b1 b2 : Nat) :
  Tri Tryz.prog 38 [pt z.1.1, .agg (u33 b b1 b2).e.toArray] [cel z.1.1 TTab [pt z.1.2.1, .int .i64 1], cel z.1.2.1 TTr [pt z.1.2.2, .int .i64 z.2.1], inn z.2.2.pc, arr iE 1 (some ⟨b1, 0, none⟩) [7], arr SegS.e 2 (some ⟨b2, 0, none⟩) [lSg 7 b1], arr Nl.e 3 (some ⟨b, 0, none⟩) [n33a, n33b]] []
   (fun _ : OA × OA × OA × OA × Nat × Nat => True) (fun y => .agg #[.slice y.1.1 1 y.1.2, .slice y.2.1.1 1 y.2.1.2, .int .i64 0, .slice y.2.2.1.1 y.2.2.2.2.1 y.2.2.1.2, .int .u32 1, .int .i64 (-1), .int .i64 (-1), .slice y.2.2.2.1.1 y.2.2.2.2.2 y.2.2.2.1.2, .bool false]) (fun y => [arr Nl.e 3 y.1.1 [n33b]]) := by
 have hL : UpL (u33 b b1 b2) := by
  refine ⟨?_, ?_, ?_, ?_, ?_⟩
  all_goals (unfold u33 lAt lSg; simp)
 have h := filter_t (some ⟨z.1.1, 0, none⟩) (u33 b b1 b2) hL [cel z.1.1 TTab [pt z.1.2.1, .int .i64 1], cel z.1.2.1 TTr [pt z.1.2.2, .int .i64 z.2.1], inn z.2.2.pc] (fun x => stQ es33 x.a x.n (7, true)) (fun x hx => by
  have hxa : x.a < 4294967296 := by
   have : x = n33a ∨ x = n33b := by simpa [u33] using hx
   rcases this with rfl | rfl <;> decide
  exact Tri_ro (st33_t z hz x.a hxa x.n 7 b1 b2 _ rfl) (AllSrc.at_ 3 rfl (AllSrc.at_ 4 rfl (AllSrc.at_ 5 rfl (AllSrc.via 0 rfl (inn_arr (List.mem_singleton.2 rfl)) (AllSrc.at_ 1 rfl trivial))))))
 have hw : (fun x : Nl => decide (stQ es33 x.a x.n (7, true) = 3)) n33a = false ∧ (fun x : Nl => decide (stQ es33 x.a x.n (7, true) = 3)) n33b = true := by decide +kernel
 obtain ⟨wr, hwr⟩ : ∃ wr : Nl → Bool, (fun x => decide (stQ es33 x.a x.n (7, true) = 3)) = wr := ⟨_, rfl⟩
 rw [hwr] at h hw
 have hf : ∀ y z', flU (u33 b b1 b2) wr y z' = ⟨y.1, y.2, [n33b], z'.1.2.1.1, z'.1.2.1.2, [n33a], (cpU (u33 b b1 b2) z').a, false⟩ := fun y z' => by
  unfold flU keptF u33
  simp [hw.1, hw.2]
 simp only [hf] at h
 refine Tri_ro (Tri_weak h ?_) (AllSrc.free (fun w => arr_nil _ w) (AllSrc.at_ 5 rfl (AllSrc.via 3 rfl inn_1 (AllSrc.at_ 4 rfl (AllSrc.free (fun w => arr_nil _ w) (AllSrc.at_ 0 rfl (AllSrc.at_ 1 rfl (AllSrc.at_ 2 rfl trivial))))))))
 rintro ⟨y, z'⟩ -
 exact ⟨(y, z'.1.2.1, z'.1.2.2.2, z'.1.2.2.1, z'.2.length, 0), trivial, rfl, Keeps.cons Ent.rfl_ Keeps.nil⟩
end Go.Proofs.YtbhiojedmkcfoaaGreatDoor
