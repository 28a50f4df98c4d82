/- Part of a proof of many texts: what the theorem at its end leans on. -/
import Derived.Test.YtbhiojedmkcfoaaGreatDoorRCgR
namespace Go.Proofs.YtbhiojedmkcfoaaGreatDoor
set_option linter.unusedVariables false
set_option linter.unusedSimpArgs false
open Go.RowKit Go.ChangeShapes Go.WideShapes Go.Deep
def roLaid : List (String × DataW Unit) := [("math/bits.deBruijn32tab", Rows.laid_math_bits_deBruijn32tab), ("math/bits.deBruijn64tab", Rows.laid_math_bits_deBruijn64tab), ("internal/strconv.uint64pow10", Rows.laid_internal_strconv_uint64pow10), ("unicode/utf8.acceptRanges", Rows.laid_unicode_utf8_acceptRanges), ("strconv.ErrRange", Rows.laid_strconv_ErrRange), ("strconv.ErrSyntax", Rows.laid_strconv_ErrSyntax), ("unicode/utf8.first", Rows.laid_unicode_utf8_first)]
theorem ro_laid (W : World) (hs : W.ShapedOpen Tryz.prog) (h : laidMetH Tryz.prog roLaid W) : ∃ m, ∀ e ∈ [tab1, maxLen0 m], e.p (fun b => b < W.heap.size) W := by
 rw [MakeChecks.laidMetH_plain _ _ _ (by kernel_rfl)] at h
 obtain ⟨ps, ⟨_, _, _, _, _, _, _, _, _, _, ⟨_, _, _, _, _, _, _, _, _, _, ⟨g, t, cs, fuel, p, q, hg, ht, hv, hd, _⟩, _⟩, _⟩, _, _⟩ := h
 obtain rfl := Option.some.inj (g1.symm.trans hg)
 obtain rfl := Option.some.inj ((show (Tryz.prog.globals[2]?).map (·.type) = some 321 by kernel_rfl).symm.trans ht)
 rw [pow_laid] at hd
 have hcs := Lib.cells_of_tab (P := Tryz.prog) (t := 321) (e := 294) (n := 20) (by kernel_rfl) (by kernel_rfl) (by kernel_rfl) (by kernel_rfl) hd
 have hw0 : ((begin Tryz.prog (fun _ _ => 0) default).world.heap[1]?).bind Obj.row? = some (#[.int .i64 0], 3) := by kernel_rfl
 obtain ⟨m, hm⟩ := cell_of_shapedOpen_int (g := 1) (t := 3) (zero := #[.int .i64 0]) (k := .i64) hs (of_decide_eq_true (by kernel_rfl)) hw0 rfl (by kernel_rfl) (by kernel_rfl) (by kernel_rfl)
 obtain ⟨c0, hh, hsz, _⟩ := hs.1 1 _ _ (of_decide_eq_true (by kernel_rfl)) hw0
 have hc0 : c0 = #[.int .i64 m] := by
  have h1 : c0.size = 1 := hsz
  have h2 : c0[0]? = some (.int .i64 m) := by
   have := hm
   simp only [World.cell?, hh] at this
   exact this
  apply Array.ext
  ·simpa using h1
  ·intro i hi1 hi2
   have : i = 0 := by omega
   subst this
   rw [Array.getElem?_eq_getElem hi1] at h2
   exact Option.some.inj h2
 refine ⟨m, fun e he => ?_⟩
 rcases List.mem_cons.1 he with rfl | he
 ·have := glbs_of g1 hv
  have e1 : cs = (Lib.pow10Tab.map fun z => Value.int .u64 z).toArray := by rw [← hcs]
  rw [e1] at this
  exact this
 ·obtain rfl := List.mem_singleton.1 he
  refine ⟨?_, _, _, by rw [hh, hc0]⟩
  show 1 < W.heap.size
  rcases Nat.lt_or_ge 1 W.heap.size with h | h
  ·exact h
  ·rw [Array.getElem?_eq_none h] at hh
   cases hh
theorem ro_of_heap (w w' : World) (h : w.heap = w'.heap) (hx : laidMetH Tryz.prog roLaid w) : laidMetH Tryz.prog roLaid w' := hx.of_heap h
theorem ro_world (os : Os) (args : Array Value) : laidMetH Tryz.prog roLaid ((World.laidAll Tryz.prog os roLaid).forCall (fun _ _ => 0) ⟨#[], args, []⟩).memory := by
 rw [MakeChecks.laidMetH_plain _ _ _ (by kernel_rfl)]
 exact laidMet_laidAll _ (by kernel_rfl) (by kernel_rfl)
end Go.Proofs.YtbhiojedmkcfoaaGreatDoor
