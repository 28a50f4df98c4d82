/- Part of a proof of many texts: what the theorem at its end leans on. -/
import Derived.Test.YtbhiojedmkcfoaaGreatDoorZRowL
import Derived.Test.YtbhiojedmkcfoaaGreatDoorZAdS
import Derived.Test.YtbhiojedmkcfoaaGreatDoorZCfF
namespace Go.Proofs.YtbhiojedmkcfoaaGreatDoor
set_option linter.unusedVariables false
set_option linter.unusedSimpArgs false
open Go.RowKit Go.ChangeShapes Go.WideShapes Go.Deep
def cfLaid : List (String × DataW Unit) := [("math/bits.deBruijn32tab", Rows.laid_math_bits_deBruijn32tab), ("math/bits.deBruijn64tab", Rows.laid_math_bits_deBruijn64tab), ("internal/strconv.uint64pow10", Rows.laid_internal_strconv_uint64pow10), ("unicode/utf8.acceptRanges", Rows.laid_unicode_utf8_acceptRanges), ("strconv.ErrRange", Rows.laid_strconv_ErrRange), ("strconv.ErrSyntax", Rows.laid_strconv_ErrSyntax), ("bypath/conf.words", Rows.laid_bypath_conf_words), ("unicode/utf8.first", Rows.laid_unicode_utf8_first)]
theorem pow_laid : (Rows.laid_internal_strconv_uint64pow10 : DataW Unit) = Lib.tabData .u64 Lib.pow10Tab := by kernel_rfl
def strData {H : Type} (zs : List (List UInt8)) : DataW H := .agg (zs.map fun z => .lit (.string z))
theorem words_laid : (Rows.laid_bypath_conf_words : DataW Unit) = strData wordsL := by kernel_rfl
theorem cells_of_strs {H : Type} {enc : TypeId × Value → H} {P : Program} {w : World} {base : Nat} {sp : Nat → Bool} {held : Bool} {fuel : Nat} {t e : TypeId} {n : Nat} {cs : List Value} {zs : List (List UInt8)} {p : List MemPlace}
  (ht : P.underlying t = some (.array n e)) (he : P.underlying e = some .string) (hce : P.cellsOf e = 1) (hct : P.cellsOf t = n)
  (h : DataW.trod enc P w base sp held fuel t cs = some (strData zs, p)) : cs = zs.map fun z => Value.string ⟨z.toArray⟩ := by
 cases fuel with
 | zero => simp [DataW.trod] at h
 | succ fuel =>
  simp only [DataW.trod, ht, hce, hct, Nat.mul_one] at h
  split at h
  ·rename_i hl
   obtain ⟨xs, hm, hx⟩ := Option.map_eq_some_iff.1 h
   have hxs : xs.map (·.1) = zs.map fun z => (DataW.lit (.string z) : DataW H) := by
    have := congrArg Prod.fst hx
    simpa [strData] using this
   have hxl : xs.length = n := by simpa using Lib.mapM_length hm
   have hzl : zs.length = n := by
    have := congrArg List.length hxs
    simp at this
    omega
   apply List.ext_getElem?
   intro i
   by_cases hi : i < n
   ·obtain ⟨b, hb, hf⟩ := Lib.mapM_at hm i i (by simp [hi])
    obtain ⟨s, hc, rfl, _⟩ := DataW.trod_string he hf
    have h1 : cs[i]? = some (.string s) := by
     have := congrArg (·[0]?) hc
     simpa [List.getElem?_take, List.getElem?_drop] using this
    have h2 : (xs.map (·.1))[i]? = some (DataW.lit (.string s.data.toList) : DataW H) := by simp [hb]
    rw [hxs] at h2
    simp only [List.getElem?_map, Option.map_eq_some_iff, DataW.lit.injEq, Lit.string.injEq] at h2
    obtain ⟨z', hz', hz2⟩ := h2
    have e := ba_of s
    rw [← hz2] at e
    simp only [h1, List.getElem?_map, hz', Option.map_some]
    rw [← e]
   ·rw [List.getElem?_eq_none (by omega), List.getElem?_eq_none (by simp; omega)]
  ·cases h
theorem gW : Tryz.prog.globalNamed "bypath/conf.words" = some 0 := by kernel_rfl
theorem glbs_of {W : World} {name : String} {g : Nat} {cs : Array Value} (hg : Tryz.prog.globalNamed name = some g) (hv : W.var? Tryz.prog name = some cs) : (glbs g cs).p (fun b => b < W.heap.size) W := by
 have hv' := hv
 unfold World.var? at hv'
 rw [hg] at hv'
 dsimp only [Option.bind_some] at hv'
 split at hv'
 ·rename_i cs' T fz hh1
  injection hv' with hv'
  subst hv'
  refine ⟨?_, T, fz, hh1⟩
  rcases Nat.lt_or_ge g W.heap.size with h | h
  ·exact h
  ·rw [Array.getElem?_eq_none h] at hh1
   cases hh1
 ·cases hv'
theorem pieces_laid (W : World) (hs : W.ShapedOpen Tryz.prog) (h : laidMetH Tryz.prog cfLaid W) : ∃ m, ∀ e ∈ [tab1, glW, maxLen0 m], e.p (fun b => b < W.heap.size) W := by
 rw [MakeChecks.laidMetH_plain _ _ _ (by kernel_rfl)] at h
 obtain ⟨ps, ⟨_, _, _, _, _, _, _, _, _, _, ⟨_, _, _, _, _, _, _, _, _, _, ⟨g, t, cs, fuel, p, q, hg, ht, hv, hd, ⟨_, _, _, _, _, _, _, _, _, _, ⟨_, _, _, _, _, _, _, _, _, _, ⟨_, _, _, _, _, _, _, _, _, _, ⟨g2, t2, cs2, fuel2, p2, q2, hg2, ht2, hv2, hd2, _, _⟩, _⟩, _⟩, _⟩, _⟩, _⟩, _⟩, _, _⟩ := h
 obtain rfl := Option.some.inj (g1.symm.trans hg)
 obtain rfl := Option.some.inj ((show (Tryz.prog.globals[2]?).map (·.type) = some 321 by kernel_rfl).symm.trans ht)
 rw [pow_laid] at hd
 have hcs := Lib.cells_of_tab (P := Tryz.prog) (t := 321) (e := 294) (n := 20) (by kernel_rfl) (by kernel_rfl) (by kernel_rfl) (by kernel_rfl) hd
 obtain rfl := Option.some.inj (gW.symm.trans hg2)
 obtain rfl := Option.some.inj ((show (Tryz.prog.globals[0]?).map (·.type) = some 117 by kernel_rfl).symm.trans ht2)
 rw [words_laid] at hd2
 have hcs2 := cells_of_strs (P := Tryz.prog) (t := 117) (e := 9) (n := 18) (by kernel_rfl) (by kernel_rfl) (by kernel_rfl) (by kernel_rfl) hd2
 have hw0 : ((begin Tryz.prog (fun _ _ => 0) default).world.heap[1]?).bind Obj.row? = some (#[.int .i64 0], 3) := by kernel_rfl
 obtain ⟨m, hm⟩ := cell_of_shapedOpen_int (g := 1) (t := 3) (zero := #[.int .i64 0]) (k := .i64) hs (of_decide_eq_true (by kernel_rfl)) hw0 rfl (by kernel_rfl) (by kernel_rfl) (by kernel_rfl)
 obtain ⟨c0, hh, hsz, _⟩ := hs.1 1 _ _ (of_decide_eq_true (by kernel_rfl)) hw0
 have hc0 : c0 = #[.int .i64 m] := by
  have h1 : c0.size = 1 := hsz
  have h2 : c0[0]? = some (.int .i64 m) := by
   have := hm
   simp only [World.cell?, hh] at this
   exact this
  apply Array.ext
  ·simpa using h1
  ·intro i hi1 hi2
   have : i = 0 := by omega
   subst this
   rw [Array.getElem?_eq_getElem hi1] at h2
   exact Option.some.inj h2
 refine ⟨m, fun e he => ?_⟩
 rcases List.mem_cons.1 he with rfl | he
 ·have := glbs_of g1 hv
  have e1 : cs = (Lib.pow10Tab.map fun z => Value.int .u64 z).toArray := by rw [← hcs]
  rw [e1] at this
  exact this
 rcases List.mem_cons.1 he with rfl | he
 ·have := glbs_of gW hv2
  have e1 : cs2 = wordsC := by unfold wordsC; rw [← hcs2]
  rw [e1] at this
  exact this
 ·obtain rfl := List.mem_singleton.1 he
  refine ⟨?_, _, _, by rw [hh, hc0]⟩
  show 1 < W.heap.size
  rcases Nat.lt_or_ge 1 W.heap.size with h | h
  ·exact h
  ·rw [Array.getElem?_eq_none h] at hh
   cases hh
theorem cf_of_heap (w w' : World) (h : w.heap = w'.heap) (hx : laidMetH Tryz.prog cfLaid w) : laidMetH Tryz.prog cfLaid w' := hx.of_heap h
theorem cf_world (os : Os) (args : Array Value) : laidMetH Tryz.prog cfLaid ((World.laidAll Tryz.prog os cfLaid).forCall (fun _ _ => 0) ⟨#[], args, []⟩).memory := by
 rw [MakeChecks.laidMetH_plain _ _ _ (by kernel_rfl)]
 exact laidMet_laidAll _ (by kernel_rfl) (by kernel_rfl)
end Go.Proofs.YtbhiojedmkcfoaaGreatDoor
