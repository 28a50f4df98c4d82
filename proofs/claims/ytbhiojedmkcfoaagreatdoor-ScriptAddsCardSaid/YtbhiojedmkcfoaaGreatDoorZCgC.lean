/- Part of a proof of many texts: what the theorem at its end leans on. -/
import Derived.Test.YtbhiojedmkcfoaaGreatDoorZCfV
import Derived.Test.YtbhiojedmkcfoaaGreatDoorZCgP
import Derived.Test.YtbhiojedmkcfoaaGreatDoorZCfK
namespace Go.Proofs.YtbhiojedmkcfoaaGreatDoor
set_option linter.unusedVariables false
set_option linter.unusedSimpArgs false
open Go.RowKit
attribute [local irreducible] HC HX HO Tri eP adr
set_option maxHeartbeats 16000000 in
theorem line_bad (b : Nat) (c : CfS) (bad : Bool) (i : Nat) (hi : ¬ i < 18) (hi2 : i < 1000000) (A : Option Addr) (n cc : Nat) (ws : List (List UInt8)) (hn : n = ws.length) (h5 : ∀ w a b p d, ws = [w, a, b, p, d] → ¬ w = ifaceW) (h2 : ∀ w v, ws = [w, v] → ¬ w = denyW) (m : Int) :
  Tri Tryz.prog 62 [pt b, .int .i64 i, .slice A n cc] [arr strE 1 A ws, glW, maxLen0 m] (rdrP b c bad) (fun x : OA × OA => True) (fun _ => .tuple #[]) (fun x => rdrP b (c.wth c.q x) true) := by
 subst hn
 have hiI : ¬ ((i : Nat) : Int) < 18 := by omega
 by_cases l5 : ws.length = 5
 ·match ws, l5 with
  | [w, x1, x2, x3, x4], _ =>
   have hw : ¬ w = [105, 102, 97, 99, 101] := h5 w x1 x2 x3 x4 rfl
   refine Tri_of (N := Tryz.f62.ntmps) (c := bodyOf Tryz.f62) Tryz.func62 rfl rfl rfl rfl (fun w0 S0 => ?_)
   repeat' (first | refine SW ?_ | ((refine HO_g 2 rfl ?_); (refine HO_skip rfl rfl rfl rfl rdA ?_)) | (with_reducible refine HO_rw (congrArg Value.bool (sba_eq _ _)) ?_) | refine SD ?_ | exact HO_seg rfl rfl | refine S1 ?_ | (refine S2 ?_; intro _) | (refine S3 ?_; intro _ _) | (refine S4 ?_; intro _ _ _) | (refine HO_g 2 rfl ?_; first | apply HO_a1 rfl | apply HO_o1 rfl) | refine S5 ?_ | (intro hb; try replace hb := simB hb; try exact kill hb))
   (refine SR ?_; unfold RetQ; apply Exists.intro (((c.iA, c.ic), (c.dA, c.dc))); refine ⟨trivial, ?_, ?_⟩; rotate_left 1; (repeat (first | exact Keeps.nil | refine Keeps.own_cons ?_ ?_ ?_ | refine Keeps.arr_cons ?_ ?_ | refine Keeps.cons Ent.rfl_ ?_ | refine Keeps.skip ?_ | refine Keeps.own_none ?_ ?_ ?_ | refine Keeps.arr_none ?_ ?_)))
   all_goals rfl
 ·by_cases l2 : ws.length = 2
  ·match ws, l2 with
   | [w, v], _ =>
    have hw : ¬ w = [100, 101, 110, 121] := h2 w v rfl
    refine Tri_of (N := Tryz.f62.ntmps) (c := bodyOf Tryz.f62) Tryz.func62 rfl rfl rfl rfl (fun w0 S0 => ?_)
    repeat' (first | refine SW ?_ | ((refine HO_g 2 rfl ?_); (refine HO_skip rfl rfl rfl rfl rdA ?_)) | (with_reducible refine HO_rw (congrArg Value.bool (sba_eq _ _)) ?_) | refine SD ?_ | exact HO_seg rfl rfl | refine S1 ?_ | (refine S2 ?_; intro _) | (refine S3 ?_; intro _ _) | (refine S4 ?_; intro _ _ _) | (refine HO_g 2 rfl ?_; first | apply HO_a1 rfl | apply HO_o1 rfl) | refine S5 ?_ | (intro hb; try replace hb := simB hb; try exact kill hb))
    (refine SR ?_; unfold RetQ; apply Exists.intro (((c.iA, c.ic), (c.dA, c.dc))); refine ⟨trivial, ?_, ?_⟩; rotate_left 1; (repeat (first | exact Keeps.nil | refine Keeps.own_cons ?_ ?_ ?_ | refine Keeps.arr_cons ?_ ?_ | refine Keeps.cons Ent.rfl_ ?_ | refine Keeps.skip ?_ | refine Keeps.own_none ?_ ?_ ?_ | refine Keeps.arr_none ?_ ?_)))
    all_goals rfl
  ·refine Tri_of (N := Tryz.f62.ntmps) (c := bodyOf Tryz.f62) Tryz.func62 rfl rfl rfl rfl (fun w0 S0 => ?_)
   repeat' (first | refine SW ?_ | ((refine HO_g 2 rfl ?_); (refine HO_skip rfl rfl rfl rfl rdA ?_)) | (with_reducible refine HO_rw (congrArg Value.bool (sba_eq _ _)) ?_) | refine SD ?_ | exact HO_seg rfl rfl | refine S1 ?_ | (refine S2 ?_; intro _) | (refine S3 ?_; intro _ _) | (refine S4 ?_; intro _ _ _) | (refine HO_g 2 rfl ?_; first | apply HO_a1 rfl | apply HO_o1 rfl) | refine S5 ?_ | (intro hb; try replace hb := simB hb; try exact kill hb))
   (refine SR ?_; unfold RetQ; apply Exists.intro (((c.iA, c.ic), (c.dA, c.dc))); refine ⟨trivial, ?_, ?_⟩; rotate_left 1; (repeat (first | exact Keeps.nil | refine Keeps.own_cons ?_ ?_ ?_ | refine Keeps.arr_cons ?_ ?_ | refine Keeps.cons Ent.rfl_ ?_ | refine Keeps.skip ?_ | refine Keeps.own_none ?_ ?_ ?_ | refine Keeps.arr_none ?_ ?_)))
   all_goals rfl
set_option maxHeartbeats 16000000 in
theorem line_if (b : Nat) (c : CfS) (bad : Bool) (i : Nat) (hi : ¬ i < 18) (hi2 : i < 1000000) (A : Option Addr) (n cc : Nat) (x1 x2 x3 x4 : List UInt8) (h1 : x1.length ≤ 100000) (h2 : x2.length ≤ 100000) (h3 : x3.length ≤ 100000) (h4 : x4.length ≤ 100000) (hn : n = 5) (hcc : 5 ≤ cc) (m : Int) (hlen : c.q.ifs.length ≤ 100000) (hdl : c.q.deny.length ≤ 100000) :
  Tri Tryz.prog 62 [pt b, .int .i64 i, .slice A n cc] [arr strE 1 A [ifaceW, x1, x2, x3, x4], glW, maxLen0 m] (rdrP b c bad) (fun x : OA × OA => True) (fun _ => .tuple #[]) (fun x => rdrP b (c.wth { c.q with ifs := c.q.ifs ++ [ifX x1 x2 x3 x4] } x) (ifBad c.q bad x1 x2 x3 x4)) := by
 subst hn
 have hiI : ¬ ((i : Nat) : Int) < 18 := by omega
 have hif := iface_t b c bad (cutA A 1 cc 1) (cc - 1) x1 x2 x3 x4 h1 h2 h3 h4 m hlen hdl
 have hw : ifaceW = [105, 102, 97, 99, 101] := rfl
 refine Tri_of (N := Tryz.f62.ntmps) (c := bodyOf Tryz.f62) Tryz.func62 rfl rfl rfl rfl (fun w0 S0 => ?_)
 repeat' (first | refine SW ?_ | (with_reducible refine HO_rw (congrArg Value.bool (sba_eq _ _)) ?_) | refine SD ?_ | (refine HO_k 12 rfl ?_; refine HO_call rfl rfl rfl rfl (hif) rfl (AllSrc.via 0 rfl (arr_drop (l := [ifaceW, x1, x2, x3, x4]) cc 1 (fun e => by omega)) srcsA) rfl rfl soA ?_; intro ⟨⟨xA, xc⟩, xb⟩ hx; dsimp only [lca, lna]) | exact HO_seg rfl rfl | refine S1 ?_ | (refine S2 ?_; intro _) | (refine S3 ?_; intro _ _) | (refine S4 ?_; intro _ _ _) | (refine HO_g 2 rfl ?_; first | apply HO_a1 rfl | apply HO_o1 rfl) | refine S5 ?_ | (intro hb; try replace hb := simB hb; try exact kill hb))
 have hx' : xb = ifBad c.q bad x1 x2 x3 x4 := hx
 subst hx'
 (refine SR ?_; unfold RetQ; refine ⟨((xA, xc), (c.dA, c.dc)), trivial, rfl, Keeps.refl⟩)
set_option maxHeartbeats 16000000 in
theorem line_deny (b : Nat) (c : CfS) (bad : Bool) (i : Nat) (hi : ¬ i < 18) (hi2 : i < 1000000) (A : Option Addr) (n cc : Nat) (v : List UInt8) (hv : v.length ≤ 100000) (hn : n = 2) (m : Int) (hdl : c.q.deny.length ≤ 100000) :
  Tri Tryz.prog 62 [pt b, .int .i64 i, .slice A n cc] [arr strE 1 A [denyW, v], glW, maxLen0 m] (rdrP b c bad) (fun x : OA × OA => True) (fun _ => .tuple #[]) (fun x => rdrP b (c.wth { c.q with deny := c.q.deny ++ [numV v] } x) (bad || (numR v).isNone)) := by
 subst hn
 have hiI : ¬ ((i : Nat) : Int) < 18 := by omega
 have hN := number_t b c bad v (by omega)
 have hw : denyW = [100, 101, 110, 121] := rfl
 have hlX : (c.q.deny ++ [numV v]).length = c.q.deny.length + 1 := by simp
 generalize (bad || (numR v).isNone) = bd at hN ⊢
 refine Tri_of (N := Tryz.f62.ntmps) (c := bodyOf Tryz.f62) Tryz.func62 rfl rfl rfl rfl (fun w0 S0 => ?_)
 repeat' (first | refine SW ?_ | (with_reducible refine HO_rw (congrArg Value.bool (sba_eq _ _)) ?_) | refine SD ?_ | (refine HC_lex rfl rfl (by decide +kernel) rfl rfl ?_; refine HO_names (l' := [0, 1, 2, 3, 4, 6, 7, 8, 9, 10, 5, 11, 12, 13, 14, 15, 16]) (by decide +kernel) ?_) | (refine HO_k 12 rfl ?_; refine HO_2p 5 10 (by decide +kernel) rfl rfl (by decide +kernel) ?_ ?_) | (refine HO_k 2 rfl ?_; first | refine HO_2p 5 10 (by decide +kernel) rfl rfl (by decide +kernel) ?_ ?_ | refine HO_2p 5 11 (by decide +kernel) rfl rfl (by decide +kernel) ?_ ?_) | (refine HO_k 2 rfl ?_; refine HO_loT rfl rfl rfl rfl rfl rfl soA ?_) | (refine HO_k 12 rfl ?_; refine HO_call rfl rfl rfl rfl (hN) rfl (trivial) rfl rfl soA ?_; intro g h; dsimp only [lca, lna]) | exact HO_seg rfl rfl | refine S1 ?_ | (refine S2 ?_; intro _) | (refine S3 ?_; intro _ _) | (refine S4 ?_; intro _ _ _) | (refine HO_g 2 rfl ?_; first | apply HO_a1 rfl | apply HO_o1 rfl) | refine S5 ?_ | (intro hb; try replace hb := simB hb; try exact kill hb))
 all_goals
  rename_i A' c'
  refine HX_keeps (rw' := rdrP b (c.wth { c.q with deny := c.q.deny ++ [numV v] } ((c.iA, c.ic), (A', c'))) bd) ?_ ?_
  ·dsimp only [rdrP, rdE, CfS.wth, CfS.e]
   rw [hlX, List.map_append]
   exact permA
  ·(refine SR ?_; unfold RetQ; refine ⟨((c.iA, c.ic), (A', c')), trivial, rfl, Keeps.refl⟩)
theorem line_t (b : Nat) (c : CfS) (bad : Bool) (hl : c.q.nums.length = 18) (i : Nat) (hi2 : i < 1000000) (A : Option Addr) (n cc : Nat) (ws : List (List UInt8)) (hn : n = ws.length) (hcc : n ≤ cc) (hws : ∀ w ∈ ws, w.length ≤ 100000) (m : Int) (hlen : c.q.ifs.length ≤ 100000) (hdl : c.q.deny.length ≤ 100000) :
  Tri Tryz.prog 62 [pt b, .int .i64 i, .slice A n cc] [arr strE 1 A ws, glW, maxLen0 m] (rdrP b c bad) (fun x : OA × OA => True) (fun _ => .tuple #[]) (fun x => rdrP b (c.wth (lineX i ws c.q bad).1 x) (lineX i ws c.q bad).2) := by
 by_cases hi : i < 18
 ·exact line_fix b c bad hl i hi A n cc ws hn hws m
 ·by_cases hw : (∀ w a b p d, ws = [w, a, b, p, d] → ¬ w = ifaceW) ∧ (∀ w v, ws = [w, v] → ¬ w = denyW)
  ·have e : lineX i ws c.q bad = (c.q, true) := by
    unfold lineX
    rw [if_neg hi]
    split
    ·rw [if_neg (hw.2 _ _ rfl)]
    ·rw [if_neg (hw.1 _ _ _ _ _ rfl)]
    ·rfl
   rw [e]
   exact line_bad b c bad i hi hi2 A n cc ws hn hw.1 hw.2 m
  ·by_cases h5 : ∃ a b p d, ws = [ifaceW, a, b, p, d]
   ·obtain ⟨x1, x2, x3, x4, rfl⟩ := h5
    have e : lineX i [ifaceW, x1, x2, x3, x4] c.q bad = ({ c.q with ifs := c.q.ifs ++ [ifX x1 x2 x3 x4] }, ifBad c.q bad x1 x2 x3 x4) := by
     unfold lineX
     rw [if_neg hi]
     simp only [if_true]
    rw [e]
    exact line_if b c bad i hi hi2 A n cc x1 x2 x3 x4 (hws _ (by simp)) (hws _ (by simp)) (hws _ (by simp)) (hws _ (by simp)) hn (by simp at hn; omega) m hlen hdl
   ·obtain ⟨v, rfl⟩ : ∃ v, ws = [denyW, v] := by
     refine Classical.byContradiction fun hno => hw ⟨fun w a b p d e h => h5 ⟨a, b, p, d, by rw [e, h]⟩, fun w v e h => hno ⟨v, by rw [e, h]⟩⟩
    have e : lineX i [denyW, v] c.q bad = ({ c.q with deny := c.q.deny ++ [numV v] }, bad || (numR v).isNone) := by
     unfold lineX
     rw [if_neg hi]
     simp only [if_true]
    rw [e]
    exact line_deny b c bad i hi hi2 A n cc v (hws _ (by simp)) hn m hdl
theorem splC_t (m : Int) (c : UInt8) (l : List UInt8) (hl : l.length < 4294967281) : Tri Tryz.prog 61 [.string ⟨l.toArray⟩, .string ⟨#[c]⟩] [maxLen0 m] [] (fun _ : Nat => True)
  (fun b => .slice (some ⟨b, 0, none⟩) (splB c l).length (splB c l).length) (fun b => [arr strE 1 (some ⟨b, 0, none⟩) (splB c l)]) := by
 refine Tri_texts (T := 9) fun w hro => ?_
 have := Tryz.strings_Split ⟨l.toArray⟩ ⟨#[c]⟩ m w (by show l.toArray.size < _; simpa using hl) (glbs_cell hro (List.mem_singleton.2 rfl)) (by show 1 ≤ 1; decide)
 have h1 := Lib.splitB_all ⟨#[c]⟩ (by show 1 ≤ 1; decide) 0 _ (⟨l.toArray⟩ : ByteArray) rfl
 rw [splitB_eq, List.length_map] at h1
 rw [splitB_eq, ← h1, List.map_map] at this
 exact this
def cutN (l : List UInt8) : List UInt8 := if l.getLast? = some 10 then l.dropLast else l
def endN (l : List UInt8) : Bool := decide (l.getLast? = some 10)
theorem suf_end (l : List UInt8) : Lib.hasSuffix l [10] = endN l := by
 unfold Lib.hasSuffix endN
 rw [Bool.eq_iff_iff, List.isSuffixOf_iff_suffix, decide_eq_true_eq]
 constructor
 ·rintro ⟨t, rfl⟩
  simp
 ·intro h
  have hne : l ≠ [] := by intro e; subst e; cases h
  refine ⟨l.dropLast, ?_⟩
  have := List.dropLast_concat_getLast hne
  rw [List.getLast?_eq_some_getLast hne] at h
  injection h with h
  rw [h] at this
  exact this
theorem cutsuf_t (l : List UInt8) (hl : l.length ≤ 1000000) : Tri Tryz.prog 60 [.string ⟨l.toArray⟩, .string ⟨#[10]⟩] [] [] (fun _ : Unit => True) (fun _ => .tuple #[.string ⟨(cutN l).toArray⟩, .bool (endN l)]) (fun _ => []) := by
 refine Tri_below fun w _ => ?_
 have := Tryz.strings_CutSuffix ⟨l.toArray⟩ ⟨#[10]⟩ w (by show l.toArray.size ≤ _; simp; omega)
 rw [ba_data, show (ByteArray.mk #[(10 : UInt8)]).data.toList = [10] from rfl, suf_end] at this
 refine this.mono fun e w' ⟨h1, h2⟩ => ⟨?_, by rw [h2]; exact Below.refl _ _⟩
 rw [h1]
 have e1 : Lib.trimSuffix l [10] = cutN l := by
  unfold Lib.trimSuffix cutN
  rw [suf_end]
  unfold endN
  by_cases h : l.getLast? = some 10
  ·rw [if_pos (decide_eq_true h), if_pos h, List.dropLast_eq_take]; rfl
  ·rw [if_neg (by simpa using h), if_neg h]
 rw [e1]
theorem parM_cut (s : List UInt8) : parM s = if endN s = true then parL (splB 10 (cutN s)) else none := by
 unfold parM endN cutN
 by_cases h : s.getLast? = some 10
 ·rw [if_pos h, if_pos (decide_eq_true h), if_pos h]
 ·rw [if_neg h, if_neg (by simpa using h)]
theorem cutN_len (l : List UInt8) : (cutN l).length ≤ l.length := by
 unfold cutN
 split
 ·rw [List.length_dropLast]; omega
 ·exact Nat.le_refl _
@[reducible] def c0S : CfS := ⟨cf0, none, 0, none, 0⟩
structure PrI (s : List UInt8) (j : Nat) (c : CfS) (bad : Bool) : Prop where
 le : j ≤ (splB 10 (cutN s)).length
 g : CfG c.q
 n1 : c.q.ifs.length ≤ j
 n2 : c.q.deny.length ≤ j
 no : bad = true → parM s = none
 yes : bad = false → parM s = okE (linesM j ((splB 10 (cutN s)).drop j) c.q) ∧ c.q.ifs.length + c.q.deny.length = j - 18
theorem PrI.start (s : List UInt8) : PrI s 0 c0S (!endN s || decide (((splB 10 (cutN s)).length : Int) < 18)) := by
 refine ⟨Nat.zero_le _, cf0_g, Nat.zero_le _, Nat.zero_le _, fun h => ?_, fun h => ?_⟩
 ·rw [parM_cut]
  rw [Bool.or_eq_true, Bool.not_eq_true', decide_eq_true_eq] at h
  rcases h with h | h
  ·rw [if_neg (by rw [h]; decide)]
  ·split
   ·exact parL_few (by omega)
   ·rfl
 ·rw [Bool.or_eq_false_iff, Bool.not_eq_false', decide_eq_false_iff_not] at h
  rw [parM_cut, if_pos h.1, parL_ok (by omega)]
  exact ⟨rfl, rfl⟩
theorem PrI.step {s : List UInt8} {j : Nat} {c : CfS} (h : PrI s j c false) {x : List UInt8} (hx : (splB 10 (cutN s))[j]? = some x) (y : OA × OA) : PrI s (j + 1) (c.wth (lineX j (splB 32 x) c.q false).1 y) (lineX j (splB 32 x) c.q false).2 := by
 have hlt := (List.getElem?_eq_some_iff.1 hx).1
 have hl := lineX_len j (splB 32 x) c.q false
 obtain ⟨y1, y2⟩ := h.yes rfl
 have hs := linesM_step hx c.q
 refine ⟨hlt, lineX_g _ _ _ _ h.g, ?_, ?_, fun hb => ?_, fun hb => ?_⟩
 ·have := h.n1; have := hl.1; show (lineX j (splB 32 x) c.q false).1.ifs.length ≤ j + 1; omega
 ·have := h.n2; have := hl.2; show (lineX j (splB 32 x) c.q false).1.deny.length ≤ j + 1; omega
 ·rw [y1, hs, if_pos hb]; rfl
 ·rw [y1, hs, if_neg (by rw [hb]; decide)]
  refine ⟨rfl, ?_⟩
  have := lineX_count hb
  show (lineX j (splB 32 x) c.q false).1.ifs.length + (lineX j (splB 32 x) c.q false).1.deny.length = _
  omega
set_option maxHeartbeats 16000000 in
theorem cparse_t (m : Int) (s : List UInt8) (hs : s.length ≤ 90000) : Tri Tryz.prog 16 [.string ⟨s.toArray⟩] [glW, maxLen0 m] [] (fun _ : OA × OA => True) (fun x => .tuple #[.agg (parS s x).e.toArray, .int .i64 (if (parM s).isSome = true then 0 else 190)])
  (fun x => [arr IfQ.e 5 (parS s x).iA (parS s x).q.ifs, arr iE 1 (parS s x).dA (parS s x).q.deny]) := by
 have hcut := cutsuf_t s (by omega)
 have hcl := cutN_len s
 have hsp := splC_t m 10 (cutN s) (by omega)
 have hst := PrI.start s
 have hsl := splB_len 10 (cutN s)
 have hmem := splB_mem 10 (cutN s)
 obtain ⟨L, hL⟩ : ∃ L, splB 10 (cutN s) = L := ⟨_, rfl⟩
 rw [hL] at hsp hst hsl hmem
 obtain ⟨bad0, hbad0⟩ : ∃ bad0, (!endN s || decide ((L.length : Int) < 18)) = bad0 := ⟨_, rfl⟩
 rw [hbad0] at hst
 refine Tri_of (N := Tryz.f16.ntmps) (c := bodyOf Tryz.f16) Tryz.func16 rfl rfl rfl rfl (fun w0 S0 => ?_)
 repeat' (first | refine SW ?_ | refine SD ?_ | (refine HO_k 12 rfl ?_; refine HO_callq rfl rfl rfl rfl (hcut) (fun _ _ => rfl) (trivial) rfl rfl sqA ?_) | (refine HO_k 12 rfl ?_; refine HO_call rfl rfl rfl rfl (hsp) rfl (srcsA) rfl rfl soA ?_; intro bl hbl; dsimp only [lca, lna]) | exact HO_seg rfl rfl | refine S1 ?_ | (refine S2 ?_; intro _) | (refine S3 ?_; intro _ _) | (refine S4 ?_; intro _ _ _) | (refine HO_g 2 rfl ?_; first | apply HO_a1 rfl | apply HO_o1 rfl) | refine S5 ?_ | (intro hb; try replace hb := simB hb; try exact kill hb))
 rename_i br b0
 rw [hbad0]
 refine HC_keeps (rw' := rdrP b0 c0S bad0 ++ [arr strE 1 (some ⟨bl, 0, none⟩) L, cel br TCf c0S.e]) ?_ ?_
 ·exact Keeps.pick 0 rfl rfl (Keeps.add (fun w => own_nil w) (Keeps.add (fun w => own_nil w) permA))
 refine HC_loop (α := Nat × CfS × Bool) (fun x => PrI s x.1 x.2.1 x.2.2) (fun x => [(28, .int .i64 x.1), (27, .int .i64 L.length), (26, .slice (some ⟨bl, 0, none⟩) L.length L.length), (7, pt b0), (2, pt br)]) (fun x => rdrP b0 x.2.1 x.2.2 ++ [arr strE 1 (some ⟨bl, 0, none⟩) L, cel br TCf c0S.e]) (fun x => L.length - x.1) rfl (0, c0S, bad0) hst ⟨rfl, rfl, rfl, rfl, rfl, trivial⟩ rfl ?_
 rintro ⟨j, c, bad⟩ hinv
 dsimp only [rdrP, lca, lna] at hinv ⊢
 have hle := hinv.le
 rw [hL] at hle
 have hG := hinv.g
 have n1 := hinv.n1
 have n2 := hinv.n2
 rcases Nat.lt_or_ge j L.length with hlt | hge
 ·obtain ⟨x, hx⟩ : ∃ x, L[j]? = some x := ⟨L[j], List.getElem?_eq_getElem hlt⟩
  have hxl := hmem x (List.mem_of_getElem? hx)
  cases bad with
  | true =>
   have hpn := hinv.no rfl
   repeat' (first | refine SW ?_ | refine SD ?_ | ((refine HO_g 2 rfl ?_); (refine HO_skip rfl rfl rfl rfl rdA ?_)) | exact HO_seg rfl rfl | refine S1 ?_ | (refine S2 ?_; intro _) | (refine S3 ?_; intro _ _) | (refine S4 ?_; intro _ _ _) | (refine HO_g 2 rfl ?_; first | apply HO_a1 rfl | apply HO_o1 rfl) | refine S5 ?_ | (intro hb; try replace hb := simB hb; try exact kill hb))
   ((first | apply HX_ret | apply HX_retn); (repeat (first | exact Res_nil | apply Res_tmp rfl | apply Res_ce rfl rfl rfl)); unfold RetQ)
   refine ⟨((none, 0), (none, 0)), trivial, ?_, ?_⟩
   ·dsimp only; rw [parS_none hpn, hpn]
    rfl
   ·dsimp only; rw [parS_none hpn]
    exact Keeps.add (fun w => arr_nil _ w) (Keeps.add (fun w => arr_nil _ w) Keeps.nil)
  | false =>
   obtain ⟨y1, y2⟩ := hinv.yes rfl
   by_cases hmany : 290 < j
   ·have hpn : parM s = none := by rw [y1]; exact okE_many (by omega) (by omega)
    repeat' (first | refine SW ?_ | refine SD ?_ | exact HO_seg rfl rfl | refine S1 ?_ | (refine S2 ?_; intro _) | (refine S3 ?_; intro _ _) | (refine S4 ?_; intro _ _ _) | (refine HO_g 2 rfl ?_; first | apply HO_a1 rfl | apply HO_o1 rfl) | refine S5 ?_ | (intro hb; try replace hb := simB hb; try exact kill hb))
    ((first | apply HX_ret | apply HX_retn); (repeat (first | exact Res_nil | apply Res_tmp rfl | apply Res_ce rfl rfl rfl)); unfold RetQ)
    refine ⟨((none, 0), (none, 0)), trivial, ?_, ?_⟩
    ·dsimp only; rw [parS_none hpn, hpn]
     rfl
    ·dsimp only; rw [parS_none hpn]
     exact Keeps.add (fun w => arr_nil _ w) (Keeps.add (fun w => arr_nil _ w) Keeps.nil)
   ·have hsx := splC_t m 32 x (by omega)
    have hstep := hinv.step (x := x) (by rw [hL]; exact hx)
    have hwl := splB_mem 32 x
    have hli := fun (A : Option Addr) => line_t b0 c false hG.1 j (by omega) A (splB 32 x).length (splB 32 x).length (splB 32 x) rfl (Nat.le_refl _) (fun w hw => by have := hwl w hw; omega) m (by omega) (by omega)
    dsimp only [rdrP] at hli
    repeat' (first | refine SW ?_ | refine SD ?_ | (refine HO_k 12 rfl ?_; refine HO_call rfl rfl rfl rfl (hsx) rfl (srcsA) rfl rfl soA ?_; intro bw hbw; dsimp only [lca, lna]) | (refine HO_k 12 rfl ?_; refine HO_mv 3 rfl rfl ?_; refine HO_mv 3 rfl rfl ?_; refine HO_mv 3 rfl rfl ?_; refine HO_call rfl rfl rfl rfl (hli _) rfl (srcsA) rfl rfl soA ?_; intro y hy; dsimp only [lca, lna]) | (refine HO_k 12 rfl ?_; refine HO_call rfl rfl rfl rfl (hli _) rfl (srcsA) rfl rfl soA ?_; intro y hy; dsimp only [lca, lna]) | exact HO_seg rfl rfl | refine S1 ?_ | (refine S2 ?_; intro _) | (refine S3 ?_; intro _ _) | (refine S4 ?_; intro _ _ _) | (refine HO_g 2 rfl ?_; first | apply HO_a1 rfl | apply HO_o1 rfl) | refine S5 ?_ | (intro hb; try replace hb := simB hb; try exact kill hb))
    refine HX_keeps (rw' := rdrP b0 (c.wth (lineX j (splB 32 x) c.q false).1 y) (lineX j (splB 32 x) c.q false).2 ++ [arr strE 1 (some ⟨bl, 0, none⟩) L, cel br TCf c0S.e]) permA ?_
    exact HX_at (j + 1, c.wth (lineX j (splB 32 x) c.q false).1 y, (lineX j (splB 32 x) c.q false).2) ⟨hstep y, by show L.length - (j + 1) < L.length - j; omega⟩ ⟨rfl, rfl, rfl, rfl, rfl, trivial⟩ rfl
 ·obtain rfl : j = L.length := by omega
  cases bad with
  | true =>
   have hpn := hinv.no rfl
   repeat' (first | refine SW ?_ | refine SD ?_ | ((refine HO_g 2 rfl ?_); (refine HO_skip rfl rfl rfl rfl rdA ?_)) | exact HO_seg rfl rfl | refine S1 ?_ | (refine S2 ?_; intro _) | (refine S3 ?_; intro _ _) | (refine S4 ?_; intro _ _ _) | (refine HO_g 2 rfl ?_; first | apply HO_a1 rfl | apply HO_o1 rfl) | refine S5 ?_ | (intro hb; try replace hb := simB hb; try exact kill hb))
   ((first | apply HX_ret | apply HX_retn); (repeat (first | exact Res_nil | apply Res_tmp rfl | apply Res_ce rfl rfl rfl)); unfold RetQ)
   refine ⟨((none, 0), (none, 0)), trivial, ?_, ?_⟩
   ·dsimp only; rw [parS_none hpn, hpn]
    rfl
   ·dsimp only; rw [parS_none hpn]
    exact Keeps.add (fun w => arr_nil _ w) (Keeps.add (fun w => arr_nil _ w) Keeps.nil)
  | false =>
   obtain ⟨y1, y2⟩ := hinv.yes rfl
   rw [hL, List.drop_length] at y1
   have hck := ccheck_t c ⟨by omega, by omega, hG.2.1, hG.2.2⟩
   have hpm : parM s = if cfOk c.q = true then some c.q else none := y1
   cases hok : cfOk c.q with
   | false =>
    rw [hok] at hck hpm
    have hpn : parM s = none := hpm
    repeat' (first | refine SW ?_ | refine SD ?_ | (refine HO_k 12 rfl ?_; refine HO_callq rfl rfl rfl rfl (hck) (fun _ _ => rfl) (srcsA) rfl rfl sqA ?_) | exact HO_seg rfl rfl | refine S1 ?_ | (refine S2 ?_; intro _) | (refine S3 ?_; intro _ _) | (refine S4 ?_; intro _ _ _) | (refine HO_g 2 rfl ?_; first | apply HO_a1 rfl | apply HO_o1 rfl) | refine S5 ?_ | (intro hb; try replace hb := simB hb; try exact kill hb))
    ((first | apply HX_ret | apply HX_retn); (repeat (first | exact Res_nil | apply Res_tmp rfl | apply Res_ce rfl rfl rfl)); unfold RetQ)
    refine ⟨((none, 0), (none, 0)), trivial, ?_, ?_⟩
    ·dsimp only; rw [parS_none hpn, hpn]
     rfl
    ·dsimp only; rw [parS_none hpn]
     exact Keeps.add (fun w => arr_nil _ w) (Keeps.add (fun w => arr_nil _ w) Keeps.nil)
   | true =>
    rw [hok] at hck hpm
    have hpn : parM s = some c.q := hpm
    repeat' (first | refine SW ?_ | refine SD ?_ | (refine HO_k 12 rfl ?_; refine HO_callq rfl rfl rfl rfl (hck) (fun _ _ => rfl) (srcsA) rfl rfl sqA ?_) | exact HO_seg rfl rfl | refine S1 ?_ | (refine S2 ?_; intro _) | (refine S3 ?_; intro _ _) | (refine S4 ?_; intro _ _ _) | (refine HO_g 2 rfl ?_; first | apply HO_a1 rfl | apply HO_o1 rfl) | refine S5 ?_ | (intro hb; try replace hb := simB hb; try exact kill hb))
    ((first | apply HX_ret | apply HX_retn); (repeat (first | exact Res_nil | apply Res_tmp rfl | apply Res_ce rfl rfl rfl)); unfold RetQ)
    refine ⟨((c.iA, c.ic), (c.dA, c.dc)), trivial, ?_, ?_⟩
    ·dsimp only; rw [parS_some hpn, hpn]
     rfl
    ·dsimp only; rw [parS_some hpn]
     exact Keeps.skip (Keeps.cons own_e (Keeps.cons own_e Keeps.nil))
end Go.Proofs.YtbhiojedmkcfoaaGreatDoor
