/- The settings of a text, parsed. -/
import Derived.Test.YtbhiojedmkcfoaaGreatDoorCgC
import Derived.Test.YtbhiojedmkcfoaaGreatDoorCgP
import Derived.Test.YtbhiojedmkcfoaaGreatDoorCfK
namespace Go.Proofs.YtbhiojedmkcfoaaGreatDoor
set_option linter.unusedVariables false
set_option linter.unusedSimpArgs false
open Go.RowKit
attribute [local irreducible] HC HX HO Tri eP adr

theorem splC_t (m : Int) (c : UInt8) (l : List UInt8) (hl : l.length < 4294967281) : Tri Tryz.prog 61 [.string ⟨l.toArray⟩, .string ⟨#[c]⟩] [maxLen0 m] [] (fun _ : Nat => True)
    (fun b => .slice (some ⟨b, 0, none⟩) (splB c l).length (splB c l).length) (fun b => [arr strE 1 (some ⟨b, 0, none⟩) (splB c l)]) := by
  refine Tri_texts (T := 9) fun w hro => ?_
  have := Tryz.strings_Split ⟨l.toArray⟩ ⟨#[c]⟩ m w (by show l.toArray.size < _; simpa using hl) (glbs_cell hro (List.mem_singleton.2 rfl)) (by show 1 ≤ 1; decide)
  have h1 := Lib.splitB_all ⟨#[c]⟩ (by show 1 ≤ 1; decide) 0 _ (⟨l.toArray⟩ : ByteArray) rfl
  rw [splitB_eq, List.length_map] at h1
  rw [splitB_eq, ← h1, List.map_map] at this
  exact this
def cutN (l : List UInt8) : List UInt8 := if l.getLast? = some 10 then l.dropLast else l
def endN (l : List UInt8) : Bool := decide (l.getLast? = some 10)
theorem suf_end (l : List UInt8) : Lib.hasSuffix l [10] = endN l := by
  unfold Lib.hasSuffix endN
  rw [Bool.eq_iff_iff, List.isSuffixOf_iff_suffix, decide_eq_true_eq]
  constructor
  · rintro ⟨t, rfl⟩
    simp
  · intro h
    have hne : l ≠ [] := by intro e; subst e; cases h
    refine ⟨l.dropLast, ?_⟩
    have := List.dropLast_concat_getLast hne
    rw [List.getLast?_eq_some_getLast hne] at h
    injection h with h
    rw [h] at this
    exact this
theorem cutsuf_t (l : List UInt8) (hl : l.length ≤ 1000000) : Tri Tryz.prog 60 [.string ⟨l.toArray⟩, .string ⟨#[10]⟩] [] [] (fun _ : Unit => True) (fun _ => .tuple #[.string ⟨(cutN l).toArray⟩, .bool (endN l)]) (fun _ => []) := by
  refine Tri_below fun w _ => ?_
  have := Tryz.strings_CutSuffix ⟨l.toArray⟩ ⟨#[10]⟩ w (by show l.toArray.size ≤ _; simp; omega)
  rw [ba_data, show (ByteArray.mk #[(10 : UInt8)]).data.toList = [10] from rfl, suf_end] at this
  refine this.mono fun e w' ⟨h1, h2⟩ => ⟨?_, by rw [h2]; exact Below.refl _ _⟩
  rw [h1]
  have e1 : Lib.trimSuffix l [10] = cutN l := by
    unfold Lib.trimSuffix cutN
    rw [suf_end]
    unfold endN
    by_cases h : l.getLast? = some 10
    · rw [if_pos (decide_eq_true h), if_pos h, List.dropLast_eq_take]; rfl
    · rw [if_neg (by simpa using h), if_neg h]
  rw [e1]
theorem parM_cut (s : List UInt8) : parM s = if endN s = true then parL (splB 10 (cutN s)) else none := by
  unfold parM endN cutN
  by_cases h : s.getLast? = some 10
  · rw [if_pos h, if_pos (decide_eq_true h), if_pos h]
  · rw [if_neg h, if_neg (by simpa using h)]
theorem cutN_len (l : List UInt8) : (cutN l).length ≤ l.length := by
  unfold cutN
  split
  · rw [List.length_dropLast]; omega
  · exact Nat.le_refl _
@[reducible] def c0S : CfS := ⟨cf0, none, 0, none, 0⟩
/-- what holds while lines are read -/
structure PrI (s : List UInt8) (j : Nat) (c : CfS) (bad : Bool) : Prop where
  le : j ≤ (splB 10 (cutN s)).length
  g : CfG c.q
  n1 : c.q.ifs.length ≤ j
  n2 : c.q.deny.length ≤ j
  no : bad = true → parM s = none
  yes : bad = false → parM s = okE (linesM j ((splB 10 (cutN s)).drop j) c.q) ∧ c.q.ifs.length + c.q.deny.length = j - 18
theorem PrI.start (s : List UInt8) : PrI s 0 c0S (!endN s || decide (((splB 10 (cutN s)).length : Int) < 18)) := by
  refine ⟨Nat.zero_le _, cf0_g, Nat.zero_le _, Nat.zero_le _, fun h => ?_, fun h => ?_⟩
  · rw [parM_cut]
    rw [Bool.or_eq_true, Bool.not_eq_true', decide_eq_true_eq] at h
    rcases h with h | h
    · rw [if_neg (by rw [h]; decide)]
    · split
      · exact parL_few (by omega)
      · rfl
  · rw [Bool.or_eq_false_iff, Bool.not_eq_false', decide_eq_false_iff_not] at h
    rw [parM_cut, if_pos h.1, parL_ok (by omega)]
    exact ⟨rfl, rfl⟩
theorem PrI.step {s : List UInt8} {j : Nat} {c : CfS} (h : PrI s j c false) {x : List UInt8} (hx : (splB 10 (cutN s))[j]? = some x) (y : OA × OA) : PrI s (j + 1) (c.wth (lineX j (splB 32 x) c.q false).1 y) (lineX j (splB 32 x) c.q false).2 := by
  have hlt := (List.getElem?_eq_some_iff.1 hx).1
  have hl := lineX_len j (splB 32 x) c.q false
  obtain ⟨y1, y2⟩ := h.yes rfl
  have hs := linesM_step hx c.q
  refine ⟨hlt, lineX_g _ _ _ _ h.g, ?_, ?_, fun hb => ?_, fun hb => ?_⟩
  · have := h.n1; have := hl.1; show (lineX j (splB 32 x) c.q false).1.ifs.length ≤ j + 1; omega
  · have := h.n2; have := hl.2; show (lineX j (splB 32 x) c.q false).1.deny.length ≤ j + 1; omega
  · rw [y1, hs, if_pos hb]; rfl
  · rw [y1, hs, if_neg (by rw [hb]; decide)]
    refine ⟨rfl, ?_⟩
    have := lineX_count hb
    show (lineX j (splB 32 x) c.q false).1.ifs.length + (lineX j (splB 32 x) c.q false).1.deny.length = _
    omega
set_option maxHeartbeats 16000000 in
theorem cparse_t (m : Int) (s : List UInt8) (hs : s.length ≤ 90000) : Tri Tryz.prog 16 [.string ⟨s.toArray⟩] [glW, maxLen0 m] [] (fun _ : OA × OA => True) (fun x => .tuple #[.agg (parS s x).e.toArray, .int .i64 (if (parM s).isSome = true then 0 else 190)])
    (fun x => [arr IfQ.e 5 (parS s x).iA (parS s x).q.ifs, arr iE 1 (parS s x).dA (parS s x).q.deny]) := by
  have hcut := cutsuf_t s (by omega)
  have hcl := cutN_len s
  have hsp := splC_t m 10 (cutN s) (by omega)
  have hst := PrI.start s
  have hsl := splB_len 10 (cutN s)
  have hmem := splB_mem 10 (cutN s)
  obtain ⟨L, hL⟩ : ∃ L, splB 10 (cutN s) = L := ⟨_, rfl⟩
  rw [hL] at hsp hst hsl hmem
  obtain ⟨bad0, hbad0⟩ : ∃ bad0, (!endN s || decide ((L.length : Int) < 18)) = bad0 := ⟨_, rfl⟩
  rw [hbad0] at hst
  refine Tri_of (N := Tryz.f16.ntmps) (c := bodyOf Tryz.f16) Tryz.func16 rfl rfl rfl rfl (fun w0 S0 => ?_)
  repeat' (first | refine SW ?_ | refine SD ?_ | (refine HO_k 12 rfl ?_; refine HO_callq rfl rfl rfl rfl (hcut) (fun _ _ => rfl) (trivial) rfl rfl sqA ?_) | (refine HO_k 12 rfl ?_; refine HO_call rfl rfl rfl rfl (hsp) rfl (srcsA) rfl rfl soA ?_; intro bl hbl; dsimp only [List.cons_append, List.nil_append]) | exact HO_seg rfl rfl | refine S1 ?_ | (refine S2 ?_; intro _) | (refine S3 ?_; intro _ _) | (refine S4 ?_; intro _ _ _) | (refine HO_g 2 rfl ?_; (first | apply HO_and rfl rfl rfl rfl rfl rfl rfl rfl rfl | apply HO_or rfl rfl rfl rfl rfl rfl rfl rfl rfl)) | refine S5 ?_ | (intro hb; try replace hb := simB hb; try exact kill hb))
  rename_i br b0
  rw [hbad0]
  refine HC_keeps (rw' := rdrP b0 c0S bad0 ++ [arr strE 1 (some ⟨bl, 0, none⟩) L, cel br TCf c0S.e]) ?_ ?_
  · exact Keeps.pick 0 rfl rfl (Keeps.add (fun w => own_nil w) (Keeps.add (fun w => own_nil w) permA))
  refine HC_loop (α := Nat × CfS × Bool) (fun x => PrI s x.1 x.2.1 x.2.2) (fun x => [(28, .int .i64 x.1), (27, .int .i64 L.length), (26, .slice (some ⟨bl, 0, none⟩) L.length L.length), (7, pt b0), (2, pt br)]) (fun x => rdrP b0 x.2.1 x.2.2 ++ [arr strE 1 (some ⟨bl, 0, none⟩) L, cel br TCf c0S.e]) (fun x => L.length - x.1) rfl (0, c0S, bad0) hst ⟨rfl, rfl, rfl, rfl, rfl, trivial⟩ rfl ?_
  rintro ⟨j, c, bad⟩ hinv
  dsimp only [rdrP, List.cons_append, List.nil_append] at hinv ⊢
  have hle := hinv.le
  rw [hL] at hle
  have hG := hinv.g
  have n1 := hinv.n1
  have n2 := hinv.n2
  rcases Nat.lt_or_ge j L.length with hlt | hge
  · obtain ⟨x, hx⟩ : ∃ x, L[j]? = some x := ⟨L[j], List.getElem?_eq_getElem hlt⟩
    have hxl := hmem x (List.mem_of_getElem? hx)
    cases bad with
    | true =>
      have hpn := hinv.no rfl
      repeat' (first | refine SW ?_ | refine SD ?_ | ((refine HO_g 2 rfl ?_); (refine HO_skip rfl rfl rfl rfl rdA ?_)) | exact HO_seg rfl rfl | refine S1 ?_ | (refine S2 ?_; intro _) | (refine S3 ?_; intro _ _) | (refine S4 ?_; intro _ _ _) | (refine HO_g 2 rfl ?_; (first | apply HO_and rfl rfl rfl rfl rfl rfl rfl rfl rfl | apply HO_or rfl rfl rfl rfl rfl rfl rfl rfl rfl)) | refine S5 ?_ | (intro hb; try replace hb := simB hb; try exact kill hb))
      ((first | apply HX_ret | apply HX_retn); (repeat (first | exact Res_nil | apply Res_tmp rfl | apply Res_ce rfl rfl rfl)); unfold RetQ)
      refine ⟨((none, 0), (none, 0)), trivial, ?_, ?_⟩
      · dsimp only; rw [parS_none hpn, hpn]
        rfl
      · dsimp only; rw [parS_none hpn]
        exact Keeps.add (fun w => arr_nil _ w) (Keeps.add (fun w => arr_nil _ w) Keeps.nil)
    | false =>
      obtain ⟨y1, y2⟩ := hinv.yes rfl
      by_cases hmany : 290 < j
      · have hpn : parM s = none := by rw [y1]; exact okE_many (by omega) (by omega)
        repeat' (first | refine SW ?_ | refine SD ?_ | exact HO_seg rfl rfl | refine S1 ?_ | (refine S2 ?_; intro _) | (refine S3 ?_; intro _ _) | (refine S4 ?_; intro _ _ _) | (refine HO_g 2 rfl ?_; (first | apply HO_and rfl rfl rfl rfl rfl rfl rfl rfl rfl | apply HO_or rfl rfl rfl rfl rfl rfl rfl rfl rfl)) | refine S5 ?_ | (intro hb; try replace hb := simB hb; try exact kill hb))
        ((first | apply HX_ret | apply HX_retn); (repeat (first | exact Res_nil | apply Res_tmp rfl | apply Res_ce rfl rfl rfl)); unfold RetQ)
        refine ⟨((none, 0), (none, 0)), trivial, ?_, ?_⟩
        · dsimp only; rw [parS_none hpn, hpn]
          rfl
        · dsimp only; rw [parS_none hpn]
          exact Keeps.add (fun w => arr_nil _ w) (Keeps.add (fun w => arr_nil _ w) Keeps.nil)
      · have hsx := splC_t m 32 x (by omega)
        have hstep := hinv.step (x := x) (by rw [hL]; exact hx)
        have hwl := splB_mem 32 x
        have hli := fun (A : Option Addr) => line_t b0 c false hG.1 j (by omega) A (splB 32 x).length (splB 32 x).length (splB 32 x) rfl (Nat.le_refl _) (fun w hw => by have := hwl w hw; omega) m (by omega) (by omega)
        dsimp only [rdrP] at hli
        repeat' (first | refine SW ?_ | refine SD ?_ | (refine HO_k 12 rfl ?_; refine HO_call rfl rfl rfl rfl (hsx) rfl (srcsA) rfl rfl soA ?_; intro bw hbw; dsimp only [List.cons_append, List.nil_append]) | (refine HO_k 12 rfl ?_; refine HO_mv 3 rfl rfl ?_; refine HO_mv 3 rfl rfl ?_; refine HO_mv 3 rfl rfl ?_; refine HO_call rfl rfl rfl rfl (hli _) rfl (srcsA) rfl rfl soA ?_; intro y hy; dsimp only [List.cons_append, List.nil_append]) | (refine HO_k 12 rfl ?_; refine HO_call rfl rfl rfl rfl (hli _) rfl (srcsA) rfl rfl soA ?_; intro y hy; dsimp only [List.cons_append, List.nil_append]) | exact HO_seg rfl rfl | refine S1 ?_ | (refine S2 ?_; intro _) | (refine S3 ?_; intro _ _) | (refine S4 ?_; intro _ _ _) | (refine HO_g 2 rfl ?_; (first | apply HO_and rfl rfl rfl rfl rfl rfl rfl rfl rfl | apply HO_or rfl rfl rfl rfl rfl rfl rfl rfl rfl)) | refine S5 ?_ | (intro hb; try replace hb := simB hb; try exact kill hb))
        refine HX_keeps (rw' := rdrP b0 (c.wth (lineX j (splB 32 x) c.q false).1 y) (lineX j (splB 32 x) c.q false).2 ++ [arr strE 1 (some ⟨bl, 0, none⟩) L, cel br TCf c0S.e]) permA ?_
        exact HX_at (j + 1, c.wth (lineX j (splB 32 x) c.q false).1 y, (lineX j (splB 32 x) c.q false).2) ⟨hstep y, by show L.length - (j + 1) < L.length - j; omega⟩ ⟨rfl, rfl, rfl, rfl, rfl, trivial⟩ rfl
  · obtain rfl : j = L.length := by omega
    cases bad with
    | true =>
      have hpn := hinv.no rfl
      repeat' (first | refine SW ?_ | refine SD ?_ | ((refine HO_g 2 rfl ?_); (refine HO_skip rfl rfl rfl rfl rdA ?_)) | exact HO_seg rfl rfl | refine S1 ?_ | (refine S2 ?_; intro _) | (refine S3 ?_; intro _ _) | (refine S4 ?_; intro _ _ _) | (refine HO_g 2 rfl ?_; (first | apply HO_and rfl rfl rfl rfl rfl rfl rfl rfl rfl | apply HO_or rfl rfl rfl rfl rfl rfl rfl rfl rfl)) | refine S5 ?_ | (intro hb; try replace hb := simB hb; try exact kill hb))
      ((first | apply HX_ret | apply HX_retn); (repeat (first | exact Res_nil | apply Res_tmp rfl | apply Res_ce rfl rfl rfl)); unfold RetQ)
      refine ⟨((none, 0), (none, 0)), trivial, ?_, ?_⟩
      · dsimp only; rw [parS_none hpn, hpn]
        rfl
      · dsimp only; rw [parS_none hpn]
        exact Keeps.add (fun w => arr_nil _ w) (Keeps.add (fun w => arr_nil _ w) Keeps.nil)
    | false =>
      obtain ⟨y1, y2⟩ := hinv.yes rfl
      rw [hL, List.drop_length] at y1
      have hck := ccheck_t c ⟨by omega, by omega, hG.2.1, hG.2.2⟩
      have hpm : parM s = if cfOk c.q = true then some c.q else none := y1
      cases hok : cfOk c.q with
      | false =>
        rw [hok] at hck hpm
        have hpn : parM s = none := hpm
        repeat' (first | refine SW ?_ | refine SD ?_ | (refine HO_k 12 rfl ?_; refine HO_callq rfl rfl rfl rfl (hck) (fun _ _ => rfl) (srcsA) rfl rfl sqA ?_) | exact HO_seg rfl rfl | refine S1 ?_ | (refine S2 ?_; intro _) | (refine S3 ?_; intro _ _) | (refine S4 ?_; intro _ _ _) | (refine HO_g 2 rfl ?_; (first | apply HO_and rfl rfl rfl rfl rfl rfl rfl rfl rfl | apply HO_or rfl rfl rfl rfl rfl rfl rfl rfl rfl)) | refine S5 ?_ | (intro hb; try replace hb := simB hb; try exact kill hb))
        ((first | apply HX_ret | apply HX_retn); (repeat (first | exact Res_nil | apply Res_tmp rfl | apply Res_ce rfl rfl rfl)); unfold RetQ)
        refine ⟨((none, 0), (none, 0)), trivial, ?_, ?_⟩
        · dsimp only; rw [parS_none hpn, hpn]
          rfl
        · dsimp only; rw [parS_none hpn]
          exact Keeps.add (fun w => arr_nil _ w) (Keeps.add (fun w => arr_nil _ w) Keeps.nil)
      | true =>
        rw [hok] at hck hpm
        have hpn : parM s = some c.q := hpm
        repeat' (first | refine SW ?_ | refine SD ?_ | (refine HO_k 12 rfl ?_; refine HO_callq rfl rfl rfl rfl (hck) (fun _ _ => rfl) (srcsA) rfl rfl sqA ?_) | exact HO_seg rfl rfl | refine S1 ?_ | (refine S2 ?_; intro _) | (refine S3 ?_; intro _ _) | (refine S4 ?_; intro _ _ _) | (refine HO_g 2 rfl ?_; (first | apply HO_and rfl rfl rfl rfl rfl rfl rfl rfl rfl | apply HO_or rfl rfl rfl rfl rfl rfl rfl rfl rfl)) | refine S5 ?_ | (intro hb; try replace hb := simB hb; try exact kill hb))
        ((first | apply HX_ret | apply HX_retn); (repeat (first | exact Res_nil | apply Res_tmp rfl | apply Res_ce rfl rfl rfl)); unfold RetQ)
        refine ⟨((c.iA, c.ic), (c.dA, c.dc)), trivial, ?_, ?_⟩
        · dsimp only; rw [parS_some hpn, hpn]
          rfl
        · dsimp only; rw [parS_some hpn]
          exact Keeps.skip (Keeps.cons own_e (Keeps.cons own_e Keeps.nil))
end Go.Proofs.YtbhiojedmkcfoaaGreatDoor
