/- Part of a proof of many texts: what the theorem at its end leans on. -/
import Derived.Test.YteeogabkkblkgaaGreatDoorVPeQ
import Derived.Test.YteeogabkkblkgaaGreatDoorVPeR
import Derived.Test.YteeogabkkblkgaaGreatDoorVPeH
import Derived.Test.YteeogabkkblkgaaGreatDoorVAttC
import Derived.Test.YteeogabkkblkgaaGreatDoorVKc
namespace Go.Proofs.YteeogabkkblkgaaGreatDoor
set_option maxHeartbeats 1000000000
set_option linter.unusedVariables false
set_option linter.unusedSimpArgs false
open Go.RowKit
attribute [local irreducible] HC HX HO Tri eP adr
theorem rleast_t (k : Int) : Tri Tryz.prog 78 [.int .i64 k] [] [] (fun _ : Unit => True) (fun _ => .int .i64 (leastM k)) (fun _ => []) := by
 unfold leastM
 by_cases h1 : k = 1
 ·rw [if_pos h1]
  refine Tri_in Tryz.func78 rfl (fun w0 S0 => ?_)
  repeat' (first | refine SD ?_ | refine SB ?_ | fail)
  (refine SRt ?_; refine RU ?_)
  rfl
 rw [if_neg h1]
 by_cases h2 : k = 2
 ·rw [if_pos h2]
  refine Tri_in Tryz.func78 rfl (fun w0 S0 => ?_)
  repeat' (first | refine SD ?_ | refine SB ?_ | fail)
  (refine SRt ?_; refine RU ?_)
  rfl
 rw [if_neg h2]
 by_cases h3 : k = 3
 ·rw [if_pos h3]
  refine Tri_in Tryz.func78 rfl (fun w0 S0 => ?_)
  repeat' (first | refine SD ?_ | refine SB ?_ | fail)
  (refine SRt ?_; refine RU ?_)
  rfl
 rw [if_neg h3]
 by_cases h4 : k = 4
 ·rw [if_pos h4]
  refine Tri_in Tryz.func78 rfl (fun w0 S0 => ?_)
  repeat' (first | refine SD ?_ | refine SB ?_ | fail)
  (refine SRt ?_; refine RU ?_)
  rfl
 ·rw [if_neg h4]
  refine Tri_in Tryz.func78 rfl (fun w0 S0 => ?_)
  repeat' (first | refine SD ?_ | refine SB ?_ | fail)
  (refine SRt ?_; refine RU ?_)
  rfl
theorem rput3_t (k : Int) (A : Option Addr) (c : Nat) (b : List UInt8) (hb : msgOk k b.length = true) : Tri Tryz.prog 42 [mgV k A b.length c] [arr bE 1 A b] [] (fun _ : OA => True)
  (fun z => .slice z.1 (frB k b).length z.2) (fun z => [ownB z (frB k b)]) := by
 obtain ⟨hk, h1, h2, h3⟩ := msgOk_iff.1 hb
 have c2 := rput_t 2 (b.length + 19) (by decide) (by omega)
 have ek := byte_of (k := k) (by omega)
 have e0 := be_length 2 (b.length + 19)
 have e9 : b.length + 19 = 19 + b.length := by omega
 unfold mgV
 refine Tri_in Tryz.func42 rfl (fun w0 S0 => ?_)
 repeat' (first | refine SX ?_ | refine SB ?_ | (refine T2 ?_; intros) | fail)
 refine HC_keeps (rw' := [ownB (none, 0) (List.replicate 0 255), cel _ 60 [.int .i64 k, .slice A b.length c]]) (Keeps.add (fun w => own_nil w) Keeps.refl) ?_
 rename_i bm
 refine HC_loop (α := Nat × OA) (fun y => y.1 ≤ 16) (fun y => [(4, .int .i64 y.1), (3, .slice y.2.1 (List.replicate y.1 (255 : UInt8)).length y.2.2), (1, .pointer (some ⟨bm, 0, none⟩))]) (fun y => [ownB y.2 (List.replicate y.1 255), cel bm 60 [.int .i64 k, .slice A b.length c]]) (fun y => 16 - y.1) rfl (0, (none, 0)) (by decide) ⟨rfl, rfl, rfl, trivial⟩ rfl ?_
 rintro ⟨j, o⟩ hj
 dsimp only at hj ⊢
 by_cases hlt : j < 16
 ·have hltz : (j : Int) < 16 := by omega
  have hrl : (List.replicate j (255 : UInt8)).length = j := List.length_replicate
  have e1 : (List.replicate j (255 : UInt8)).length + 1 = (List.replicate (j + 1) (255 : UInt8)).length := by simp
  have e2 : (List.replicate j (255 : UInt8)).map bE ++ [[Value.int .u8 255]] = (List.replicate (j + 1) (255 : UInt8)).map bE := by
   rw [List.replicate_succ', List.map_append]
   rfl
  repeat' (first | refine SX ?_ | refine SB ?_ | (refine T2 ?_; intros) | fail)
  rename_i bb A' c'
  rw [e1, e2]
  refine HX_keeps (rw' := [ownB (A', c') (List.replicate (j + 1) 255), cel bm 60 [.int .i64 k, .slice A b.length c]]) permA ?_
  exact HX_at (j + 1, (A', c')) ⟨by show j + 1 ≤ 16; omega, by show 16 - (j + 1) < 16 - j; omega⟩ ⟨rfl, rfl, rfl, trivial⟩ rfl
 ·obtain rfl : j = 16 := by omega
  repeat' (first | refine SX ?_ | (refine KC ?_; refine HO_callP rfl rfl rfl rfl (c2) findA (trivial) rfl rfl soA ?_; intro ⟨y1, y2⟩ hy; dsimp only [lca, lna]) | (with_reducible refine HO_rw ek ?_) | refine SB ?_ | (refine T2 ?_; intros) | fail)
  rename_i A1 c1 b2 A2 c2 A' c'
  have eL : (List.replicate 16 (255 : UInt8)).length + 2 + 1 + b.length = (frB k b).length := by
   have q1 := frB_len k b
   have q2 : (List.replicate 16 (255 : UInt8)).length = 16 := rfl
   omega
  have eM : (List.replicate 16 (255 : UInt8)).map bE ++ (be 2 (b.length + 19)).map bE ++ [[Value.int .u8 ((UInt8.ofNat k.toNat).toNat : Nat)]] ++ b.map bE = (frB k b).map bE := by
   unfold frB
   rw [e9, List.map_append, List.map_append, List.append_assoc, List.append_assoc]
   try rfl
  rw [eL, eM]
  (refine SRt ?_; unfold RetQ; refine ⟨(A', c'), trivial, rfl, permA⟩)
theorem rcheck8_t (n : NtQ) (A : Option Addr) (c : Nat) : Tri Tryz.prog 157 [noV n A c] [] [] (fun _ : Unit => True) (fun _ => .bool (ntOk n)) (fun _ => []) := by
 unfold noV ntOk
 refine Tri_in Tryz.func157 rfl (fun w0 S0 => ?_)
 repeat' (first | exact HO_seg rfl rfl | refine S1 ?_ | (refine S2 ?_; intro _) | (refine HO_g 2 rfl ?_; apply HO_a1 rfl) | refine S5 ?_ | (intro hb; try replace hb := simB hb; try exact kill hb))
 (refine SRt ?_; refine RU ?_)
 have hl : decide ((n.d.length : Int) ≤ 4075) = decide (n.d.length ≤ 4075) := decide_eq_decide.2 (by omega)
 exact congrArg Value.bool (by simp [Bool.and_assoc, hl])
theorem rbody8_t (n : NtQ) (A : Option Addr) (c : Nat) (h : ntOk n = true) : Tri Tryz.prog 158 [noV n A c] [arr bE 1 A n.d] [] (fun _ : OA => True) (fun z => .slice z.1 (ntB n).length z.2) (fun z => [ownB z (ntB n)]) := by
 obtain ⟨k, s, d⟩ := n
 have hh := h
 simp only [ntOk, Bool.and_eq_true, decide_eq_true_eq] at hh
 obtain ⟨⟨⟨⟨h1, h2⟩, h3⟩, h4⟩, h5⟩ := hh
 have ek := byte_of (k := k) (by omega)
 have es := byte_of (k := s) (by omega)
 have e1 : 2 + d.length = (ntB ⟨k, s, d⟩).length := by simp [ntB]; omega
 have e2 : [[Value.int .u8 ((UInt8.ofNat k.toNat).toNat : Nat)], [Value.int .u8 ((UInt8.ofNat s.toNat).toNat : Nat)]] ++ d.map bE = (ntB ⟨k, s, d⟩).map bE := rfl
 clear h
 dsimp only [noV]
 refine Tri_in Tryz.func158 rfl (fun w0 S0 => ?_)
 repeat' (first | refine SW ?_ | (with_reducible refine HO_rw ek ?_) | (with_reducible refine HO_rw es ?_) | refine SB ?_ | (refine T2 ?_; intros) | fail)
 rename_i A' c'
 rw [e1, e2]
 (refine SRt ?_; unfold RetQ; refine ⟨(A', c'), trivial, rfl, permA⟩)
theorem u8_255 {a : UInt8} (h : (a.toNat : Int) = 255) : a = 255 := UInt8.toNat_inj.1 (by show a.toNat = 255; omega)
theorem any_false {l : List UInt8} {p : UInt8 → Bool} (h : ∀ i, i < l.length → ∀ a, l[i]? = some a → p a = false) : l.any p = false := by
 rw [List.any_eq_false]
 intro a ha
 obtain ⟨i, hi, he⟩ := List.getElem_of_mem ha
 have := h i hi a (by rw [List.getElem?_eq_getElem hi, he])
 simp [this]
theorem rhead_t (A : Option Addr) (c : Nat) (b : List UInt8) (hb : b.length ≤ 1000000) (hc : b.length ≤ c) : Tri Tryz.prog 50 [.slice A b.length c] [arr bE 1 A b] [] (fun _ : OA => True) (fun z => .tuple #[.int .i64 (headM b).1, .int .i64 (headM b).2.1, noV (headM b).2.2 z.1 z.2]) (fun z => [ownB z (headM b).2.2.d]) := by
 by_cases h1 : b.length < 19
 ·rw [headM_short h1]
  have h1z : (b.length : Int) < 19 := by omega
  dsimp only [noV]
  refine Tri_in Tryz.func50 rfl (fun w0 S0 => ?_)
  repeat' (first | refine SY ?_ | refine SB ?_ | (refine S2 ?_; intro _) | fail)
  (refine SRt ?_; unfold RetQ; refine ⟨(none, 0), trivial, rfl, (Keeps.add (fun w => own_nil w) Keeps.nil)⟩)
 have h1z : ¬ (b.length : Int) < 19 := by omega
 have h16 : (b.take 16).length = 16 := by rw [List.length_take]; omega
 have hgl : (((b.drop 16).take 2)).length = 2 := by rw [List.length_take, List.length_drop]; omega
 obtain ⟨a16, g16⟩ : ∃ e, b[16]? = some e := ⟨b[16], List.getElem?_eq_getElem (by omega)⟩
 obtain ⟨a17, g17⟩ : ∃ e, b[17]? = some e := ⟨b[17], List.getElem?_eq_getElem (by omega)⟩
 obtain ⟨a18, g18⟩ : ∃ e, b[18]? = some e := ⟨b[18], List.getElem?_eq_getElem (by omega)⟩
 have d16 : b.getD 16 0 = a16 := by rw [List.getD_eq_getElem?_getD, g16]; rfl
 have d17 : b.getD 17 0 = a17 := by rw [List.getD_eq_getElem?_getD, g17]; rfl
 have d18 : b.getD 18 0 = a18 := by rw [List.getD_eq_getElem?_getD, g18]; rfl
 have h18 := a18.toNat_lt
 have c3 := rget_t (cutA A 1 c 16) 2 (c - 16) ((b.drop 16).take 2) hgl.symm (by omega)
 obtain ⟨gl, hg⟩ : ∃ gl, ge ((b.drop 16).take 2) = gl := ⟨_, rfl⟩
 rw [hg] at c3
 have c4 := rleast_t a18.toNat
 refine Tri_in Tryz.func50 rfl (fun w0 S0 => ?_)
 repeat' (first | refine SY ?_ | refine SB ?_ | (refine S2 ?_; intro _) | fail)
 rename_i b0
 refine HC_loop (α := Nat) (fun j => j ≤ 16 ∧ ∀ i, i < j → b[i]? = some 255) (fun j => [(5, .int .i64 j), (4, .pointer (some ⟨b0, 0, none⟩)), (0, .slice A b.length c)]) (fun _ => [cel b0 44 [.int .i64 0, .int .i64 0, .slice none 0 0]]) (fun j => 16 - j) rfl 0 ⟨by decide, fun i hi => by omega⟩ ⟨rfl, rfl, rfl, trivial⟩ rfl ?_
 intro j ⟨hj, hall⟩
 by_cases hlt : j < 16
 ·have hltz : (j : Int) < 16 := by omega
  obtain ⟨a, ha⟩ : ∃ a, b[j]? = some a := ⟨b[j], List.getElem?_eq_getElem (by omega)⟩
  by_cases ha5 : a = 255
  ·have haz : (a.toNat : Int) = 255 := by rw [ha5]; rfl
   repeat' (first | refine SY ?_ | refine SB ?_ | (refine S2 ?_; intro _) | fail)
   exact HX_at (j + 1) ⟨⟨by omega, fun i hi => by
    rcases Nat.lt_or_ge i j with h | h
    ·exact hall i h
    ·obtain rfl : i = j := by omega
     rw [ha, ha5]⟩, by show 16 - (j + 1) < 16 - j; omega⟩ ⟨rfl, rfl, rfl, trivial⟩ rfl
  ·have haz : ¬ (a.toNat : Int) = 255 := fun h => ha5 (u8_255 h)
   have hM : headM b = (0, 0, ⟨1, 1, []⟩) := by
    unfold headM
    rw [if_neg h1, if_pos]
    rw [List.any_eq_true]
    refine ⟨a, List.mem_of_getElem? (i := j) (by rw [List.getElem?_take, if_pos hlt]; exact ha), by simpa using ha5⟩
   rw [hM]
   dsimp only [noV]
   repeat' (first | refine SY ?_ | refine SB ?_ | (refine S2 ?_; intro _) | fail)
   (refine SRt ?_; unfold RetQ; refine ⟨(none, 0), trivial, rfl, (Keeps.add (fun w => own_nil w) Keeps.nil)⟩)
 ·obtain rfl : j = 16 := by omega
  have hany : (b.take 16).any (fun c => decide (c ≠ 255)) = false := any_false fun i hi a ha => by
   rw [h16] at hi
   rw [List.getElem?_take, if_pos hi, hall i hi] at ha
   injection ha with ha
   simp [← ha]
  by_cases hk : knownM (a18.toNat : Int) = false
  ·have hM : headM b = (0, 0, ⟨1, 3, [a18]⟩) := by
    unfold headM
    rw [if_neg h1, hany, if_neg (by decide), d18, if_pos hk]
   have hl0 : leastM (a18.toNat : Int) = 0 := by
    unfold knownM at hk
    unfold leastM
    simp only [Bool.and_eq_false_iff, decide_eq_false_iff_not] at hk
    rw [if_neg (by omega), if_neg (by omega), if_neg (by omega), if_neg (by omega)]
   rw [hM]
   rw [hl0] at c4
   clear hk hany
   dsimp only [noV]
   repeat' (first | refine SY ?_ | (refine HC_lex rfl rfl (by decide +kernel) rfl rfl ?_; refine HO_names (l' := [0, 1, 2, 3, 4, 5, 6, 7, 8]) (by decide +kernel) ?_) | (refine KC ?_; refine HO_callq rfl rfl rfl rfl (c3) (fun _ _ => rfl) ((AllSrc.via 0 rfl (arr_cut c 16 2 (fun e => by omega)) trivial)) rfl rfl sqA ?_) | (refine KC ?_; refine HO_callq rfl rfl rfl rfl (c4) (fun _ _ => rfl) (trivial) rfl rfl sqA ?_) | refine SB ?_ | (refine S2 ?_; intro _) | fail)
   rename_i bn
   (refine SRt ?_; unfold RetQ; refine ⟨(some ⟨bn, 0, none⟩, 1), trivial, rfl, permA⟩)
  ·have hk1 : knownM (a18.toNat : Int) = true := by simpa using hk
   have hL0 := least_ge hk1
   obtain ⟨L, hL⟩ : ∃ L, leastM (a18.toNat : Int) = L := ⟨_, rfl⟩
   rw [hL] at hL0
   rw [hL] at c4
   have hLz : ¬ L = 0 := by omega
   by_cases hf : fitsM (a18.toNat : Int) gl = false
   ·have hM : headM b = (0, 0, ⟨1, 2, [a16, a17]⟩) := by
     unfold headM
     rw [if_neg h1, hany, if_neg (by decide), d18, if_neg hk, hg, if_pos hf, d16, d17]
    rw [hM]
    dsimp only [noV]
    have hf' : (gl : Int) < L ∨ 4096 < (gl : Int) ∨ ((a18.toNat : Int) = 4 ∧ (gl : Int) ≠ 19) := by
     have := mt fits_iff.2 (by rw [hf]; decide : ¬ fitsM (a18.toNat : Int) gl = true)
     rw [hL] at this
     omega
    clear hk hk1 hany hf hL
    by_cases f1 : (gl : Int) < L
    ·skip
     repeat' (first | refine SY ?_ | (refine HC_lex rfl rfl (by decide +kernel) rfl rfl ?_; refine HO_names (l' := [0, 1, 2, 3, 4, 5, 6, 7, 8]) (by decide +kernel) ?_) | (refine KC ?_; refine HO_callq rfl rfl rfl rfl (c3) (fun _ _ => rfl) ((AllSrc.via 0 rfl (arr_cut c 16 2 (fun e => by omega)) trivial)) rfl rfl sqA ?_) | (refine KC ?_; refine HO_callq rfl rfl rfl rfl (c4) (fun _ _ => rfl) (trivial) rfl rfl sqA ?_) | refine SB ?_ | (refine S2 ?_; intro _) | fail)
     rename_i bn
     (refine SRt ?_; unfold RetQ; refine ⟨(some ⟨bn, 0, none⟩, 2), trivial, rfl, permA⟩)
    by_cases f2 : (gl : Int) > 4096
    ·skip
     repeat' (first | refine SY ?_ | (refine HC_lex rfl rfl (by decide +kernel) rfl rfl ?_; refine HO_names (l' := [0, 1, 2, 3, 4, 5, 6, 7, 8]) (by decide +kernel) ?_) | (refine KC ?_; refine HO_callq rfl rfl rfl rfl (c3) (fun _ _ => rfl) ((AllSrc.via 0 rfl (arr_cut c 16 2 (fun e => by omega)) trivial)) rfl rfl sqA ?_) | (refine KC ?_; refine HO_callq rfl rfl rfl rfl (c4) (fun _ _ => rfl) (trivial) rfl rfl sqA ?_) | refine SB ?_ | (refine S2 ?_; intro _) | fail)
     rename_i bn
     (refine SRt ?_; unfold RetQ; refine ⟨(some ⟨bn, 0, none⟩, 2), trivial, rfl, permA⟩)
    have f3 : (a18.toNat : Int) = 4 := by omega
    have f4 : ¬ (gl : Int) = 19 := by omega
    repeat' (first | refine SY ?_ | (refine HC_lex rfl rfl (by decide +kernel) rfl rfl ?_; refine HO_names (l' := [0, 1, 2, 3, 4, 5, 6, 7, 8]) (by decide +kernel) ?_) | (refine KC ?_; refine HO_callq rfl rfl rfl rfl (c3) (fun _ _ => rfl) ((AllSrc.via 0 rfl (arr_cut c 16 2 (fun e => by omega)) trivial)) rfl rfl sqA ?_) | (refine KC ?_; refine HO_callq rfl rfl rfl rfl (c4) (fun _ _ => rfl) (trivial) rfl rfl sqA ?_) | refine SB ?_ | (refine S2 ?_; intro _) | fail)
    rename_i bn
    (refine SRt ?_; unfold RetQ; refine ⟨(some ⟨bn, 0, none⟩, 2), trivial, rfl, permA⟩)
   ·have hf1 : fitsM (a18.toNat : Int) gl = true := by simpa using hf
    have hM : headM b = ((a18.toNat : Int), (gl : Int), nt0) := by
     unfold headM
     rw [if_neg h1, hany, if_neg (by decide), d18, if_neg hk, hg, if_neg hf]
    rw [hM]
    dsimp only [noV]
    have hf' := fits_iff.1 hf1
    rw [hL] at hf'
    clear hk hk1 hany hf hL hf1
    have f1 : ¬ (gl : Int) < L := by omega
    have f2 : ¬ (gl : Int) > 4096 := by omega
    by_cases f3 : (a18.toNat : Int) = 4
    ·have f4 : (gl : Int) = 19 := by omega
     repeat' (first | refine SY ?_ | (refine HC_lex rfl rfl (by decide +kernel) rfl rfl ?_; refine HO_names (l' := [0, 1, 2, 3, 4, 5, 6, 7, 8]) (by decide +kernel) ?_) | (refine KC ?_; refine HO_callq rfl rfl rfl rfl (c3) (fun _ _ => rfl) ((AllSrc.via 0 rfl (arr_cut c 16 2 (fun e => by omega)) trivial)) rfl rfl sqA ?_) | (refine KC ?_; refine HO_callq rfl rfl rfl rfl (c4) (fun _ _ => rfl) (trivial) rfl rfl sqA ?_) | refine SB ?_ | (refine S2 ?_; intro _) | fail)
     (refine SRt ?_; unfold RetQ; refine ⟨(none, 0), trivial, rfl, (Keeps.add (fun w => own_nil w) Keeps.nil)⟩)
    ·repeat' (first | refine SY ?_ | (refine HC_lex rfl rfl (by decide +kernel) rfl rfl ?_; refine HO_names (l' := [0, 1, 2, 3, 4, 5, 6, 7, 8]) (by decide +kernel) ?_) | (refine KC ?_; refine HO_callq rfl rfl rfl rfl (c3) (fun _ _ => rfl) ((AllSrc.via 0 rfl (arr_cut c 16 2 (fun e => by omega)) trivial)) rfl rfl sqA ?_) | (refine KC ?_; refine HO_callq rfl rfl rfl rfl (c4) (fun _ _ => rfl) (trivial) rfl rfl sqA ?_) | refine SB ?_ | (refine S2 ?_; intro _) | fail)
     (refine SRt ?_; unfold RetQ; refine ⟨(none, 0), trivial, rfl, (Keeps.add (fun w => own_nil w) Keeps.nil)⟩)
end Go.Proofs.YteeogabkkblkgaaGreatDoor
