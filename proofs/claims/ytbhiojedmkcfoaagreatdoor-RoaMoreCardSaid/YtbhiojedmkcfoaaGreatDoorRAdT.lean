/- Part of a proof of many texts: what the theorem at its end leans on. -/
import Derived.Test.YtbhiojedmkcfoaaGreatDoorRAdP
namespace Go.Proofs.YtbhiojedmkcfoaaGreatDoor
set_option linter.unusedVariables false
set_option linter.unusedSimpArgs false
open Go.RowKit
attribute [local irreducible] HC HX HO Tri eP adr
theorem and_one (n : Nat) : bAnd .u32 ((n : Nat) : Int) 1 = ((n % 2 : Nat) : Int) := by
 have h : (BitVec.ofInt IntKind.u32.bits ((n : Nat) : Int) &&& BitVec.ofInt IntKind.u32.bits 1).toNat = n % 2 := by
  rw [BitVec.ofInt_natCast, show (1 : Int) = ((1 : Nat) : Int) from rfl, BitVec.ofInt_natCast, BitVec.toNat_and, BitVec.toNat_ofNat, BitVec.toNat_ofNat, show 2 ^ IntKind.u32.bits = 4294967296 from rfl, show 1 % 4294967296 = 2 ^ 1 - 1 from rfl, Nat.and_two_pow_sub_one_eq_mod]
  omega
 unfold bAnd
 rw [h]
 show ((n % 2 : Nat) : Int) % 4294967296 = _
 omega
theorem and_255 (n : Nat) : bAnd .u32 ((n : Nat) : Int) 255 = ((n % 256 : Nat) : Int) := by
 have h : (BitVec.ofInt IntKind.u32.bits ((n : Nat) : Int) &&& BitVec.ofInt IntKind.u32.bits 255).toNat = n % 256 := by
  rw [BitVec.ofInt_natCast, show (255 : Int) = ((255 : Nat) : Int) from rfl, BitVec.ofInt_natCast, BitVec.toNat_and, BitVec.toNat_ofNat, BitVec.toNat_ofNat, show 2 ^ IntKind.u32.bits = 4294967296 from rfl, show 255 % 4294967296 = 2 ^ 8 - 1 from rfl, Nat.and_two_pow_sub_one_eq_mod]
  omega
 unfold bAnd
 rw [h]
 show ((n % 256 : Nat) : Int) % 4294967296 = _
 omega
theorem shr_u32 (k q : Nat) (hq : q ≤ 32) : bShr .u32 (k : Int) q = ((k / 2 ^ q : Nat) : Int) := by
 unfold bShr
 have : min q IntKind.u32.bits = q := by simp [IntKind.bits]; omega
 rw [this, Int.fdiv_eq_ediv_of_nonneg _ (Int.pow_nonneg (by decide))]
 simp
set_option maxHeartbeats 1000000000 in
theorem abit_t (a : Nat) (ha : a < 4294967296) (i : Int) : Tri Tryz.prog 151 [.int .u32 a, .int .i64 i] [] [] (fun _ : Unit => True) (fun _ => .int .i64 (bitN a i)) (fun _ => []) := by
 unfold bitN
 by_cases h1 : i < 0 ∨ 31 < i
 ·rw [if_pos h1]
  rcases h1 with h1 | h1
  ·refine Tri_of (N := Tryz.f151.ntmps) (c := bodyOf Tryz.f151) Tryz.func151 rfl rfl rfl rfl (fun w0 S0 => ?_)
   repeat' (first | refine SW ?_ | refine SD ?_ | exact HO_seg rfl rfl | refine S1 ?_ | (refine S2 ?_; intro _) | (refine S3 ?_; intro _ _) | (refine S4 ?_; intro _ _ _) | (refine HO_g 2 rfl ?_; first | apply HO_a1 rfl | apply HO_o1 rfl) | refine S5 ?_ | (intro hb; try replace hb := simB hb; try exact kill hb))
   (refine SRt ?_; unfold RetQ; refine ⟨(), trivial, ?_, Keeps.nil⟩)
   rfl
  ·refine Tri_of (N := Tryz.f151.ntmps) (c := bodyOf Tryz.f151) Tryz.func151 rfl rfl rfl rfl (fun w0 S0 => ?_)
   repeat' (first | refine SW ?_ | refine SD ?_ | exact HO_seg rfl rfl | refine S1 ?_ | (refine S2 ?_; intro _) | (refine S3 ?_; intro _ _) | (refine S4 ?_; intro _ _ _) | (refine HO_g 2 rfl ?_; first | apply HO_a1 rfl | apply HO_o1 rfl) | refine S5 ?_ | (intro hb; try replace hb := simB hb; try exact kill hb))
   (refine SRt ?_; unfold RetQ; refine ⟨(), trivial, ?_, Keeps.nil⟩)
   rfl
 ·rw [if_neg h1]
  obtain ⟨k, rfl⟩ : ∃ k : Nat, i = k := ⟨i.toNat, by omega⟩
  have hs : (31 - ((k : Nat) : Int)) = ((31 - k : Nat) : Int) := by omega
  have hr := shr_u32 a (31 - k) (by omega)
  have ho := and_one (a / 2 ^ (31 - k))
  refine Tri_of (N := Tryz.f151.ntmps) (c := bodyOf Tryz.f151) Tryz.func151 rfl rfl rfl rfl (fun w0 S0 => ?_)
  repeat' (first | refine SW ?_ | refine SD ?_ | (with_reducible refine HO_rw (congrArg (Value.int .i64) hs) ?_) | (with_reducible refine HO_rw (congrArg (Value.int .u32) hr) ?_) | (with_reducible refine HO_rw (congrArg (Value.int .u32) ho) ?_) | exact HO_seg rfl rfl | refine S1 ?_ | (refine S2 ?_; intro _) | (refine S3 ?_; intro _ _) | (refine S4 ?_; intro _ _ _) | (refine HO_g 2 rfl ?_; first | apply HO_a1 rfl | apply HO_o1 rfl) | refine S5 ?_ | (intro hb; try replace hb := simB hb; try exact kill hb))
  (refine SRt ?_; unfold RetQ; refine ⟨(), trivial, ?_, Keeps.nil⟩)
  rfl
set_option maxHeartbeats 1000000000 in
theorem rholds_t (a : Nat) (ha : a < 4294967296) (n : Int) (b : Nat) (hb : b < 4294967296) : Tri Tryz.prog 154 [pfV a n, .int .u32 b] [] [] (fun _ : Unit => True) (fun _ => .bool (hoX a n b)) (fun _ => []) := by
 have hc := rchk_t a ha n
 have hm := rmake_t b hb n
 dsimp only [pfV] at hc hm
 unfold hoX
 cases hx : okX a n
 ·rw [hx] at hc
  refine Tri_of (N := Tryz.f154.ntmps) (c := bodyOf Tryz.f154) Tryz.func154 rfl rfl rfl rfl (fun w0 S0 => ?_)
  dsimp only [pfV]
  repeat' (first | refine SW ?_ | refine SD ?_ | (refine HO_k 12 rfl ?_; refine HO_callq rfl rfl rfl rfl (hc) (fun _ _ => rfl) (trivial) rfl rfl sqA ?_) | exact HO_seg rfl rfl | refine S1 ?_ | (refine S2 ?_; intro _) | (refine S3 ?_; intro _ _) | (refine S4 ?_; intro _ _ _) | (refine HO_g 2 rfl ?_; first | apply HO_a1 rfl | apply HO_o1 rfl) | refine S5 ?_ | (intro hb; try replace hb := simB hb; try exact kill hb))
  (refine SRt ?_; unfold RetQ; refine ⟨(), trivial, ?_, Keeps.nil⟩)
  rfl
 ·rw [hx] at hc
  refine Tri_of (N := Tryz.f154.ntmps) (c := bodyOf Tryz.f154) Tryz.func154 rfl rfl rfl rfl (fun w0 S0 => ?_)
  dsimp only [pfV]
  repeat' (first | refine SW ?_ | refine SD ?_ | (refine HO_k 12 rfl ?_; refine HO_callq rfl rfl rfl rfl (hc) (fun _ _ => rfl) (trivial) rfl rfl sqA ?_) | (refine HO_k 12 rfl ?_; refine HO_callq rfl rfl rfl rfl (hm) (fun _ _ => rfl) (trivial) rfl rfl sqA ?_) | exact HO_seg rfl rfl | refine S1 ?_ | (refine S2 ?_; intro _) | (refine S3 ?_; intro _ _) | (refine S4 ?_; intro _ _ _) | (refine HO_g 2 rfl ?_; first | apply HO_a1 rfl | apply HO_o1 rfl) | refine S5 ?_ | (intro hb; try replace hb := simB hb; try exact kill hb))
  (refine SRt ?_; unfold RetQ; refine ⟨(), trivial, ?_, Keeps.nil⟩)
  rfl
set_option maxHeartbeats 1000000000 in
theorem rwithin_t (a : Nat) (ha : a < 4294967296) (n : Int) (b : Nat) (hb : b < 4294967296) (m : Int) : Tri Tryz.prog 101 [pfV a n, pfV b m] [] [] (fun _ : Unit => True) (fun _ => .bool (wiX a n b m)) (fun _ => []) := by
 have ho := rchk_t a ha n
 have hc := rchk_t b hb m
 have hm := rholds_t a ha n b hb
 dsimp only [pfV] at ho hc hm
 unfold wiX
 cases hy : okX a n
 ·have : hoX a n b = false := by unfold hoX; rw [hy]; rfl
  rw [this, Bool.and_false, Bool.and_false]
  rw [hy] at ho
  refine Tri_of (N := Tryz.f101.ntmps) (c := bodyOf Tryz.f101) Tryz.func101 rfl rfl rfl rfl (fun w0 S0 => ?_)
  dsimp only [pfV]
  repeat' (first | refine SW ?_ | refine SD ?_ | (refine HO_k 12 rfl ?_; refine HO_callq rfl rfl rfl rfl (ho) (fun _ _ => rfl) (trivial) rfl rfl sqA ?_) | exact HO_seg rfl rfl | refine S1 ?_ | (refine S2 ?_; intro _) | (refine S3 ?_; intro _ _) | (refine S4 ?_; intro _ _ _) | (refine HO_g 2 rfl ?_; first | apply HO_a1 rfl | apply HO_o1 rfl) | refine S5 ?_ | (intro hb; try replace hb := simB hb; try exact kill hb))
  (refine SRt ?_; unfold RetQ; refine ⟨(), trivial, ?_, Keeps.nil⟩)
  rfl
 rw [hy] at ho
 cases hx : okX b m
 ·rw [hx] at hc
  refine Tri_of (N := Tryz.f101.ntmps) (c := bodyOf Tryz.f101) Tryz.func101 rfl rfl rfl rfl (fun w0 S0 => ?_)
  dsimp only [pfV]
  repeat' (first | refine SW ?_ | refine SD ?_ | (refine HO_k 12 rfl ?_; refine HO_callq rfl rfl rfl rfl (ho) (fun _ _ => rfl) (trivial) rfl rfl sqA ?_) | (refine HO_k 12 rfl ?_; refine HO_callq rfl rfl rfl rfl (hc) (fun _ _ => rfl) (trivial) rfl rfl sqA ?_) | exact HO_seg rfl rfl | refine S1 ?_ | (refine S2 ?_; intro _) | (refine S3 ?_; intro _ _) | (refine S4 ?_; intro _ _ _) | (refine HO_g 2 rfl ?_; first | apply HO_a1 rfl | apply HO_o1 rfl) | refine S5 ?_ | (intro hb; try replace hb := simB hb; try exact kill hb))
  (refine SRt ?_; unfold RetQ; refine ⟨(), trivial, ?_, Keeps.nil⟩)
  rfl
 ·rw [hx] at hc
  by_cases hl : n ≤ m
  ·rw [decide_eq_true hl]
   refine Tri_of (N := Tryz.f101.ntmps) (c := bodyOf Tryz.f101) Tryz.func101 rfl rfl rfl rfl (fun w0 S0 => ?_)
   dsimp only [pfV]
   repeat' (first | refine SW ?_ | refine SD ?_ | (refine HO_k 12 rfl ?_; refine HO_callq rfl rfl rfl rfl (ho) (fun _ _ => rfl) (trivial) rfl rfl sqA ?_) | (refine HO_k 12 rfl ?_; refine HO_callq rfl rfl rfl rfl (hc) (fun _ _ => rfl) (trivial) rfl rfl sqA ?_) | (refine HO_k 12 rfl ?_; refine HO_callq rfl rfl rfl rfl (hm) (fun _ _ => rfl) (trivial) rfl rfl sqA ?_) | exact HO_seg rfl rfl | refine S1 ?_ | (refine S2 ?_; intro _) | (refine S3 ?_; intro _ _) | (refine S4 ?_; intro _ _ _) | (refine HO_g 2 rfl ?_; first | apply HO_a1 rfl | apply HO_o1 rfl) | refine S5 ?_ | (intro hb; try replace hb := simB hb; try exact kill hb))
   (refine SRt ?_; unfold RetQ; refine ⟨(), trivial, ?_, Keeps.nil⟩)
   rfl
  ·rw [decide_eq_false hl]
   refine Tri_of (N := Tryz.f101.ntmps) (c := bodyOf Tryz.f101) Tryz.func101 rfl rfl rfl rfl (fun w0 S0 => ?_)
   dsimp only [pfV]
   repeat' (first | refine SW ?_ | refine SD ?_ | (refine HO_k 12 rfl ?_; refine HO_callq rfl rfl rfl rfl (ho) (fun _ _ => rfl) (trivial) rfl rfl sqA ?_) | (refine HO_k 12 rfl ?_; refine HO_callq rfl rfl rfl rfl (hc) (fun _ _ => rfl) (trivial) rfl rfl sqA ?_) | (refine HO_k 12 rfl ?_; refine HO_callq rfl rfl rfl rfl (hm) (fun _ _ => rfl) (trivial) rfl rfl sqA ?_) | exact HO_seg rfl rfl | refine S1 ?_ | (refine S2 ?_; intro _) | (refine S3 ?_; intro _ _) | (refine S4 ?_; intro _ _ _) | (refine HO_g 2 rfl ?_; first | apply HO_a1 rfl | apply HO_o1 rfl) | refine S5 ?_ | (intro hb; try replace hb := simB hb; try exact kill hb))
   (refine SRt ?_; unfold RetQ; refine ⟨(), trivial, ?_, Keeps.nil⟩)
   rfl
def smV (l : List UInt8) (m : Nat) : Value := match smR l with
 | none => .tuple #[.int .i64 0, .bool false]
 | some n => .tuple #[.int .i64 n, .bool (decide ((n : Int) ≤ m))]
theorem digs_drop {l : List UInt8} {j n : Nat} {b : UInt8} (h : l[j]? = some b) : digs n (l.drop j) = if 48 ≤ b.toNat ∧ b.toNat ≤ 57 then digs (10 * n + (b.toNat - 48)) (l.drop (j + 1)) else none := by
 obtain ⟨hj, rfl⟩ := List.getElem?_eq_some_iff.1 h
 rw [List.drop_eq_getElem_cons hj]
 rfl
set_option maxHeartbeats 1000000000 in
theorem small_t (l : List UInt8) (m : Nat) : Tri Tryz.prog 227 [.string ⟨l.toArray⟩, .int .i64 m] [] [] (fun _ : Unit => True) (fun _ => smV l m) (fun _ => []) := by
 unfold smV
 by_cases h1 : l.length < 1
 ·rw [show smR l = none from if_pos (.inl h1)]
  refine Tri_of (N := Tryz.f227.ntmps) (c := bodyOf Tryz.f227) Tryz.func227 rfl rfl rfl rfl (fun w0 S0 => ?_)
  repeat' (first | refine SW ?_ | refine SD ?_ | (refine HO_k 8 rfl ?_; refine HO_slen rfl rfl rfl rfl rdA ?_) | exact HO_seg rfl rfl | refine S1 ?_ | (refine S2 ?_; intro _) | (refine S3 ?_; intro _ _) | (refine S4 ?_; intro _ _ _) | (refine HO_g 2 rfl ?_; first | apply HO_a1 rfl | apply HO_o1 rfl) | refine S5 ?_ | (intro hb; try replace hb := simB hb; try exact kill hb))
  (refine SRt ?_; unfold RetQ; refine ⟨(), trivial, ?_, Keeps.nil⟩)
  rfl
 by_cases h3 : 3 < l.length
 ·rw [show smR l = none from if_pos (.inr (.inl h3))]
  refine Tri_of (N := Tryz.f227.ntmps) (c := bodyOf Tryz.f227) Tryz.func227 rfl rfl rfl rfl (fun w0 S0 => ?_)
  repeat' (first | refine SW ?_ | refine SD ?_ | (refine HO_k 8 rfl ?_; refine HO_slen rfl rfl rfl rfl rdA ?_) | exact HO_seg rfl rfl | refine S1 ?_ | (refine S2 ?_; intro _) | (refine S3 ?_; intro _ _) | (refine S4 ?_; intro _ _ _) | (refine HO_g 2 rfl ?_; first | apply HO_a1 rfl | apply HO_o1 rfl) | refine S5 ?_ | (intro hb; try replace hb := simB hb; try exact kill hb))
  (refine SRt ?_; unfold RetQ; refine ⟨(), trivial, ?_, Keeps.nil⟩)
  rfl
 obtain ⟨b0, hb0⟩ : ∃ b, l[0]? = some b := ⟨l[0], List.getElem?_eq_getElem (by omega)⟩
 have hh : l.head? = some b0 := by rw [List.head?_eq_getElem?]; exact hb0
 have h48 : b0 = 48 ↔ (b0.toNat : Int) = 48 := ⟨fun h => by rw [h]; rfl, fun h => UInt8.toNat_inj.1 (by show b0.toNat = 48; omega)⟩
 by_cases hz : b0 = 48
 ·have hz' := h48.1 hz
  by_cases hl : 1 < l.length
  ·rw [show smR l = none from if_pos (.inr (.inr ⟨by rw [hh, hz], hl⟩))]
   refine Tri_of (N := Tryz.f227.ntmps) (c := bodyOf Tryz.f227) Tryz.func227 rfl rfl rfl rfl (fun w0 S0 => ?_)
   repeat' (first | refine SW ?_ | refine SD ?_ | (refine HO_k 8 rfl ?_; refine HO_slen rfl rfl rfl rfl rdA ?_) | (refine HO_k 17 rfl ?_; refine HO_sidx rfl rfl rfl (by omega) (hb0) rfl rfl rdA ?_) | exact HO_seg rfl rfl | refine S1 ?_ | (refine S2 ?_; intro _) | (refine S3 ?_; intro _ _) | (refine S4 ?_; intro _ _ _) | (refine HO_g 2 rfl ?_; first | apply HO_a1 rfl | apply HO_o1 rfl) | refine S5 ?_ | (intro hb; try replace hb := simB hb; try exact kill hb))
   (refine SRt ?_; unfold RetQ; refine ⟨(), trivial, ?_, Keeps.nil⟩)
   rfl
  have hsm : smR l = digs 0 l := if_neg (by omega)
  refine Tri_of (N := Tryz.f227.ntmps) (c := bodyOf Tryz.f227) Tryz.func227 rfl rfl rfl rfl (fun w0 S0 => ?_)
  repeat' (first | refine SW ?_ | refine SD ?_ | (refine HO_k 8 rfl ?_; refine HO_slen rfl rfl rfl rfl rdA ?_) | (refine HO_k 17 rfl ?_; refine HO_sidx rfl rfl rfl (by omega) (hb0) rfl rfl rdA ?_) | exact HO_seg rfl rfl | refine S1 ?_ | (refine S2 ?_; intro _) | (refine S3 ?_; intro _ _) | (refine S4 ?_; intro _ _ _) | (refine HO_g 2 rfl ?_; first | apply HO_a1 rfl | apply HO_o1 rfl) | refine S5 ?_ | (intro hb; try replace hb := simB hb; try exact kill hb))
  refine HC_loop (α := Nat × Nat) (fun x => x.1 ≤ l.length ∧ digs x.2 (l.drop x.1) = digs 0 l ∧ x.2 < 10 ^ x.1) (fun x => [(28, .int .i64 x.1), (6, .int .i64 x.2), (27, .int .i64 l.length), (1, .int .i64 m), (0, .string ⟨l.toArray⟩)]) (fun _ => []) (fun x => l.length - x.1) rfl (0, 0) ⟨Nat.zero_le _, rfl, by decide⟩ ⟨rfl, rfl, rfl, rfl, rfl, trivial⟩ rfl ?_
  rintro ⟨j, n⟩ ⟨hj, hd, hn⟩
  dsimp only at hj hd hn ⊢
  have hp : 10 ^ j ≤ 10 ^ 3 := Nat.pow_le_pow_right (by decide) (by omega)
  rcases Nat.lt_or_ge j l.length with hlt | hge
  ·obtain ⟨b, hb⟩ : ∃ b, l[j]? = some b := ⟨l[j], List.getElem?_eq_getElem hlt⟩
   have hbl := b.toNat_lt
   rw [digs_drop hb] at hd
   by_cases hlo : b.toNat < 48
   ·rw [if_neg (by omega)] at hd
    rw [hsm, ← hd]
    repeat' (first | refine SW ?_ | refine SD ?_ | (refine HO_k 8 rfl ?_; refine HO_slen rfl rfl rfl rfl rdA ?_) | (refine HO_k 17 rfl ?_; refine HO_sidx rfl rfl rfl (by omega) (hb) rfl rfl rdA ?_) | exact HO_seg rfl rfl | refine S1 ?_ | (refine S2 ?_; intro _) | (refine S3 ?_; intro _ _) | (refine S4 ?_; intro _ _ _) | (refine HO_g 2 rfl ?_; first | apply HO_a1 rfl | apply HO_o1 rfl) | refine S5 ?_ | (intro hb; try replace hb := simB hb; try exact kill hb))
    (refine SRt ?_; unfold RetQ; refine ⟨(), trivial, ?_, Keeps.nil⟩)
    rfl
   by_cases hhi : 57 < b.toNat
   ·rw [if_neg (by omega)] at hd
    rw [hsm, ← hd]
    repeat' (first | refine SW ?_ | refine SD ?_ | (refine HO_k 8 rfl ?_; refine HO_slen rfl rfl rfl rfl rdA ?_) | (refine HO_k 17 rfl ?_; refine HO_sidx rfl rfl rfl (by omega) (hb) rfl rfl rdA ?_) | exact HO_seg rfl rfl | refine S1 ?_ | (refine S2 ?_; intro _) | (refine S3 ?_; intro _ _) | (refine S4 ?_; intro _ _ _) | (refine HO_g 2 rfl ?_; first | apply HO_a1 rfl | apply HO_o1 rfl) | refine S5 ?_ | (intro hb; try replace hb := simB hb; try exact kill hb))
    (refine SRt ?_; unfold RetQ; refine ⟨(), trivial, ?_, Keeps.nil⟩)
    rfl
   rw [if_pos (by omega)] at hd
   have e : (10 * ((n : Nat) : Int) + ((b.toNat : Int) - 48)) = ((10 * n + (b.toNat - 48) : Nat) : Int) := by omega
   repeat' (first | refine SW ?_ | refine SD ?_ | (refine HO_k 8 rfl ?_; refine HO_slen rfl rfl rfl rfl rdA ?_) | (refine HO_k 17 rfl ?_; refine HO_sidx rfl rfl rfl (by omega) (hb) rfl rfl rdA ?_) | (with_reducible refine HO_rw (congrArg (Value.int .i64) e) ?_) | exact HO_seg rfl rfl | refine S1 ?_ | (refine S2 ?_; intro _) | (refine S3 ?_; intro _ _) | (refine S4 ?_; intro _ _ _) | (refine HO_g 2 rfl ?_; first | apply HO_a1 rfl | apply HO_o1 rfl) | refine S5 ?_ | (intro hb; try replace hb := simB hb; try exact kill hb))
   exact HX_at (j + 1, 10 * n + (b.toNat - 48)) ⟨⟨hlt, hd, by rw [Nat.pow_succ]; omega⟩, by show l.length - (j + 1) < l.length - j; omega⟩ ⟨rfl, rfl, rfl, rfl, rfl, trivial⟩ rfl
  ·obtain rfl : j = l.length := by omega
   rw [List.drop_length] at hd
   rw [hsm, ← hd]
   repeat' (first | refine SW ?_ | refine SD ?_ | (refine HO_k 8 rfl ?_; refine HO_slen rfl rfl rfl rfl rdA ?_) | exact HO_seg rfl rfl | refine S1 ?_ | (refine S2 ?_; intro _) | (refine S3 ?_; intro _ _) | (refine S4 ?_; intro _ _ _) | (refine HO_g 2 rfl ?_; first | apply HO_a1 rfl | apply HO_o1 rfl) | refine S5 ?_ | (intro hb; try replace hb := simB hb; try exact kill hb))
   (refine SRt ?_; unfold RetQ; refine ⟨(), trivial, ?_, Keeps.nil⟩)
   rfl
 ·have hz' : ¬ (b0.toNat : Int) = 48 := fun h => hz (h48.2 h)
  have hsm : smR l = digs 0 l := if_neg (by rw [hh]; intro h; rcases h with h | h | h; omega; omega; exact hz (Option.some.inj h.1))
  refine Tri_of (N := Tryz.f227.ntmps) (c := bodyOf Tryz.f227) Tryz.func227 rfl rfl rfl rfl (fun w0 S0 => ?_)
  repeat' (first | refine SW ?_ | refine SD ?_ | (refine HO_k 8 rfl ?_; refine HO_slen rfl rfl rfl rfl rdA ?_) | (refine HO_k 17 rfl ?_; refine HO_sidx rfl rfl rfl (by omega) (hb0) rfl rfl rdA ?_) | exact HO_seg rfl rfl | refine S1 ?_ | (refine S2 ?_; intro _) | (refine S3 ?_; intro _ _) | (refine S4 ?_; intro _ _ _) | (refine HO_g 2 rfl ?_; first | apply HO_a1 rfl | apply HO_o1 rfl) | refine S5 ?_ | (intro hb; try replace hb := simB hb; try exact kill hb))
  refine HC_loop (α := Nat × Nat) (fun x => x.1 ≤ l.length ∧ digs x.2 (l.drop x.1) = digs 0 l ∧ x.2 < 10 ^ x.1) (fun x => [(28, .int .i64 x.1), (6, .int .i64 x.2), (27, .int .i64 l.length), (1, .int .i64 m), (0, .string ⟨l.toArray⟩)]) (fun _ => []) (fun x => l.length - x.1) rfl (0, 0) ⟨Nat.zero_le _, rfl, by decide⟩ ⟨rfl, rfl, rfl, rfl, rfl, trivial⟩ rfl ?_
  rintro ⟨j, n⟩ ⟨hj, hd, hn⟩
  dsimp only at hj hd hn ⊢
  have hp : 10 ^ j ≤ 10 ^ 3 := Nat.pow_le_pow_right (by decide) (by omega)
  rcases Nat.lt_or_ge j l.length with hlt | hge
  ·obtain ⟨b, hb⟩ : ∃ b, l[j]? = some b := ⟨l[j], List.getElem?_eq_getElem hlt⟩
   have hbl := b.toNat_lt
   rw [digs_drop hb] at hd
   by_cases hlo : b.toNat < 48
   ·rw [if_neg (by omega)] at hd
    rw [hsm, ← hd]
    repeat' (first | refine SW ?_ | refine SD ?_ | (refine HO_k 8 rfl ?_; refine HO_slen rfl rfl rfl rfl rdA ?_) | (refine HO_k 17 rfl ?_; refine HO_sidx rfl rfl rfl (by omega) (hb) rfl rfl rdA ?_) | exact HO_seg rfl rfl | refine S1 ?_ | (refine S2 ?_; intro _) | (refine S3 ?_; intro _ _) | (refine S4 ?_; intro _ _ _) | (refine HO_g 2 rfl ?_; first | apply HO_a1 rfl | apply HO_o1 rfl) | refine S5 ?_ | (intro hb; try replace hb := simB hb; try exact kill hb))
    (refine SRt ?_; unfold RetQ; refine ⟨(), trivial, ?_, Keeps.nil⟩)
    rfl
   by_cases hhi : 57 < b.toNat
   ·rw [if_neg (by omega)] at hd
    rw [hsm, ← hd]
    repeat' (first | refine SW ?_ | refine SD ?_ | (refine HO_k 8 rfl ?_; refine HO_slen rfl rfl rfl rfl rdA ?_) | (refine HO_k 17 rfl ?_; refine HO_sidx rfl rfl rfl (by omega) (hb) rfl rfl rdA ?_) | exact HO_seg rfl rfl | refine S1 ?_ | (refine S2 ?_; intro _) | (refine S3 ?_; intro _ _) | (refine S4 ?_; intro _ _ _) | (refine HO_g 2 rfl ?_; first | apply HO_a1 rfl | apply HO_o1 rfl) | refine S5 ?_ | (intro hb; try replace hb := simB hb; try exact kill hb))
    (refine SRt ?_; unfold RetQ; refine ⟨(), trivial, ?_, Keeps.nil⟩)
    rfl
   rw [if_pos (by omega)] at hd
   have e : (10 * ((n : Nat) : Int) + ((b.toNat : Int) - 48)) = ((10 * n + (b.toNat - 48) : Nat) : Int) := by omega
   repeat' (first | refine SW ?_ | refine SD ?_ | (refine HO_k 8 rfl ?_; refine HO_slen rfl rfl rfl rfl rdA ?_) | (refine HO_k 17 rfl ?_; refine HO_sidx rfl rfl rfl (by omega) (hb) rfl rfl rdA ?_) | (with_reducible refine HO_rw (congrArg (Value.int .i64) e) ?_) | exact HO_seg rfl rfl | refine S1 ?_ | (refine S2 ?_; intro _) | (refine S3 ?_; intro _ _) | (refine S4 ?_; intro _ _ _) | (refine HO_g 2 rfl ?_; first | apply HO_a1 rfl | apply HO_o1 rfl) | refine S5 ?_ | (intro hb; try replace hb := simB hb; try exact kill hb))
   exact HX_at (j + 1, 10 * n + (b.toNat - 48)) ⟨⟨hlt, hd, by rw [Nat.pow_succ]; omega⟩, by show l.length - (j + 1) < l.length - j; omega⟩ ⟨rfl, rfl, rfl, rfl, rfl, trivial⟩ rfl
  ·obtain rfl : j = l.length := by omega
   rw [List.drop_length] at hd
   rw [hsm, ← hd]
   repeat' (first | refine SW ?_ | refine SD ?_ | (refine HO_k 8 rfl ?_; refine HO_slen rfl rfl rfl rfl rdA ?_) | exact HO_seg rfl rfl | refine S1 ?_ | (refine S2 ?_; intro _) | (refine S3 ?_; intro _ _) | (refine S4 ?_; intro _ _ _) | (refine HO_g 2 rfl ?_; first | apply HO_a1 rfl | apply HO_o1 rfl) | refine S5 ?_ | (intro hb; try replace hb := simB hb; try exact kill hb))
   (refine SRt ?_; unfold RetQ; refine ⟨(), trivial, ?_, Keeps.nil⟩)
   rfl
@[reducible] def ownT (x : OA) (l : List (List UInt8)) : SL := own idE 9 1 x.1 l.length x.2 (l.map strE)
end Go.Proofs.YtbhiojedmkcfoaaGreatDoor
