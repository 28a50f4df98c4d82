/- Part of a proof of many texts: what the theorem at its end leans on. -/
import Derived.Test.YtbhiojedmkcfoaaGreatDoorZAdP
namespace Go.Proofs.YtbhiojedmkcfoaaGreatDoor
set_option linter.unusedVariables false
set_option linter.unusedSimpArgs false
open Go.RowKit
attribute [local irreducible] HC HX HO Tri eP adr
theorem and_255 (n : Nat) : bAnd .u32 ((n : Nat) : Int) 255 = ((n % 256 : Nat) : Int) := by
 have h : (BitVec.ofInt IntKind.u32.bits ((n : Nat) : Int) &&& BitVec.ofInt IntKind.u32.bits 255).toNat = n % 256 := by
  rw [BitVec.ofInt_natCast, show (255 : Int) = ((255 : Nat) : Int) from rfl, BitVec.ofInt_natCast, BitVec.toNat_and, BitVec.toNat_ofNat, BitVec.toNat_ofNat, show 2 ^ IntKind.u32.bits = 4294967296 from rfl, show 255 % 4294967296 = 2 ^ 8 - 1 from rfl, Nat.and_two_pow_sub_one_eq_mod]
  omega
 unfold bAnd
 rw [h]
 show ((n % 256 : Nat) : Int) % 4294967296 = _
 omega
theorem shr_u32 (k q : Nat) (hq : q ≤ 32) : bShr .u32 (k : Int) q = ((k / 2 ^ q : Nat) : Int) := by
 unfold bShr
 have : min q IntKind.u32.bits = q := by simp [IntKind.bits]; omega
 rw [this, Int.fdiv_eq_ediv_of_nonneg _ (Int.pow_nonneg (by decide))]
 simp
def smV (l : List UInt8) (m : Nat) : Value := match smR l with
 | none => .tuple #[.int .i64 0, .bool false]
 | some n => .tuple #[.int .i64 n, .bool (decide ((n : Int) ≤ m))]
theorem digs_drop {l : List UInt8} {j n : Nat} {b : UInt8} (h : l[j]? = some b) : digs n (l.drop j) = if 48 ≤ b.toNat ∧ b.toNat ≤ 57 then digs (10 * n + (b.toNat - 48)) (l.drop (j + 1)) else none := by
 obtain ⟨hj, rfl⟩ := List.getElem?_eq_some_iff.1 h
 rw [List.drop_eq_getElem_cons hj]
 rfl
set_option maxHeartbeats 8000000 in
theorem small_t (l : List UInt8) (m : Nat) : Tri Tryz.prog 227 [.string ⟨l.toArray⟩, .int .i64 m] [] [] (fun _ : Unit => True) (fun _ => smV l m) (fun _ => []) := by
 unfold smV
 by_cases h1 : l.length < 1
 ·rw [show smR l = none from if_pos (.inl h1)]
  refine Tri_of (N := Tryz.f227.ntmps) (c := bodyOf Tryz.f227) Tryz.func227 rfl rfl rfl rfl (fun w0 S0 => ?_)
  repeat' (first | refine SW ?_ | refine SD ?_ | (refine HO_k 8 rfl ?_; refine HO_slen rfl rfl rfl rfl rdA ?_) | exact HO_seg rfl rfl | refine S1 ?_ | (refine S2 ?_; intro _) | (refine S3 ?_; intro _ _) | (refine S4 ?_; intro _ _ _) | (refine HO_g 2 rfl ?_; first | apply HO_a1 rfl | apply HO_o1 rfl) | refine S5 ?_ | (intro hb; try replace hb := simB hb; try exact kill hb))
  (refine SR ?_; unfold RetQ; refine ⟨(), trivial, ?_, Keeps.nil⟩)
  rfl
 by_cases h3 : 3 < l.length
 ·rw [show smR l = none from if_pos (.inr (.inl h3))]
  refine Tri_of (N := Tryz.f227.ntmps) (c := bodyOf Tryz.f227) Tryz.func227 rfl rfl rfl rfl (fun w0 S0 => ?_)
  repeat' (first | refine SW ?_ | refine SD ?_ | (refine HO_k 8 rfl ?_; refine HO_slen rfl rfl rfl rfl rdA ?_) | exact HO_seg rfl rfl | refine S1 ?_ | (refine S2 ?_; intro _) | (refine S3 ?_; intro _ _) | (refine S4 ?_; intro _ _ _) | (refine HO_g 2 rfl ?_; first | apply HO_a1 rfl | apply HO_o1 rfl) | refine S5 ?_ | (intro hb; try replace hb := simB hb; try exact kill hb))
  (refine SR ?_; unfold RetQ; refine ⟨(), trivial, ?_, Keeps.nil⟩)
  rfl
 obtain ⟨b0, hb0⟩ : ∃ b, l[0]? = some b := ⟨l[0], List.getElem?_eq_getElem (by omega)⟩
 have hh : l.head? = some b0 := by rw [List.head?_eq_getElem?]; exact hb0
 have h48 : b0 = 48 ↔ (b0.toNat : Int) = 48 := ⟨fun h => by rw [h]; rfl, fun h => UInt8.toNat_inj.1 (by show b0.toNat = 48; omega)⟩
 by_cases hz : b0 = 48
 ·have hz' := h48.1 hz
  by_cases hl : 1 < l.length
  ·rw [show smR l = none from if_pos (.inr (.inr ⟨by rw [hh, hz], hl⟩))]
   refine Tri_of (N := Tryz.f227.ntmps) (c := bodyOf Tryz.f227) Tryz.func227 rfl rfl rfl rfl (fun w0 S0 => ?_)
   repeat' (first | refine SW ?_ | refine SD ?_ | (refine HO_k 8 rfl ?_; refine HO_slen rfl rfl rfl rfl rdA ?_) | (refine HO_k 17 rfl ?_; refine HO_sidx rfl rfl rfl (by omega) (hb0) rfl rfl rdA ?_) | exact HO_seg rfl rfl | refine S1 ?_ | (refine S2 ?_; intro _) | (refine S3 ?_; intro _ _) | (refine S4 ?_; intro _ _ _) | (refine HO_g 2 rfl ?_; first | apply HO_a1 rfl | apply HO_o1 rfl) | refine S5 ?_ | (intro hb; try replace hb := simB hb; try exact kill hb))
   (refine SR ?_; unfold RetQ; refine ⟨(), trivial, ?_, Keeps.nil⟩)
   rfl
  have hsm : smR l = digs 0 l := if_neg (by omega)
  refine Tri_of (N := Tryz.f227.ntmps) (c := bodyOf Tryz.f227) Tryz.func227 rfl rfl rfl rfl (fun w0 S0 => ?_)
  repeat' (first | refine SW ?_ | refine SD ?_ | (refine HO_k 8 rfl ?_; refine HO_slen rfl rfl rfl rfl rdA ?_) | (refine HO_k 17 rfl ?_; refine HO_sidx rfl rfl rfl (by omega) (hb0) rfl rfl rdA ?_) | exact HO_seg rfl rfl | refine S1 ?_ | (refine S2 ?_; intro _) | (refine S3 ?_; intro _ _) | (refine S4 ?_; intro _ _ _) | (refine HO_g 2 rfl ?_; first | apply HO_a1 rfl | apply HO_o1 rfl) | refine S5 ?_ | (intro hb; try replace hb := simB hb; try exact kill hb))
  refine HC_loop (α := Nat × Nat) (fun x => x.1 ≤ l.length ∧ digs x.2 (l.drop x.1) = digs 0 l ∧ x.2 < 10 ^ x.1) (fun x => [(28, .int .i64 x.1), (6, .int .i64 x.2), (27, .int .i64 l.length), (1, .int .i64 m), (0, .string ⟨l.toArray⟩)]) (fun _ => []) (fun x => l.length - x.1) rfl (0, 0) ⟨Nat.zero_le _, rfl, by decide⟩ ⟨rfl, rfl, rfl, rfl, rfl, trivial⟩ rfl ?_
  rintro ⟨j, n⟩ ⟨hj, hd, hn⟩
  dsimp only at hj hd hn ⊢
  have hp : 10 ^ j ≤ 10 ^ 3 := Nat.pow_le_pow_right (by decide) (by omega)
  rcases Nat.lt_or_ge j l.length with hlt | hge
  ·obtain ⟨b, hb⟩ : ∃ b, l[j]? = some b := ⟨l[j], List.getElem?_eq_getElem hlt⟩
   have hbl := b.toNat_lt
   rw [digs_drop hb] at hd
   by_cases hlo : b.toNat < 48
   ·rw [if_neg (by omega)] at hd
    rw [hsm, ← hd]
    repeat' (first | refine SW ?_ | refine SD ?_ | (refine HO_k 8 rfl ?_; refine HO_slen rfl rfl rfl rfl rdA ?_) | (refine HO_k 17 rfl ?_; refine HO_sidx rfl rfl rfl (by omega) (hb) rfl rfl rdA ?_) | exact HO_seg rfl rfl | refine S1 ?_ | (refine S2 ?_; intro _) | (refine S3 ?_; intro _ _) | (refine S4 ?_; intro _ _ _) | (refine HO_g 2 rfl ?_; first | apply HO_a1 rfl | apply HO_o1 rfl) | refine S5 ?_ | (intro hb; try replace hb := simB hb; try exact kill hb))
    (refine SR ?_; unfold RetQ; refine ⟨(), trivial, ?_, Keeps.nil⟩)
    rfl
   by_cases hhi : 57 < b.toNat
   ·rw [if_neg (by omega)] at hd
    rw [hsm, ← hd]
    repeat' (first | refine SW ?_ | refine SD ?_ | (refine HO_k 8 rfl ?_; refine HO_slen rfl rfl rfl rfl rdA ?_) | (refine HO_k 17 rfl ?_; refine HO_sidx rfl rfl rfl (by omega) (hb) rfl rfl rdA ?_) | exact HO_seg rfl rfl | refine S1 ?_ | (refine S2 ?_; intro _) | (refine S3 ?_; intro _ _) | (refine S4 ?_; intro _ _ _) | (refine HO_g 2 rfl ?_; first | apply HO_a1 rfl | apply HO_o1 rfl) | refine S5 ?_ | (intro hb; try replace hb := simB hb; try exact kill hb))
    (refine SR ?_; unfold RetQ; refine ⟨(), trivial, ?_, Keeps.nil⟩)
    rfl
   rw [if_pos (by omega)] at hd
   have e : (10 * ((n : Nat) : Int) + ((b.toNat : Int) - 48)) = ((10 * n + (b.toNat - 48) : Nat) : Int) := by omega
   repeat' (first | refine SW ?_ | refine SD ?_ | (refine HO_k 8 rfl ?_; refine HO_slen rfl rfl rfl rfl rdA ?_) | (refine HO_k 17 rfl ?_; refine HO_sidx rfl rfl rfl (by omega) (hb) rfl rfl rdA ?_) | (with_reducible refine HO_rw (congrArg (Value.int .i64) e) ?_) | exact HO_seg rfl rfl | refine S1 ?_ | (refine S2 ?_; intro _) | (refine S3 ?_; intro _ _) | (refine S4 ?_; intro _ _ _) | (refine HO_g 2 rfl ?_; first | apply HO_a1 rfl | apply HO_o1 rfl) | refine S5 ?_ | (intro hb; try replace hb := simB hb; try exact kill hb))
   exact HX_at (j + 1, 10 * n + (b.toNat - 48)) ⟨⟨hlt, hd, by rw [Nat.pow_succ]; omega⟩, by show l.length - (j + 1) < l.length - j; omega⟩ ⟨rfl, rfl, rfl, rfl, rfl, trivial⟩ rfl
  ·obtain rfl : j = l.length := by omega
   rw [List.drop_length] at hd
   rw [hsm, ← hd]
   repeat' (first | refine SW ?_ | refine SD ?_ | (refine HO_k 8 rfl ?_; refine HO_slen rfl rfl rfl rfl rdA ?_) | exact HO_seg rfl rfl | refine S1 ?_ | (refine S2 ?_; intro _) | (refine S3 ?_; intro _ _) | (refine S4 ?_; intro _ _ _) | (refine HO_g 2 rfl ?_; first | apply HO_a1 rfl | apply HO_o1 rfl) | refine S5 ?_ | (intro hb; try replace hb := simB hb; try exact kill hb))
   (refine SR ?_; unfold RetQ; refine ⟨(), trivial, ?_, Keeps.nil⟩)
   rfl
 ·have hz' : ¬ (b0.toNat : Int) = 48 := fun h => hz (h48.2 h)
  have hsm : smR l = digs 0 l := if_neg (by rw [hh]; intro h; rcases h with h | h | h; omega; omega; exact hz (Option.some.inj h.1))
  refine Tri_of (N := Tryz.f227.ntmps) (c := bodyOf Tryz.f227) Tryz.func227 rfl rfl rfl rfl (fun w0 S0 => ?_)
  repeat' (first | refine SW ?_ | refine SD ?_ | (refine HO_k 8 rfl ?_; refine HO_slen rfl rfl rfl rfl rdA ?_) | (refine HO_k 17 rfl ?_; refine HO_sidx rfl rfl rfl (by omega) (hb0) rfl rfl rdA ?_) | exact HO_seg rfl rfl | refine S1 ?_ | (refine S2 ?_; intro _) | (refine S3 ?_; intro _ _) | (refine S4 ?_; intro _ _ _) | (refine HO_g 2 rfl ?_; first | apply HO_a1 rfl | apply HO_o1 rfl) | refine S5 ?_ | (intro hb; try replace hb := simB hb; try exact kill hb))
  refine HC_loop (α := Nat × Nat) (fun x => x.1 ≤ l.length ∧ digs x.2 (l.drop x.1) = digs 0 l ∧ x.2 < 10 ^ x.1) (fun x => [(28, .int .i64 x.1), (6, .int .i64 x.2), (27, .int .i64 l.length), (1, .int .i64 m), (0, .string ⟨l.toArray⟩)]) (fun _ => []) (fun x => l.length - x.1) rfl (0, 0) ⟨Nat.zero_le _, rfl, by decide⟩ ⟨rfl, rfl, rfl, rfl, rfl, trivial⟩ rfl ?_
  rintro ⟨j, n⟩ ⟨hj, hd, hn⟩
  dsimp only at hj hd hn ⊢
  have hp : 10 ^ j ≤ 10 ^ 3 := Nat.pow_le_pow_right (by decide) (by omega)
  rcases Nat.lt_or_ge j l.length with hlt | hge
  ·obtain ⟨b, hb⟩ : ∃ b, l[j]? = some b := ⟨l[j], List.getElem?_eq_getElem hlt⟩
   have hbl := b.toNat_lt
   rw [digs_drop hb] at hd
   by_cases hlo : b.toNat < 48
   ·rw [if_neg (by omega)] at hd
    rw [hsm, ← hd]
    repeat' (first | refine SW ?_ | refine SD ?_ | (refine HO_k 8 rfl ?_; refine HO_slen rfl rfl rfl rfl rdA ?_) | (refine HO_k 17 rfl ?_; refine HO_sidx rfl rfl rfl (by omega) (hb) rfl rfl rdA ?_) | exact HO_seg rfl rfl | refine S1 ?_ | (refine S2 ?_; intro _) | (refine S3 ?_; intro _ _) | (refine S4 ?_; intro _ _ _) | (refine HO_g 2 rfl ?_; first | apply HO_a1 rfl | apply HO_o1 rfl) | refine S5 ?_ | (intro hb; try replace hb := simB hb; try exact kill hb))
    (refine SR ?_; unfold RetQ; refine ⟨(), trivial, ?_, Keeps.nil⟩)
    rfl
   by_cases hhi : 57 < b.toNat
   ·rw [if_neg (by omega)] at hd
    rw [hsm, ← hd]
    repeat' (first | refine SW ?_ | refine SD ?_ | (refine HO_k 8 rfl ?_; refine HO_slen rfl rfl rfl rfl rdA ?_) | (refine HO_k 17 rfl ?_; refine HO_sidx rfl rfl rfl (by omega) (hb) rfl rfl rdA ?_) | exact HO_seg rfl rfl | refine S1 ?_ | (refine S2 ?_; intro _) | (refine S3 ?_; intro _ _) | (refine S4 ?_; intro _ _ _) | (refine HO_g 2 rfl ?_; first | apply HO_a1 rfl | apply HO_o1 rfl) | refine S5 ?_ | (intro hb; try replace hb := simB hb; try exact kill hb))
    (refine SR ?_; unfold RetQ; refine ⟨(), trivial, ?_, Keeps.nil⟩)
    rfl
   rw [if_pos (by omega)] at hd
   have e : (10 * ((n : Nat) : Int) + ((b.toNat : Int) - 48)) = ((10 * n + (b.toNat - 48) : Nat) : Int) := by omega
   repeat' (first | refine SW ?_ | refine SD ?_ | (refine HO_k 8 rfl ?_; refine HO_slen rfl rfl rfl rfl rdA ?_) | (refine HO_k 17 rfl ?_; refine HO_sidx rfl rfl rfl (by omega) (hb) rfl rfl rdA ?_) | (with_reducible refine HO_rw (congrArg (Value.int .i64) e) ?_) | exact HO_seg rfl rfl | refine S1 ?_ | (refine S2 ?_; intro _) | (refine S3 ?_; intro _ _) | (refine S4 ?_; intro _ _ _) | (refine HO_g 2 rfl ?_; first | apply HO_a1 rfl | apply HO_o1 rfl) | refine S5 ?_ | (intro hb; try replace hb := simB hb; try exact kill hb))
   exact HX_at (j + 1, 10 * n + (b.toNat - 48)) ⟨⟨hlt, hd, by rw [Nat.pow_succ]; omega⟩, by show l.length - (j + 1) < l.length - j; omega⟩ ⟨rfl, rfl, rfl, rfl, rfl, trivial⟩ rfl
  ·obtain rfl : j = l.length := by omega
   rw [List.drop_length] at hd
   rw [hsm, ← hd]
   repeat' (first | refine SW ?_ | refine SD ?_ | (refine HO_k 8 rfl ?_; refine HO_slen rfl rfl rfl rfl rdA ?_) | exact HO_seg rfl rfl | refine S1 ?_ | (refine S2 ?_; intro _) | (refine S3 ?_; intro _ _) | (refine S4 ?_; intro _ _ _) | (refine HO_g 2 rfl ?_; first | apply HO_a1 rfl | apply HO_o1 rfl) | refine S5 ?_ | (intro hb; try replace hb := simB hb; try exact kill hb))
   (refine SR ?_; unfold RetQ; refine ⟨(), trivial, ?_, Keeps.nil⟩)
   rfl
def smI (l : List UInt8) (m : Nat) : Value := match smR l with
 | none => .int .i64 (-1)
 | some n => .int .i64 (if (m : Int) < n then -1 else n)
set_option maxHeartbeats 8000000 in
theorem rsmall_t (l : List UInt8) (m : Nat) : Tri Tryz.prog 144 [.string ⟨l.toArray⟩, .int .i64 m] [] [] (fun _ : Unit => True) (fun _ => smI l m) (fun _ => []) := by
 unfold smI
 by_cases h1 : l.length < 1
 ·rw [show smR l = none from if_pos (.inl h1)]
  refine Tri_of (N := Tryz.f144.ntmps) (c := bodyOf Tryz.f144) Tryz.func144 rfl rfl rfl rfl (fun w0 S0 => ?_)
  repeat' (first | refine SW ?_ | refine SD ?_ | (refine HO_k 8 rfl ?_; refine HO_slen rfl rfl rfl rfl rdA ?_) | exact HO_seg rfl rfl | refine S1 ?_ | (refine S2 ?_; intro _) | (refine S3 ?_; intro _ _) | (refine S4 ?_; intro _ _ _) | (refine HO_g 2 rfl ?_; first | apply HO_a1 rfl | apply HO_o1 rfl) | refine S5 ?_ | (intro hb; try replace hb := simB hb; try exact kill hb))
  (refine SR ?_; unfold RetQ; refine ⟨(), trivial, ?_, Keeps.nil⟩)
  rfl
 by_cases h3 : 3 < l.length
 ·rw [show smR l = none from if_pos (.inr (.inl h3))]
  refine Tri_of (N := Tryz.f144.ntmps) (c := bodyOf Tryz.f144) Tryz.func144 rfl rfl rfl rfl (fun w0 S0 => ?_)
  repeat' (first | refine SW ?_ | refine SD ?_ | (refine HO_k 8 rfl ?_; refine HO_slen rfl rfl rfl rfl rdA ?_) | exact HO_seg rfl rfl | refine S1 ?_ | (refine S2 ?_; intro _) | (refine S3 ?_; intro _ _) | (refine S4 ?_; intro _ _ _) | (refine HO_g 2 rfl ?_; first | apply HO_a1 rfl | apply HO_o1 rfl) | refine S5 ?_ | (intro hb; try replace hb := simB hb; try exact kill hb))
  (refine SR ?_; unfold RetQ; refine ⟨(), trivial, ?_, Keeps.nil⟩)
  rfl
 obtain ⟨b0, hb0⟩ : ∃ b, l[0]? = some b := ⟨l[0], List.getElem?_eq_getElem (by omega)⟩
 have hh : l.head? = some b0 := by rw [List.head?_eq_getElem?]; exact hb0
 have h48 : b0 = 48 ↔ (b0.toNat : Int) = 48 := ⟨fun h => by rw [h]; rfl, fun h => UInt8.toNat_inj.1 (by show b0.toNat = 48; omega)⟩
 by_cases hz : b0 = 48
 ·have hz' := h48.1 hz
  by_cases hl : 1 < l.length
  ·rw [show smR l = none from if_pos (.inr (.inr ⟨by rw [hh, hz], hl⟩))]
   refine Tri_of (N := Tryz.f144.ntmps) (c := bodyOf Tryz.f144) Tryz.func144 rfl rfl rfl rfl (fun w0 S0 => ?_)
   repeat' (first | refine SW ?_ | refine SD ?_ | (refine HO_k 8 rfl ?_; refine HO_slen rfl rfl rfl rfl rdA ?_) | (refine HO_k 17 rfl ?_; refine HO_sidx rfl rfl rfl (by omega) (hb0) rfl rfl rdA ?_) | exact HO_seg rfl rfl | refine S1 ?_ | (refine S2 ?_; intro _) | (refine S3 ?_; intro _ _) | (refine S4 ?_; intro _ _ _) | (refine HO_g 2 rfl ?_; first | apply HO_a1 rfl | apply HO_o1 rfl) | refine S5 ?_ | (intro hb; try replace hb := simB hb; try exact kill hb))
   (refine SR ?_; unfold RetQ; refine ⟨(), trivial, ?_, Keeps.nil⟩)
   rfl
  have hsm : smR l = digs 0 l := if_neg (by omega)
  refine Tri_of (N := Tryz.f144.ntmps) (c := bodyOf Tryz.f144) Tryz.func144 rfl rfl rfl rfl (fun w0 S0 => ?_)
  repeat' (first | refine SW ?_ | refine SD ?_ | (refine HO_k 8 rfl ?_; refine HO_slen rfl rfl rfl rfl rdA ?_) | (refine HO_k 17 rfl ?_; refine HO_sidx rfl rfl rfl (by omega) (hb0) rfl rfl rdA ?_) | exact HO_seg rfl rfl | refine S1 ?_ | (refine S2 ?_; intro _) | (refine S3 ?_; intro _ _) | (refine S4 ?_; intro _ _ _) | (refine HO_g 2 rfl ?_; first | apply HO_a1 rfl | apply HO_o1 rfl) | refine S5 ?_ | (intro hb; try replace hb := simB hb; try exact kill hb))
  refine HC_loop (α := Nat × Nat) (fun x => x.1 ≤ l.length ∧ digs x.2 (l.drop x.1) = digs 0 l ∧ x.2 < 10 ^ x.1) (fun x => [(6, .int .i64 x.1), (5, .int .i64 x.2), (1, .int .i64 m), (0, .string ⟨l.toArray⟩)]) (fun _ => []) (fun x => l.length - x.1) rfl (0, 0) ⟨Nat.zero_le _, rfl, by decide⟩ ⟨rfl, rfl, rfl, rfl, trivial⟩ rfl ?_
  rintro ⟨j, n⟩ ⟨hj, hd, hn⟩
  dsimp only at hj hd hn ⊢
  have hp : 10 ^ j ≤ 10 ^ 3 := Nat.pow_le_pow_right (by decide) (by omega)
  rcases Nat.lt_or_ge j l.length with hlt | hge
  ·obtain ⟨b, hb⟩ : ∃ b, l[j]? = some b := ⟨l[j], List.getElem?_eq_getElem hlt⟩
   have hbl := b.toNat_lt
   rw [digs_drop hb] at hd
   by_cases hlo : b.toNat < 48
   ·rw [if_neg (by omega)] at hd
    rw [hsm, ← hd]
    repeat' (first | refine SW ?_ | refine SD ?_ | (refine HO_k 8 rfl ?_; refine HO_slen rfl rfl rfl rfl rdA ?_) | (refine HO_k 17 rfl ?_; refine HO_sidx rfl rfl rfl (by omega) (hb) rfl rfl rdA ?_) | exact HO_seg rfl rfl | refine S1 ?_ | (refine S2 ?_; intro _) | (refine S3 ?_; intro _ _) | (refine S4 ?_; intro _ _ _) | (refine HO_g 2 rfl ?_; first | apply HO_a1 rfl | apply HO_o1 rfl) | refine S5 ?_ | (intro hb; try replace hb := simB hb; try exact kill hb))
    (refine SR ?_; unfold RetQ; refine ⟨(), trivial, ?_, Keeps.nil⟩)
    rfl
   by_cases hhi : 57 < b.toNat
   ·rw [if_neg (by omega)] at hd
    rw [hsm, ← hd]
    repeat' (first | refine SW ?_ | refine SD ?_ | (refine HO_k 8 rfl ?_; refine HO_slen rfl rfl rfl rfl rdA ?_) | (refine HO_k 17 rfl ?_; refine HO_sidx rfl rfl rfl (by omega) (hb) rfl rfl rdA ?_) | exact HO_seg rfl rfl | refine S1 ?_ | (refine S2 ?_; intro _) | (refine S3 ?_; intro _ _) | (refine S4 ?_; intro _ _ _) | (refine HO_g 2 rfl ?_; first | apply HO_a1 rfl | apply HO_o1 rfl) | refine S5 ?_ | (intro hb; try replace hb := simB hb; try exact kill hb))
    (refine SR ?_; unfold RetQ; refine ⟨(), trivial, ?_, Keeps.nil⟩)
    rfl
   rw [if_pos (by omega)] at hd
   have e : (10 * ((n : Nat) : Int) + ((b.toNat : Int) - 48)) = ((10 * n + (b.toNat - 48) : Nat) : Int) := by omega
   repeat' (first | refine SW ?_ | refine SD ?_ | (refine HO_k 8 rfl ?_; refine HO_slen rfl rfl rfl rfl rdA ?_) | (refine HO_k 17 rfl ?_; refine HO_sidx rfl rfl rfl (by omega) (hb) rfl rfl rdA ?_) | (with_reducible refine HO_rw (congrArg (Value.int .i64) e) ?_) | exact HO_seg rfl rfl | refine S1 ?_ | (refine S2 ?_; intro _) | (refine S3 ?_; intro _ _) | (refine S4 ?_; intro _ _ _) | (refine HO_g 2 rfl ?_; first | apply HO_a1 rfl | apply HO_o1 rfl) | refine S5 ?_ | (intro hb; try replace hb := simB hb; try exact kill hb))
   exact HX_at (j + 1, 10 * n + (b.toNat - 48)) ⟨⟨hlt, hd, by rw [Nat.pow_succ]; omega⟩, by show l.length - (j + 1) < l.length - j; omega⟩ ⟨rfl, rfl, rfl, rfl, trivial⟩ rfl
  ·obtain rfl : j = l.length := by omega
   rw [List.drop_length] at hd
   rw [hsm, ← hd]
   by_cases hm : (m : Int) < n
   ·simp only [digs, if_pos hm]
    repeat' (first | refine SW ?_ | refine SD ?_ | (refine HO_k 8 rfl ?_; refine HO_slen rfl rfl rfl rfl rdA ?_) | exact HO_seg rfl rfl | refine S1 ?_ | (refine S2 ?_; intro _) | (refine S3 ?_; intro _ _) | (refine S4 ?_; intro _ _ _) | (refine HO_g 2 rfl ?_; first | apply HO_a1 rfl | apply HO_o1 rfl) | refine S5 ?_ | (intro hb; try replace hb := simB hb; try exact kill hb))
    (refine SR ?_; unfold RetQ; refine ⟨(), trivial, ?_, Keeps.nil⟩)
    rfl
   ·simp only [digs, if_neg hm]
    repeat' (first | refine SW ?_ | refine SD ?_ | (refine HO_k 8 rfl ?_; refine HO_slen rfl rfl rfl rfl rdA ?_) | exact HO_seg rfl rfl | refine S1 ?_ | (refine S2 ?_; intro _) | (refine S3 ?_; intro _ _) | (refine S4 ?_; intro _ _ _) | (refine HO_g 2 rfl ?_; first | apply HO_a1 rfl | apply HO_o1 rfl) | refine S5 ?_ | (intro hb; try replace hb := simB hb; try exact kill hb))
    (refine SR ?_; unfold RetQ; refine ⟨(), trivial, ?_, Keeps.nil⟩)
    rfl
 ·have hz' : ¬ (b0.toNat : Int) = 48 := fun h => hz (h48.2 h)
  have hsm : smR l = digs 0 l := if_neg (by rw [hh]; intro h; rcases h with h | h | h; omega; omega; exact hz (Option.some.inj h.1))
  refine Tri_of (N := Tryz.f144.ntmps) (c := bodyOf Tryz.f144) Tryz.func144 rfl rfl rfl rfl (fun w0 S0 => ?_)
  repeat' (first | refine SW ?_ | refine SD ?_ | (refine HO_k 8 rfl ?_; refine HO_slen rfl rfl rfl rfl rdA ?_) | (refine HO_k 17 rfl ?_; refine HO_sidx rfl rfl rfl (by omega) (hb0) rfl rfl rdA ?_) | exact HO_seg rfl rfl | refine S1 ?_ | (refine S2 ?_; intro _) | (refine S3 ?_; intro _ _) | (refine S4 ?_; intro _ _ _) | (refine HO_g 2 rfl ?_; first | apply HO_a1 rfl | apply HO_o1 rfl) | refine S5 ?_ | (intro hb; try replace hb := simB hb; try exact kill hb))
  refine HC_loop (α := Nat × Nat) (fun x => x.1 ≤ l.length ∧ digs x.2 (l.drop x.1) = digs 0 l ∧ x.2 < 10 ^ x.1) (fun x => [(6, .int .i64 x.1), (5, .int .i64 x.2), (1, .int .i64 m), (0, .string ⟨l.toArray⟩)]) (fun _ => []) (fun x => l.length - x.1) rfl (0, 0) ⟨Nat.zero_le _, rfl, by decide⟩ ⟨rfl, rfl, rfl, rfl, trivial⟩ rfl ?_
  rintro ⟨j, n⟩ ⟨hj, hd, hn⟩
  dsimp only at hj hd hn ⊢
  have hp : 10 ^ j ≤ 10 ^ 3 := Nat.pow_le_pow_right (by decide) (by omega)
  rcases Nat.lt_or_ge j l.length with hlt | hge
  ·obtain ⟨b, hb⟩ : ∃ b, l[j]? = some b := ⟨l[j], List.getElem?_eq_getElem hlt⟩
   have hbl := b.toNat_lt
   rw [digs_drop hb] at hd
   by_cases hlo : b.toNat < 48
   ·rw [if_neg (by omega)] at hd
    rw [hsm, ← hd]
    repeat' (first | refine SW ?_ | refine SD ?_ | (refine HO_k 8 rfl ?_; refine HO_slen rfl rfl rfl rfl rdA ?_) | (refine HO_k 17 rfl ?_; refine HO_sidx rfl rfl rfl (by omega) (hb) rfl rfl rdA ?_) | exact HO_seg rfl rfl | refine S1 ?_ | (refine S2 ?_; intro _) | (refine S3 ?_; intro _ _) | (refine S4 ?_; intro _ _ _) | (refine HO_g 2 rfl ?_; first | apply HO_a1 rfl | apply HO_o1 rfl) | refine S5 ?_ | (intro hb; try replace hb := simB hb; try exact kill hb))
    (refine SR ?_; unfold RetQ; refine ⟨(), trivial, ?_, Keeps.nil⟩)
    rfl
   by_cases hhi : 57 < b.toNat
   ·rw [if_neg (by omega)] at hd
    rw [hsm, ← hd]
    repeat' (first | refine SW ?_ | refine SD ?_ | (refine HO_k 8 rfl ?_; refine HO_slen rfl rfl rfl rfl rdA ?_) | (refine HO_k 17 rfl ?_; refine HO_sidx rfl rfl rfl (by omega) (hb) rfl rfl rdA ?_) | exact HO_seg rfl rfl | refine S1 ?_ | (refine S2 ?_; intro _) | (refine S3 ?_; intro _ _) | (refine S4 ?_; intro _ _ _) | (refine HO_g 2 rfl ?_; first | apply HO_a1 rfl | apply HO_o1 rfl) | refine S5 ?_ | (intro hb; try replace hb := simB hb; try exact kill hb))
    (refine SR ?_; unfold RetQ; refine ⟨(), trivial, ?_, Keeps.nil⟩)
    rfl
   rw [if_pos (by omega)] at hd
   have e : (10 * ((n : Nat) : Int) + ((b.toNat : Int) - 48)) = ((10 * n + (b.toNat - 48) : Nat) : Int) := by omega
   repeat' (first | refine SW ?_ | refine SD ?_ | (refine HO_k 8 rfl ?_; refine HO_slen rfl rfl rfl rfl rdA ?_) | (refine HO_k 17 rfl ?_; refine HO_sidx rfl rfl rfl (by omega) (hb) rfl rfl rdA ?_) | (with_reducible refine HO_rw (congrArg (Value.int .i64) e) ?_) | exact HO_seg rfl rfl | refine S1 ?_ | (refine S2 ?_; intro _) | (refine S3 ?_; intro _ _) | (refine S4 ?_; intro _ _ _) | (refine HO_g 2 rfl ?_; first | apply HO_a1 rfl | apply HO_o1 rfl) | refine S5 ?_ | (intro hb; try replace hb := simB hb; try exact kill hb))
   exact HX_at (j + 1, 10 * n + (b.toNat - 48)) ⟨⟨hlt, hd, by rw [Nat.pow_succ]; omega⟩, by show l.length - (j + 1) < l.length - j; omega⟩ ⟨rfl, rfl, rfl, rfl, trivial⟩ rfl
  ·obtain rfl : j = l.length := by omega
   rw [List.drop_length] at hd
   rw [hsm, ← hd]
   by_cases hm : (m : Int) < n
   ·simp only [digs, if_pos hm]
    repeat' (first | refine SW ?_ | refine SD ?_ | (refine HO_k 8 rfl ?_; refine HO_slen rfl rfl rfl rfl rdA ?_) | exact HO_seg rfl rfl | refine S1 ?_ | (refine S2 ?_; intro _) | (refine S3 ?_; intro _ _) | (refine S4 ?_; intro _ _ _) | (refine HO_g 2 rfl ?_; first | apply HO_a1 rfl | apply HO_o1 rfl) | refine S5 ?_ | (intro hb; try replace hb := simB hb; try exact kill hb))
    (refine SR ?_; unfold RetQ; refine ⟨(), trivial, ?_, Keeps.nil⟩)
    rfl
   ·simp only [digs, if_neg hm]
    repeat' (first | refine SW ?_ | refine SD ?_ | (refine HO_k 8 rfl ?_; refine HO_slen rfl rfl rfl rfl rdA ?_) | exact HO_seg rfl rfl | refine S1 ?_ | (refine S2 ?_; intro _) | (refine S3 ?_; intro _ _) | (refine S4 ?_; intro _ _ _) | (refine HO_g 2 rfl ?_; first | apply HO_a1 rfl | apply HO_o1 rfl) | refine S5 ?_ | (intro hb; try replace hb := simB hb; try exact kill hb))
    (refine SR ?_; unfold RetQ; refine ⟨(), trivial, ?_, Keeps.nil⟩)
    rfl
@[reducible] def ownT (x : OA) (l : List (List UInt8)) : SL := own idE 9 1 x.1 l.length x.2 (l.map strE)
theorem splB_len (c : UInt8) : ∀ l : List UInt8, (splB c l).length ≤ l.length + 1
 | [] => Nat.le_refl _
 | x :: l => by
  have ih := splB_len c l
  unfold splB
  split
  ·simp; omega
  ·split
   ·simp
   ·rename_i h t e
    rw [e] at ih
    simp at ih ⊢
    omega
def SpInv (c : UInt8) (l : List UInt8) (i fr : Nat) (out : List (List UInt8)) : Prop :=
 out.length ≤ i ∧ ((fr ≤ i ∧ i ≤ l.length ∧ out ++ splB c (l.drop fr) = splB c l ∧ ∀ q, fr ≤ q → q < i → l[q]? ≠ some c) ∨ (i = l.length + 1 ∧ out = splB c l))
theorem sp_mem {c : UInt8} {l : List UInt8} {fr i : Nat} (h : ∀ q, fr ≤ q → q < i → l[q]? ≠ some c) : ∀ x ∈ (l.drop fr).take (i - fr), x ≠ c := by
 intro x hx e
 subst e
 obtain ⟨q, hq⟩ := List.getElem?_of_mem hx
 rw [List.getElem?_take] at hq
 split at hq
 ·rw [List.getElem?_drop] at hq
  exact h (fr + q) (by omega) (by omega) hq
 ·cases hq
theorem sp_end {c : UInt8} {l : List UInt8} {fr : Nat} {out : List (List UInt8)} (h : SpInv c l l.length fr out) : SpInv c l (l.length + 1) (l.length + 1) (out ++ [(l.drop fr).take (l.length - fr)]) := by
 obtain ⟨h0, ⟨h1, h2, h3, h4⟩ | ⟨h1, _⟩⟩ := h
 ·refine ⟨by simp; omega, .inr ⟨rfl, ?_⟩⟩
  rw [← h3]
  have hm := sp_mem h4
  have e : (l.drop fr).take (l.length - fr) = l.drop fr := List.take_of_length_le (by rw [List.length_drop]; exact Nat.le_refl _)
  rw [e] at hm ⊢
  rw [splB_none c _ hm]
 ·omega
theorem sp_hit {c : UInt8} {l : List UInt8} {i fr : Nat} {out : List (List UInt8)} (h : SpInv c l i fr out) (hi : l[i]? = some c) : SpInv c l (i + 1) (i + 1) (out ++ [(l.drop fr).take (i - fr)]) := by
 obtain ⟨hlt, hge⟩ := List.getElem?_eq_some_iff.1 hi
 obtain ⟨h0, ⟨h1, h2, h3, h4⟩ | ⟨h1, _⟩⟩ := h
 ·refine ⟨by simp; omega, .inl ⟨Nat.le_refl _, hlt, ?_, fun q hq1 hq2 => by omega⟩⟩
  rw [← h3]
  have hm := sp_mem h4
  have e : l.drop fr = (l.drop fr).take (i - fr) ++ c :: l.drop (i + 1) := by
   conv => lhs; rw [← List.take_append_drop (i - fr) (l.drop fr)]
   rw [List.drop_drop, show fr + (i - fr) = i by omega, List.drop_eq_getElem_cons hlt, hge]
  conv => rhs; rw [e, splB_app c _ _ hm]
  rw [List.append_assoc]
  rfl
 ·omega
theorem sp_miss {c b : UInt8} {l : List UInt8} {i fr : Nat} {out : List (List UInt8)} (h : SpInv c l i fr out) (hi : l[i]? = some b) (hb : b ≠ c) : SpInv c l (i + 1) fr out := by
 obtain ⟨hlt, hge⟩ := List.getElem?_eq_some_iff.1 hi
 obtain ⟨h0, ⟨h1, h2, h3, h4⟩ | ⟨h1, _⟩⟩ := h
 ·refine ⟨by omega, .inl ⟨by omega, hlt, h3, fun q hq1 hq2 => ?_⟩⟩
  rcases Nat.lt_or_ge q i with h | h
  ·exact h4 q hq1 h
  ·obtain rfl : q = i := by omega
   rw [hi]
   exact fun e => hb (Option.some.inj e)
 ·omega
set_option maxHeartbeats 8000000 in
theorem rsplit_t (l : List UInt8) (c : UInt8) (hl : l.length ≤ 100000) : Tri Tryz.prog 143 [.string ⟨l.toArray⟩, .int .u8 c.toNat] [] [] (fun _ : OA => True) (fun x => .slice x.1 (splB c l).length x.2) (fun x => [ownT x (splB c l)]) := by
 refine Tri_of (N := Tryz.f143.ntmps) (c := bodyOf Tryz.f143) Tryz.func143 rfl rfl rfl rfl (fun w0 S0 => ?_)
 repeat' (first | refine SW ?_ | refine SD ?_ | exact HO_seg rfl rfl | refine S1 ?_ | (refine S2 ?_; intro _) | (refine S3 ?_; intro _ _) | (refine S4 ?_; intro _ _ _) | (refine HO_g 2 rfl ?_; first | apply HO_a1 rfl | apply HO_o1 rfl) | refine S5 ?_ | (intro hb; try replace hb := simB hb; try exact kill hb))
 refine HC_keeps (rw' := [ownT (none, 0) []]) (Keeps.add (fun w => own_nil w) Keeps.nil) ?_
 refine HC_loop (α := Nat × Nat × OA × List (List UInt8)) (fun x => SpInv c l x.1 x.2.1 x.2.2.2) (fun x => [(7, .int .i64 x.1), (6, .int .i64 x.2.1), (5, .slice x.2.2.1.1 x.2.2.2.length x.2.2.1.2), (1, .int .u8 c.toNat), (0, .string ⟨l.toArray⟩)]) (fun x => [ownT x.2.2.1 x.2.2.2]) (fun x => l.length + 1 - x.1) rfl (0, 0, (none, 0), []) ⟨Nat.le_refl _, .inl ⟨Nat.le_refl _, Nat.zero_le _, rfl, fun q _ h => by omega⟩⟩ ⟨rfl, rfl, rfl, rfl, rfl, trivial⟩ rfl ?_
 rintro ⟨i, fr, ⟨xA, xc⟩, out⟩ hinv
 dsimp only at hinv ⊢
 rcases Nat.lt_or_ge l.length i with hgt | hle
 ·obtain ⟨h0, ⟨h1, h2, _⟩ | ⟨h1, h2⟩⟩ := id hinv
  ·omega
  subst h2
  repeat' (first | refine SW ?_ | refine SD ?_ | (refine HO_k 8 rfl ?_; refine HO_slen rfl rfl rfl rfl rdA ?_) | exact HO_seg rfl rfl | refine S1 ?_ | (refine S2 ?_; intro _) | (refine S3 ?_; intro _ _) | (refine S4 ?_; intro _ _ _) | (refine HO_g 2 rfl ?_; first | apply HO_a1 rfl | apply HO_o1 rfl) | refine S5 ?_ | (intro hb; try replace hb := simB hb; try exact kill hb))
  (refine SR ?_; unfold RetQ; refine ⟨(xA, xc), trivial, rfl, Keeps.refl⟩)
 have hfr : fr ≤ i := by
  obtain ⟨h0, ⟨h1, h2, _⟩ | ⟨h1, h2⟩⟩ := id hinv <;> omega
 have ho := hinv.1
 have eL : out.length + 1 = (out ++ [(l.drop fr).take (i - fr)]).length := by simp
 have eM : List.map strE out ++ [[Value.string ⟨((l.drop ((fr : Nat) : Int).toNat).take (((i : Nat) : Int).toNat - ((fr : Nat) : Int).toNat)).toArray⟩]] = List.map strE (out ++ [(l.drop fr).take (i - fr)]) := by rw [List.map_append]; rfl
 rcases Nat.lt_or_ge i l.length with hlt | hge
 ·obtain ⟨b, hb⟩ : ∃ b, l[i]? = some b := ⟨l[i], List.getElem?_eq_getElem hlt⟩
  by_cases hbc : b = c
  ·subst hbc
   repeat' (first | refine SW ?_ | refine SD ?_ | (refine HO_k 8 rfl ?_; refine HO_slen rfl rfl rfl rfl rdA ?_) | (refine HO_k 17 rfl ?_; refine HO_sidx rfl rfl rfl (by omega) (hb) rfl rfl rdA ?_) | (refine HO_k 13 rfl ?_; refine HO_sslb rfl rfl rfl rfl (by omega) rfl rfl rdA ?_) | exact HO_seg rfl rfl | refine S1 ?_ | (refine S2 ?_; intro _) | (refine S3 ?_; intro _ _) | (refine S4 ?_; intro _ _ _) | (refine HO_g 2 rfl ?_; first | apply HO_a1 rfl | apply HO_o1 rfl) | refine S5 ?_ | (intro hb; try replace hb := simB hb; try exact kill hb))
   rename_i b9 A' c'
   rw [eL, eM]
   refine HX_keeps (rw' := [ownT (A', c') (out ++ [(l.drop fr).take (i - fr)])]) permA ?_
   exact HX_at (i + 1, i + 1, (A', c'), out ++ [(l.drop fr).take (i - fr)]) ⟨sp_hit hinv hb, by show l.length + 1 - (i + 1) < l.length + 1 - i; omega⟩ ⟨rfl, rfl, rfl, rfl, rfl, trivial⟩ rfl
  ·have hbn : ¬ (b.toNat : Int) = c.toNat := fun h => hbc (UInt8.toNat_inj.1 (by omega))
   repeat' (first | refine SW ?_ | refine SD ?_ | (refine HO_k 8 rfl ?_; refine HO_slen rfl rfl rfl rfl rdA ?_) | (refine HO_k 17 rfl ?_; refine HO_sidx rfl rfl rfl (by omega) (hb) rfl rfl rdA ?_) | exact HO_seg rfl rfl | refine S1 ?_ | (refine S2 ?_; intro _) | (refine S3 ?_; intro _ _) | (refine S4 ?_; intro _ _ _) | (refine HO_g 2 rfl ?_; first | apply HO_a1 rfl | apply HO_o1 rfl) | refine S5 ?_ | (intro hb; try replace hb := simB hb; try exact kill hb))
   exact HX_at (i + 1, fr, (xA, xc), out) ⟨sp_miss hinv hb hbc, by show l.length + 1 - (i + 1) < l.length + 1 - i; omega⟩ ⟨rfl, rfl, rfl, rfl, rfl, trivial⟩ rfl
 ·obtain rfl : i = l.length := by omega
  repeat' (first | refine SW ?_ | refine SD ?_ | (refine HO_k 8 rfl ?_; refine HO_slen rfl rfl rfl rfl rdA ?_) | (refine HO_k 13 rfl ?_; refine HO_sslb rfl rfl rfl rfl (by omega) rfl rfl rdA ?_) | exact HO_seg rfl rfl | refine S1 ?_ | (refine S2 ?_; intro _) | (refine S3 ?_; intro _ _) | (refine S4 ?_; intro _ _ _) | (refine HO_g 2 rfl ?_; first | apply HO_a1 rfl | apply HO_o1 rfl) | refine S5 ?_ | (intro hb; try replace hb := simB hb; try exact kill hb))
  rename_i b9 A' c'
  rw [eL, eM]
  refine HX_keeps (rw' := [ownT (A', c') (out ++ [(l.drop fr).take (l.length - fr)])]) permA ?_
  exact HX_at (l.length + 1, l.length + 1, (A', c'), out ++ [(l.drop fr).take (l.length - fr)]) ⟨sp_end hinv, by show l.length + 1 - (l.length + 1) < l.length + 1 - l.length; omega⟩ ⟨rfl, rfl, rfl, rfl, rfl, trivial⟩ rfl
def tens : List UInt8 := [48, 49, 50, 51, 52, 53, 54, 55, 56, 57]
theorem tens_at : ∀ r, r < 10 → ((tens.drop r).take (r + 1 - r)) = [UInt8.ofNat (48 + r)] := by decide +kernel
theorem dec3_step (n : Nat) (h0 : 0 < n) (h : n < 1000) : dec3 n = (if n / 10 = 0 then [] else dec3 (n / 10)) ++ [UInt8.ofNat (48 + n % 10)] := by
 have : ((List.range 1000).all fun n => decide (0 < n → dec3 n = (if n / 10 = 0 then [] else dec3 (n / 10)) ++ [UInt8.ofNat (48 + n % 10)])) = true := by decide +kernel
 exact of_decide_eq_true (List.all_eq_true.1 this n (List.mem_range.2 h)) h0
set_option maxHeartbeats 8000000 in
theorem digits_t (n : Nat) (hn : n < 1000) : Tri Tryz.prog 76 [.int .i64 n] [] [] (fun _ : Unit => True) (fun _ => .string ⟨(dec3 n).toArray⟩) (fun _ => []) := by
 refine Tri_of (N := Tryz.f76.ntmps) (c := bodyOf Tryz.f76) Tryz.func76 rfl rfl rfl rfl (fun w0 S0 => ?_)
 repeat' (first | refine SW ?_ | refine SD ?_ | exact HO_seg rfl rfl | refine S1 ?_ | (refine S2 ?_; intro _) | (refine S3 ?_; intro _ _) | (refine S4 ?_; intro _ _ _) | (refine HO_g 2 rfl ?_; first | apply HO_a1 rfl | apply HO_o1 rfl) | refine S5 ?_ | (intro hb; try replace hb := simB hb; try exact kill hb))
 refine HC_loop (α := Nat × List UInt8) (fun x => x.1 < 1000 ∧ x.2.length ≤ 1000 - x.1 ∧ ((x.2 = [] ∧ x.1 = n) ∨ (x.2 ≠ [] ∧ dec3 n = (if x.1 = 0 then [] else dec3 x.1) ++ x.2))) (fun x => [(3, .string ⟨x.2.toArray⟩), (0, .int .i64 x.1)]) (fun _ => []) (fun x => x.1 + if x.2 = [] then 1 else 0) rfl (n, []) ⟨hn, Nat.zero_le _, .inl ⟨rfl, rfl⟩⟩ ⟨rfl, rfl, trivial⟩ rfl ?_
 rintro ⟨k, s⟩ ⟨hk, hs, hinv⟩
 dsimp only at hk hs hinv ⊢
 have hr : bRem ((k : Nat) : Int) 10 = ((k % 10 : Nat) : Int) := by
  unfold bRem
  rw [Int.tmod_eq_emod_of_nonneg (by omega)]
  rfl
 have hq : bQuo .i64 ((k : Nat) : Int) 10 = ((k / 10 : Nat) : Int) := by
  unfold bQuo
  rw [Int.tdiv_eq_ediv_of_nonneg (by omega), IntKind.wrap_i64]
  omega
 have hr1 : ((k % 10 : Nat) : Int) + 1 = ((k % 10 + 1 : Nat) : Int) := by omega
 have hsl : 0 ≤ ((k % 10 : Nat) : Int) ∧ ((k % 10 : Nat) : Int) ≤ ((k % 10 + 1 : Nat) : Int) ∧ ((k % 10 + 1 : Nat) : Int) ≤ (([48, 49, 50, 51, 52, 53, 54, 55, 56, 57] : List UInt8).length : Int) := by
  show _ ∧ _ ∧ _ ≤ (10 : Int)
  omega
 have hd1 : Value.string ⟨((([48, 49, 50, 51, 52, 53, 54, 55, 56, 57] : List UInt8).drop ((k % 10 : Nat) : Int).toNat).take (((k % 10 + 1 : Nat) : Int).toNat - ((k % 10 : Nat) : Int).toNat)).toArray⟩ = Value.string ⟨[UInt8.ofNat (48 + k % 10)].toArray⟩ :=
  congrArg (fun z : List UInt8 => Value.string ⟨z.toArray⟩) (tens_at (k % 10) (by omega))
 by_cases hz : k = 0 ∧ s ≠ []
 ·obtain ⟨hz, hs0⟩ := hz
  subst hz
  have e : dec3 n = s := by
   rcases hinv with h | h
   ·exact absurd h.1 hs0
   ·rw [h.2, if_pos rfl]; rfl
  rw [e]
  have es : decide (s = []) = false := decide_eq_false hs0
  repeat' (first | refine SW ?_ | (with_reducible refine HO_rw (congrArg Value.bool es) ?_) | (with_reducible refine HO_rw (congrArg Value.bool (sba_eq _ _)) ?_) | refine SD ?_ | exact HO_seg rfl rfl | refine S1 ?_ | (refine S2 ?_; intro _) | (refine S3 ?_; intro _ _) | (refine S4 ?_; intro _ _ _) | (refine HO_g 2 rfl ?_; first | apply HO_a1 rfl | apply HO_o1 rfl) | refine S5 ?_ | (intro hb; try replace hb := simB hb; try exact kill hb))
  (refine SR ?_; unfold RetQ; refine ⟨(), trivial, ?_, Keeps.nil⟩)
  rfl
 have hne : [UInt8.ofNat (48 + k % 10)] ++ s ≠ [] := by simp
 have hnext : dec3 n = (if k / 10 = 0 then [] else dec3 (k / 10)) ++ ([UInt8.ofNat (48 + k % 10)] ++ s) := by
  rcases hinv with ⟨h1, h2⟩ | ⟨h1, h2⟩
  ·subst h1 h2
   rcases Nat.eq_zero_or_pos k with h | h
   ·subst h; rfl
   ·rw [dec3_step k h hk, List.append_nil]
  ·have h : 0 < k := Nat.pos_of_ne_zero fun h => hz ⟨h, h1⟩
   rw [h2, if_neg (by omega), dec3_step k h hk, List.append_assoc]
 rcases Nat.eq_zero_or_pos k with h | h
 ·subst h
  have hs0 : s = [] := Classical.byContradiction fun h => hz ⟨rfl, h⟩
  subst hs0
  repeat' (first | refine SW ?_ | (with_reducible refine HO_rw (congrArg Value.bool (sba_eq _ _)) ?_) | refine SD ?_ | (with_reducible refine HO_rw (congrArg (Value.int .i64) hr) ?_) | (with_reducible refine HO_rw (congrArg (Value.int .i64) hr1) ?_) | (with_reducible refine HO_rw (congrArg (Value.int .i64) hq) ?_) | (with_reducible refine HO_rw hd1 ?_) | (refine HO_k 13 rfl ?_; refine HO_sslb (l := [48, 49, 50, 51, 52, 53, 54, 55, 56, 57]) rfl rfl rfl rfl hsl rfl rfl rdA ?_) | (refine HO_k 0 rfl ?_; refine HO_cat rfl rfl rfl (by simp <;> omega) rfl rfl rdA ?_) | exact HO_seg rfl rfl | refine S1 ?_ | (refine S2 ?_; intro _) | (refine S3 ?_; intro _ _) | (refine S4 ?_; intro _ _ _) | (refine HO_g 2 rfl ?_; first | apply HO_a1 rfl | apply HO_o1 rfl) | refine S5 ?_ | (intro hb; try replace hb := simB hb; try exact kill hb))
  exact HX_at (0 / 10, [UInt8.ofNat (48 + 0 % 10)] ++ []) ⟨⟨by decide, by decide, .inr ⟨by decide, hnext⟩⟩, by decide⟩ ⟨rfl, rfl, trivial⟩ rfl
 ·repeat' (first | refine SW ?_ | (with_reducible refine HO_rw (congrArg Value.bool (sba_eq _ _)) ?_) | refine SD ?_ | (with_reducible refine HO_rw (congrArg (Value.int .i64) hr) ?_) | (with_reducible refine HO_rw (congrArg (Value.int .i64) hr1) ?_) | (with_reducible refine HO_rw (congrArg (Value.int .i64) hq) ?_) | (with_reducible refine HO_rw hd1 ?_) | (refine HO_k 13 rfl ?_; refine HO_sslb (l := [48, 49, 50, 51, 52, 53, 54, 55, 56, 57]) rfl rfl rfl rfl hsl rfl rfl rdA ?_) | (refine HO_k 0 rfl ?_; refine HO_cat rfl rfl rfl (by simp <;> omega) rfl rfl rdA ?_) | exact HO_seg rfl rfl | refine S1 ?_ | (refine S2 ?_; intro _) | (refine S3 ?_; intro _ _) | (refine S4 ?_; intro _ _ _) | (refine HO_g 2 rfl ?_; first | apply HO_a1 rfl | apply HO_o1 rfl) | refine S5 ?_ | (intro hb; try replace hb := simB hb; try exact kill hb))
  exact HX_at (k / 10, [UInt8.ofNat (48 + k % 10)] ++ s) ⟨⟨by show k / 10 < 1000; omega, by show ([UInt8.ofNat (48 + k % 10)] ++ s).length ≤ 1000 - k / 10; simp; omega, .inr ⟨hne, hnext⟩⟩, by show k / 10 + (if [UInt8.ofNat (48 + k % 10)] ++ s = [] then 1 else 0) < k + _; rw [if_neg hne]; omega⟩ ⟨rfl, rfl, trivial⟩ rfl
end Go.Proofs.YtbhiojedmkcfoaaGreatDoor
