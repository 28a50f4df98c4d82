/- Part of a proof of many texts: what the theorem at its end leans on. -/
import Derived.Test.YtbhiojedmkcfoaaGreatDoorZCfA
import Derived.Test.YtbhiojedmkcfoaaGreatDoorZAdT
import Derived.Test.YtbhiojedmkcfoaaGreatDoorZCfF
namespace Go.Proofs.YtbhiojedmkcfoaaGreatDoor
set_option linter.unusedVariables false
set_option linter.unusedSimpArgs false
open Go.RowKit
attribute [local irreducible] HC HX HO Tri eP adr
theorem decD_step (n : Nat) (h0 : 0 < n) : decD n = (if n / 10 = 0 then [] else decD (n / 10)) ++ [UInt8.ofNat (48 + n % 10)] := by
 rcases Nat.lt_or_ge n 10 with h | h
 ·rw [decD_lt n h, if_pos (by omega), Nat.mod_eq_of_lt h]; rfl
 ·rw [decD_ge n h, if_neg (by omega)]
set_option maxHeartbeats 8000000 in
theorem rdigD_t (n : Nat) (hn : n < 10000000000000000) : Tri Tryz.prog 76 [.int .i64 n] [] [] (fun _ : Unit => True) (fun _ => .string ⟨(decD n).toArray⟩) (fun _ => []) := by
 refine Tri_of (N := Tryz.f76.ntmps) (c := bodyOf Tryz.f76) Tryz.func76 rfl rfl rfl rfl (fun w0 S0 => ?_)
 repeat' (first | refine SW ?_ | refine SD ?_ | exact HO_seg rfl rfl | refine S1 ?_ | (refine S2 ?_; intro _) | (refine S3 ?_; intro _ _) | (refine S4 ?_; intro _ _ _) | (refine HO_g 2 rfl ?_; first | apply HO_a1 rfl | apply HO_o1 rfl) | refine S5 ?_ | (intro hb; try replace hb := simB hb; try exact kill hb))
 refine HC_loop (α := Nat × List UInt8) (fun x => x.1 < 10000000000000000 ∧ x.2.length ≤ 10000000000000000 - x.1 ∧ ((x.2 = [] ∧ x.1 = n) ∨ (x.2 ≠ [] ∧ decD n = (if x.1 = 0 then [] else decD x.1) ++ x.2))) (fun x => [(3, .string ⟨x.2.toArray⟩), (0, .int .i64 x.1)]) (fun _ => []) (fun x => x.1 + if x.2 = [] then 1 else 0) rfl (n, []) ⟨hn, Nat.zero_le _, .inl ⟨rfl, rfl⟩⟩ ⟨rfl, rfl, trivial⟩ rfl ?_
 rintro ⟨k, s⟩ ⟨hk, hs, hinv⟩
 dsimp only at hk hs hinv ⊢
 have hr : bRem ((k : Nat) : Int) 10 = ((k % 10 : Nat) : Int) := by
  unfold bRem
  rw [Int.tmod_eq_emod_of_nonneg (by omega)]
  rfl
 have hq : bQuo .i64 ((k : Nat) : Int) 10 = ((k / 10 : Nat) : Int) := by
  unfold bQuo
  rw [Int.tdiv_eq_ediv_of_nonneg (by omega), IntKind.wrap_i64]
  omega
 have hr1 : ((k % 10 : Nat) : Int) + 1 = ((k % 10 + 1 : Nat) : Int) := by omega
 have hsl : 0 ≤ ((k % 10 : Nat) : Int) ∧ ((k % 10 : Nat) : Int) ≤ ((k % 10 + 1 : Nat) : Int) ∧ ((k % 10 + 1 : Nat) : Int) ≤ (([48, 49, 50, 51, 52, 53, 54, 55, 56, 57] : List UInt8).length : Int) := by
  show _ ∧ _ ∧ _ ≤ (10 : Int)
  omega
 have hd1 : Value.string ⟨((([48, 49, 50, 51, 52, 53, 54, 55, 56, 57] : List UInt8).drop ((k % 10 : Nat) : Int).toNat).take (((k % 10 + 1 : Nat) : Int).toNat - ((k % 10 : Nat) : Int).toNat)).toArray⟩ = Value.string ⟨[UInt8.ofNat (48 + k % 10)].toArray⟩ :=
  congrArg (fun z : List UInt8 => Value.string ⟨z.toArray⟩) (tens_at (k % 10) (by omega))
 by_cases hz : k = 0 ∧ s ≠ []
 ·obtain ⟨hz, hs0⟩ := hz
  subst hz
  have e : decD n = s := by
   rcases hinv with h | h
   ·exact absurd h.1 hs0
   ·rw [h.2, if_pos rfl]; rfl
  rw [e]
  have es : decide (s = []) = false := decide_eq_false hs0
  repeat' (first | refine SW ?_ | (with_reducible refine HO_rw (congrArg Value.bool es) ?_) | (with_reducible refine HO_rw (congrArg Value.bool (sba_eq _ _)) ?_) | refine SD ?_ | exact HO_seg rfl rfl | refine S1 ?_ | (refine S2 ?_; intro _) | (refine S3 ?_; intro _ _) | (refine S4 ?_; intro _ _ _) | (refine HO_g 2 rfl ?_; first | apply HO_a1 rfl | apply HO_o1 rfl) | refine S5 ?_ | (intro hb; try replace hb := simB hb; try exact kill hb))
  (refine SR ?_; unfold RetQ; refine ⟨(), trivial, ?_, Keeps.nil⟩)
  rfl
 have hne : [UInt8.ofNat (48 + k % 10)] ++ s ≠ [] := by simp
 have hnext : decD n = (if k / 10 = 0 then [] else decD (k / 10)) ++ ([UInt8.ofNat (48 + k % 10)] ++ s) := by
  rcases hinv with ⟨h1, h2⟩ | ⟨h1, h2⟩
  ·subst h1 h2
   rcases Nat.eq_zero_or_pos k with h | h
   ·subst h; rw [decD_lt 0 (by decide)]; rfl
   ·rw [decD_step k h, List.append_nil]
  ·have h : 0 < k := Nat.pos_of_ne_zero fun h => hz ⟨h, h1⟩
   rw [h2, if_neg (by omega), decD_step k h, List.append_assoc]
 rcases Nat.eq_zero_or_pos k with h | h
 ·subst h
  have hs0 : s = [] := Classical.byContradiction fun h => hz ⟨rfl, h⟩
  subst hs0
  repeat' (first | refine SW ?_ | (with_reducible refine HO_rw (congrArg Value.bool (sba_eq _ _)) ?_) | refine SD ?_ | (with_reducible refine HO_rw (congrArg (Value.int .i64) hr) ?_) | (with_reducible refine HO_rw (congrArg (Value.int .i64) hr1) ?_) | (with_reducible refine HO_rw (congrArg (Value.int .i64) hq) ?_) | (with_reducible refine HO_rw hd1 ?_) | (refine HO_k 13 rfl ?_; refine HO_sslb (l := [48, 49, 50, 51, 52, 53, 54, 55, 56, 57]) rfl rfl rfl rfl hsl rfl rfl rdA ?_) | (refine HO_k 0 rfl ?_; refine HO_cat rfl rfl rfl (by simp <;> omega) rfl rfl rdA ?_) | exact HO_seg rfl rfl | refine S1 ?_ | (refine S2 ?_; intro _) | (refine S3 ?_; intro _ _) | (refine S4 ?_; intro _ _ _) | (refine HO_g 2 rfl ?_; first | apply HO_a1 rfl | apply HO_o1 rfl) | refine S5 ?_ | (intro hb; try replace hb := simB hb; try exact kill hb))
  exact HX_at (0 / 10, [UInt8.ofNat (48 + 0 % 10)] ++ []) ⟨⟨by decide, by decide, .inr ⟨by decide, hnext⟩⟩, by decide⟩ ⟨rfl, rfl, trivial⟩ rfl
 ·repeat' (first | refine SW ?_ | (with_reducible refine HO_rw (congrArg Value.bool (sba_eq _ _)) ?_) | refine SD ?_ | (with_reducible refine HO_rw (congrArg (Value.int .i64) hr) ?_) | (with_reducible refine HO_rw (congrArg (Value.int .i64) hr1) ?_) | (with_reducible refine HO_rw (congrArg (Value.int .i64) hq) ?_) | (with_reducible refine HO_rw hd1 ?_) | (refine HO_k 13 rfl ?_; refine HO_sslb (l := [48, 49, 50, 51, 52, 53, 54, 55, 56, 57]) rfl rfl rfl rfl hsl rfl rfl rdA ?_) | (refine HO_k 0 rfl ?_; refine HO_cat rfl rfl rfl (by simp <;> omega) rfl rfl rdA ?_) | exact HO_seg rfl rfl | refine S1 ?_ | (refine S2 ?_; intro _) | (refine S3 ?_; intro _ _) | (refine S4 ?_; intro _ _ _) | (refine HO_g 2 rfl ?_; first | apply HO_a1 rfl | apply HO_o1 rfl) | refine S5 ?_ | (intro hb; try replace hb := simB hb; try exact kill hb))
  exact HX_at (k / 10, [UInt8.ofNat (48 + k % 10)] ++ s) ⟨⟨by show k / 10 < 10000000000000000; omega, by show ([UInt8.ofNat (48 + k % 10)] ++ s).length ≤ 10000000000000000 - k / 10; simp; omega, .inr ⟨hne, hnext⟩⟩, by show k / 10 + (if [UInt8.ofNat (48 + k % 10)] ++ s = [] then 1 else 0) < k + _; rw [if_neg hne]; omega⟩ ⟨rfl, rfl, trivial⟩ rfl
set_option maxHeartbeats 8000000 in
theorem rsplit19_t (l : List UInt8) (c : UInt8) (hl : l.length ≤ 100000) : Tri Tryz.prog 26 [.string ⟨l.toArray⟩, .int .u8 c.toNat] [] [] (fun _ : OA => True) (fun x => .slice x.1 (splB c l).length x.2) (fun x => [ownT x (splB c l)]) := by
 refine Tri_of (N := Tryz.f26.ntmps) (c := bodyOf Tryz.f26) Tryz.func26 rfl rfl rfl rfl (fun w0 S0 => ?_)
 repeat' (first | refine SW ?_ | refine SD ?_ | exact HO_seg rfl rfl | refine S1 ?_ | (refine S2 ?_; intro _) | (refine S3 ?_; intro _ _) | (refine S4 ?_; intro _ _ _) | (refine HO_g 2 rfl ?_; first | apply HO_a1 rfl | apply HO_o1 rfl) | refine S5 ?_ | (intro hb; try replace hb := simB hb; try exact kill hb))
 refine HC_keeps (rw' := [ownT (none, 0) []]) (Keeps.add (fun w => own_nil w) Keeps.nil) ?_
 refine HC_loop (α := Nat × Nat × OA × List (List UInt8)) (fun x => SpInv c l x.1 x.2.1 x.2.2.2) (fun x => [(7, .int .i64 x.1), (6, .int .i64 x.2.1), (5, .slice x.2.2.1.1 x.2.2.2.length x.2.2.1.2), (1, .int .u8 c.toNat), (0, .string ⟨l.toArray⟩)]) (fun x => [ownT x.2.2.1 x.2.2.2]) (fun x => l.length + 1 - x.1) rfl (0, 0, (none, 0), []) ⟨Nat.le_refl _, .inl ⟨Nat.le_refl _, Nat.zero_le _, rfl, fun q _ h => by omega⟩⟩ ⟨rfl, rfl, rfl, rfl, rfl, trivial⟩ rfl ?_
 rintro ⟨i, fr, ⟨xA, xc⟩, out⟩ hinv
 dsimp only at hinv ⊢
 rcases Nat.lt_or_ge l.length i with hgt | hle
 ·obtain ⟨h0, ⟨h1, h2, _⟩ | ⟨h1, h2⟩⟩ := id hinv
  ·omega
  subst h2
  repeat' (first | refine SW ?_ | refine SD ?_ | (refine HO_k 8 rfl ?_; refine HO_slen rfl rfl rfl rfl rdA ?_) | exact HO_seg rfl rfl | refine S1 ?_ | (refine S2 ?_; intro _) | (refine S3 ?_; intro _ _) | (refine S4 ?_; intro _ _ _) | (refine HO_g 2 rfl ?_; first | apply HO_a1 rfl | apply HO_o1 rfl) | refine S5 ?_ | (intro hb; try replace hb := simB hb; try exact kill hb))
  (refine SR ?_; unfold RetQ; refine ⟨(xA, xc), trivial, rfl, Keeps.refl⟩)
 have hfr : fr ≤ i := by
  obtain ⟨h0, ⟨h1, h2, _⟩ | ⟨h1, h2⟩⟩ := id hinv <;> omega
 have ho := hinv.1
 have eL : out.length + 1 = (out ++ [(l.drop fr).take (i - fr)]).length := by simp
 have eM : List.map strE out ++ [[Value.string ⟨((l.drop ((fr : Nat) : Int).toNat).take (((i : Nat) : Int).toNat - ((fr : Nat) : Int).toNat)).toArray⟩]] = List.map strE (out ++ [(l.drop fr).take (i - fr)]) := by rw [List.map_append]; rfl
 rcases Nat.lt_or_ge i l.length with hlt | hge
 ·obtain ⟨b, hb⟩ : ∃ b, l[i]? = some b := ⟨l[i], List.getElem?_eq_getElem hlt⟩
  by_cases hbc : b = c
  ·subst hbc
   repeat' (first | refine SW ?_ | refine SD ?_ | (refine HO_k 8 rfl ?_; refine HO_slen rfl rfl rfl rfl rdA ?_) | (refine HO_k 17 rfl ?_; refine HO_sidx rfl rfl rfl (by omega) (hb) rfl rfl rdA ?_) | (refine HO_k 13 rfl ?_; refine HO_sslb rfl rfl rfl rfl (by omega) rfl rfl rdA ?_) | exact HO_seg rfl rfl | refine S1 ?_ | (refine S2 ?_; intro _) | (refine S3 ?_; intro _ _) | (refine S4 ?_; intro _ _ _) | (refine HO_g 2 rfl ?_; first | apply HO_a1 rfl | apply HO_o1 rfl) | refine S5 ?_ | (intro hb; try replace hb := simB hb; try exact kill hb))
   rename_i b9 A' c'
   rw [eL, eM]
   refine HX_keeps (rw' := [ownT (A', c') (out ++ [(l.drop fr).take (i - fr)])]) permA ?_
   exact HX_at (i + 1, i + 1, (A', c'), out ++ [(l.drop fr).take (i - fr)]) ⟨sp_hit hinv hb, by show l.length + 1 - (i + 1) < l.length + 1 - i; omega⟩ ⟨rfl, rfl, rfl, rfl, rfl, trivial⟩ rfl
  ·have hbn : ¬ (b.toNat : Int) = c.toNat := fun h => hbc (UInt8.toNat_inj.1 (by omega))
   repeat' (first | refine SW ?_ | refine SD ?_ | (refine HO_k 8 rfl ?_; refine HO_slen rfl rfl rfl rfl rdA ?_) | (refine HO_k 17 rfl ?_; refine HO_sidx rfl rfl rfl (by omega) (hb) rfl rfl rdA ?_) | exact HO_seg rfl rfl | refine S1 ?_ | (refine S2 ?_; intro _) | (refine S3 ?_; intro _ _) | (refine S4 ?_; intro _ _ _) | (refine HO_g 2 rfl ?_; first | apply HO_a1 rfl | apply HO_o1 rfl) | refine S5 ?_ | (intro hb; try replace hb := simB hb; try exact kill hb))
   exact HX_at (i + 1, fr, (xA, xc), out) ⟨sp_miss hinv hb hbc, by show l.length + 1 - (i + 1) < l.length + 1 - i; omega⟩ ⟨rfl, rfl, rfl, rfl, rfl, trivial⟩ rfl
 ·obtain rfl : i = l.length := by omega
  repeat' (first | refine SW ?_ | refine SD ?_ | (refine HO_k 8 rfl ?_; refine HO_slen rfl rfl rfl rfl rdA ?_) | (refine HO_k 13 rfl ?_; refine HO_sslb rfl rfl rfl rfl (by omega) rfl rfl rdA ?_) | exact HO_seg rfl rfl | refine S1 ?_ | (refine S2 ?_; intro _) | (refine S3 ?_; intro _ _) | (refine S4 ?_; intro _ _ _) | (refine HO_g 2 rfl ?_; first | apply HO_a1 rfl | apply HO_o1 rfl) | refine S5 ?_ | (intro hb; try replace hb := simB hb; try exact kill hb))
  rename_i b9 A' c'
  rw [eL, eM]
  refine HX_keeps (rw' := [ownT (A', c') (out ++ [(l.drop fr).take (l.length - fr)])]) permA ?_
  exact HX_at (l.length + 1, l.length + 1, (A', c'), out ++ [(l.drop fr).take (l.length - fr)]) ⟨sp_end hinv, by show l.length + 1 - (l.length + 1) < l.length + 1 - l.length; omega⟩ ⟨rfl, rfl, rfl, rfl, rfl, trivial⟩ rfl
set_option maxHeartbeats 8000000 in
theorem rnum19_t (l : List UInt8) (hl : l.length ≤ 100000) : Tri Tryz.prog 82 [.string ⟨l.toArray⟩] [] [] (fun _ : Unit => True) (fun _ => .tuple #[.int .i64 (numV l), .bool (numR l).isSome]) (fun _ => []) := by
 match l with
 | [] =>
  have hr : numR [] = none := rfl
  unfold numV
  rw [hr]
  refine Tri_of (N := Tryz.f82.ntmps) (c := bodyOf Tryz.f82) Tryz.func82 rfl rfl rfl rfl (fun w0 S0 => ?_)
  repeat' (first | refine SW ?_ | (refine HO_k 8 rfl ?_; refine HO_slen rfl rfl rfl rfl rdA ?_) | refine SD ?_ | exact HO_seg rfl rfl | refine S1 ?_ | (refine S2 ?_; intro _) | (refine S3 ?_; intro _ _) | (refine S4 ?_; intro _ _ _) | (refine HO_g 2 rfl ?_; first | apply HO_a1 rfl | apply HO_o1 rfl) | refine S5 ?_ | (intro hb; try replace hb := simB hb; try exact kill hb))
  (refine SR ?_; unfold RetQ; refine ⟨(), trivial, ?_, Keeps.nil⟩)
  rfl
 | x :: t =>
  have hx : (x :: t)[(0 : Int).toNat]? = some x := rfl
  have hlt : (x :: t).length = t.length + 1 := rfl
  by_cases h16 : 16 < (x :: t).length
  ·have hr : numR (x :: t) = none := by unfold numR; rw [if_pos (.inr (.inl h16))]
   unfold numV
   rw [hr]
   refine Tri_of (N := Tryz.f82.ntmps) (c := bodyOf Tryz.f82) Tryz.func82 rfl rfl rfl rfl (fun w0 S0 => ?_)
   repeat' (first | refine SW ?_ | (refine HO_k 8 rfl ?_; refine HO_slen rfl rfl rfl rfl rdA ?_) | refine SD ?_ | ((refine HO_g 2 rfl ?_); (refine HO_skip rfl rfl rfl rfl rdA ?_)) | exact HO_seg rfl rfl | refine S1 ?_ | (refine S2 ?_; intro _) | (refine S3 ?_; intro _ _) | (refine S4 ?_; intro _ _ _) | (refine HO_g 2 rfl ?_; first | apply HO_a1 rfl | apply HO_o1 rfl) | refine S5 ?_ | (intro hb; try replace hb := simB hb; try exact kill hb))
   (refine SR ?_; unfold RetQ; refine ⟨(), trivial, ?_, Keeps.nil⟩)
   rfl
  by_cases h0 : x.toNat = 48 ∧ 1 < (x :: t).length
  ·have hx0 : x = 48 := UInt8.toNat_inj.1 h0.1
   have hr : numR (x :: t) = none := by unfold numR; rw [if_pos (.inr (.inr ⟨by rw [hx0]; rfl, h0.2⟩))]
   obtain ⟨h01, h02⟩ := h0
   unfold numV
   rw [hr]
   refine Tri_of (N := Tryz.f82.ntmps) (c := bodyOf Tryz.f82) Tryz.func82 rfl rfl rfl rfl (fun w0 S0 => ?_)
   repeat' (first | refine SW ?_ | (refine HO_k 8 rfl ?_; refine HO_slen rfl rfl rfl rfl rdA ?_) | refine SD ?_ | (refine HO_k 17 rfl ?_; refine HO_sidx rfl rfl rfl (by omega) (hx) rfl rfl rdA ?_) | exact HO_seg rfl rfl | refine S1 ?_ | (refine S2 ?_; intro _) | (refine S3 ?_; intro _ _) | (refine S4 ?_; intro _ _ _) | (refine HO_g 2 rfl ?_; first | apply HO_a1 rfl | apply HO_o1 rfl) | refine S5 ?_ | (intro hb; try replace hb := simB hb; try exact kill hb))
   (refine SR ?_; unfold RetQ; refine ⟨(), trivial, ?_, Keeps.nil⟩)
   rfl
  have hnr : numR (x :: t) = digs 0 (x :: t) := by
   unfold numR
   rw [if_neg]
   rintro (a | a | ⟨a, a2⟩)
   ·omega
   ·omega
   ·injection a with a
    exact h0 ⟨by rw [a]; rfl, a2⟩
  have hpre : (x.toNat = 48 ∧ ¬ 1 < (x :: t).length) ∨ ¬ x.toNat = 48 := by omega
  unfold numV
  rw [hnr]
  rcases hpre with ⟨h48, hl1⟩ | h48
  all_goals
   refine Tri_of (N := Tryz.f82.ntmps) (c := bodyOf Tryz.f82) Tryz.func82 rfl rfl rfl rfl (fun w0 S0 => ?_)
   repeat' (first | refine SW ?_ | (refine HO_k 8 rfl ?_; refine HO_slen rfl rfl rfl rfl rdA ?_) | refine SD ?_ | (refine HO_k 17 rfl ?_; refine HO_sidx rfl rfl rfl (by omega) (hx) rfl rfl rdA ?_) | exact HO_seg rfl rfl | refine S1 ?_ | (refine S2 ?_; intro _) | (refine S3 ?_; intro _ _) | (refine S4 ?_; intro _ _ _) | (refine HO_g 2 rfl ?_; first | apply HO_a1 rfl | apply HO_o1 rfl) | refine S5 ?_ | (intro hb; try replace hb := simB hb; try exact kill hb))
   refine HC_loop (α := Nat × Nat) (fun y => y.1 ≤ (x :: t).length ∧ y.2 < 10 ^ y.1 ∧ digs y.2 ((x :: t).drop y.1) = digs 0 (x :: t)) (fun y => [(5, .int .i64 y.1), (4, .int .i64 y.2), (0, .string ⟨(x :: t).toArray⟩)]) (fun _ => []) (fun y => (x :: t).length - y.1) rfl (0, 0) ⟨Nat.zero_le _, by decide, rfl⟩ ⟨rfl, rfl, rfl, trivial⟩ rfl ?_
   rintro ⟨i, n⟩ ⟨hi, hn, hinv⟩
   dsimp only at hi hn hinv ⊢
   rcases Nat.lt_or_ge i (x :: t).length with hlt2 | hge
   ·obtain ⟨b, hb⟩ : ∃ b, (x :: t)[i]? = some b := ⟨(x :: t)[i], List.getElem?_eq_getElem hlt2⟩
    have hd : (x :: t).drop i = b :: (x :: t).drop (i + 1) := by
     obtain ⟨h1, h2⟩ := List.getElem?_eq_some_iff.1 hb
     rw [List.drop_eq_getElem_cons h1, h2]
    have hp : 10 ^ i ≤ 10 ^ 15 := Nat.pow_le_pow_right (by decide) (by omega)
    have hn2 : n < 1000000000000000 := Nat.lt_of_lt_of_le hn hp
    have hb8 : b.toNat < 256 := UInt8.toNat_lt b
    rw [hd, digs] at hinv
    by_cases hdig : 48 ≤ b.toNat ∧ b.toNat ≤ 57
    ·rw [if_pos hdig] at hinv
     obtain ⟨hd1, hd2⟩ := hdig
     have ho : 10 * ((n : Nat) : Int) + (((b.toNat : Nat) : Int) - 48) = ((10 * n + (b.toNat - 48) : Nat) : Int) := by omega
     repeat' (first | refine SW ?_ | (refine HO_k 8 rfl ?_; refine HO_slen rfl rfl rfl rfl rdA ?_) | refine SD ?_ | (refine HO_k 17 rfl ?_; refine HO_sidx rfl rfl rfl (by omega) (hb) rfl rfl rdA ?_) | (with_reducible refine HO_rw (congrArg (Value.int .i64) ho) ?_) | exact HO_seg rfl rfl | refine S1 ?_ | (refine S2 ?_; intro _) | (refine S3 ?_; intro _ _) | (refine S4 ?_; intro _ _ _) | (refine HO_g 2 rfl ?_; first | apply HO_a1 rfl | apply HO_o1 rfl) | refine S5 ?_ | (intro hb; try replace hb := simB hb; try exact kill hb))
     exact HX_at (i + 1, 10 * n + (b.toNat - 48)) ⟨⟨hlt2, by show 10 * n + (b.toNat - 48) < 10 ^ (i + 1); rw [Nat.pow_succ]; omega, hinv⟩, by show (x :: t).length - (i + 1) < (x :: t).length - i; omega⟩ ⟨rfl, rfl, rfl, trivial⟩ rfl
    ·rw [if_neg hdig] at hinv
     rw [← hinv]
     have hsp : b.toNat < 48 ∨ (¬ b.toNat < 48 ∧ 57 < b.toNat) := by omega
     rcases hsp with hs | ⟨hs, hs2⟩
     all_goals
      repeat' (first | refine SW ?_ | (refine HO_k 8 rfl ?_; refine HO_slen rfl rfl rfl rfl rdA ?_) | refine SD ?_ | (refine HO_k 17 rfl ?_; refine HO_sidx rfl rfl rfl (by omega) (hb) rfl rfl rdA ?_) | exact HO_seg rfl rfl | refine S1 ?_ | (refine S2 ?_; intro _) | (refine S3 ?_; intro _ _) | (refine S4 ?_; intro _ _ _) | (refine HO_g 2 rfl ?_; first | apply HO_a1 rfl | apply HO_o1 rfl) | refine S5 ?_ | (intro hb; try replace hb := simB hb; try exact kill hb))
      (refine SR ?_; unfold RetQ; refine ⟨(), trivial, ?_, Keeps.nil⟩)
      rfl
   ·obtain rfl : i = (x :: t).length := by omega
    rw [List.drop_length] at hinv
    rw [← hinv]
    repeat' (first | refine SW ?_ | (refine HO_k 8 rfl ?_; refine HO_slen rfl rfl rfl rfl rdA ?_) | refine SD ?_ | exact HO_seg rfl rfl | refine S1 ?_ | (refine S2 ?_; intro _) | (refine S3 ?_; intro _ _) | (refine S4 ?_; intro _ _ _) | (refine HO_g 2 rfl ?_; first | apply HO_a1 rfl | apply HO_o1 rfl) | refine S5 ?_ | (intro hb; try replace hb := simB hb; try exact kill hb))
    (refine SR ?_; unfold RetQ; refine ⟨(), trivial, ?_, Keeps.nil⟩)
    rfl
end Go.Proofs.YtbhiojedmkcfoaaGreatDoor
