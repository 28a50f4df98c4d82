/- Part of a proof of many texts: what the theorem at its end leans on. -/
import Derived.Test.YtbhiojedmkcfoaaGreatDoorRAdT
namespace Go.Proofs.YtbhiojedmkcfoaaGreatDoor
set_option linter.unusedVariables false
set_option linter.unusedSimpArgs false
open Go.RowKit
attribute [local irreducible] HC HX HO Tri eP adr
theorem dec3_len (n : Nat) : (dec3 n).length ≤ 3 := by
 unfold dec3
 split
 ·simp
 ·split <;> simp
theorem join_len (a : Nat) : (joinS (dots a)).length ≤ 15 := by
 unfold dots
 rw [join4]
 have h1 := dec3_len (a / 16777216 % 256)
 have h2 := dec3_len (a / 65536 % 256)
 have h3 := dec3_len (a / 256 % 256)
 have h4 := dec3_len (a % 256)
 simp only [List.length_append, List.length_cons]
 omega
theorem dotS_len (a : Nat) : (dotS a).length ≤ 15 := join_len a
theorem dots_take (a j : Nat) (hj : j < 4) : (dots a).take (j + 1) = (dots a).take j ++ [dec3 (a / 2 ^ (24 - 8 * j) % 256)] := by
 obtain h | h | h | h : j = 0 ∨ j = 1 ∨ j = 2 ∨ j = 3 := by omega
 ·subst h; rfl
 ·subst h; rfl
 ·subst h; rfl
 ·subst h
  show dots a = _
  rw [show a / 2 ^ (24 - 8 * 3) = a by simp]
  rfl
theorem dots_ne (a : Nat) : dots a ≠ [] := by simp [dots]
set_option maxHeartbeats 1000000000 in
theorem dotted_t (a : Nat) (ha : a < 4294967296) : Tri Tryz.prog 57 [.int .u32 a] [tab1] [] (fun _ : Unit => True) (fun _ => .string ⟨(dotS a).toArray⟩) (fun _ => []) := by
 refine Tri_of (N := Tryz.f57.ntmps) (c := bodyOf Tryz.f57) Tryz.func57 rfl rfl rfl rfl (fun w0 S0 => ?_)
 repeat' (first | refine SW ?_ | refine SD ?_ | exact HO_seg rfl rfl | refine S1 ?_ | (refine S2 ?_; intro _) | (refine S3 ?_; intro _ _) | (refine S4 ?_; intro _ _ _) | (refine HO_g 2 rfl ?_; first | apply HO_a1 rfl | apply HO_o1 rfl) | refine S5 ?_ | (intro hb; try replace hb := simB hb; try exact kill hb))
 refine HC_keeps (rw' := [ownT (none, 0) []]) (Keeps.add (fun w => own_nil w) Keeps.nil) ?_
 refine HC_loop (α := Nat × OA) (fun x => x.1 ≤ 4) (fun x => [(4, .int .i64 (24 - 8 * (x.1 : Int))), (3, .slice x.2.1 ((dots a).take x.1).length x.2.2), (0, .int .u32 a)]) (fun x => [ownT x.2 ((dots a).take x.1)]) (fun x => 4 - x.1) rfl (0, (none, 0)) (Nat.zero_le _) ⟨rfl, rfl, rfl, trivial⟩ rfl ?_
 rintro ⟨j, ⟨xA, xc⟩⟩ hj
 dsimp only at hj ⊢
 rcases Nat.lt_or_ge j 4 with hlt | hge
 ·have hr := shr_u32 a (24 - 8 * j) (by omega)
  have hs : (24 - 8 * (j : Int)).toNat = 24 - 8 * j := by omega
  rw [← hs] at hr
  have ho := and_255 (a / 2 ^ (24 - 8 * (j : Int)).toNat)
  have hm := Nat.mod_lt (a / 2 ^ (24 - 8 * (j : Int)).toNat) (show 0 < 256 by decide)
  have hi := itoa_t (a / 2 ^ (24 - 8 * (j : Int)).toNat % 256) (by omega)
  have hl4 : ((dots a).take j).length ≤ 4 := by rw [List.length_take]; omega
  repeat' (first | refine SW ?_ | refine SD ?_ | (with_reducible refine HO_rw (congrArg (Value.int .u32) hr) ?_) | (with_reducible refine HO_rw (congrArg (Value.int .u32) ho) ?_) | (refine HO_k 12 rfl ?_; refine HO_callq rfl rfl rfl rfl (hi) (fun _ _ => rfl) (srcsA) rfl rfl sqA ?_) | exact HO_seg rfl rfl | refine S1 ?_ | (refine S2 ?_; intro _) | (refine S3 ?_; intro _ _) | (refine S4 ?_; intro _ _ _) | (refine HO_g 2 rfl ?_; first | apply HO_a1 rfl | apply HO_o1 rfl) | refine S5 ?_ | (intro hb; try replace hb := simB hb; try exact kill hb))
  rename_i b9 A' c'
  have eT := dots_take a j hlt
  rw [hs]
  have eL : ((dots a).take j).length + 1 = ((dots a).take (j + 1)).length := by rw [eT]; simp
  have eM : List.map strE ((dots a).take j) ++ [[Value.string ⟨(dec3 (a / 2 ^ (24 - 8 * j) % 256)).toArray⟩]] = List.map strE ((dots a).take (j + 1)) := by rw [eT, List.map_append]; rfl
  have eS : 24 - 8 * (j : Int) - 8 = 24 - 8 * ((j + 1 : Nat) : Int) := by omega
  rw [eL, eM, eS]
  refine HX_keeps (rw' := [ownT (A', c') ((dots a).take (j + 1))]) permA ?_
  exact HX_at (j + 1, (A', c')) ⟨by show j + 1 ≤ 4; omega, by show 4 - (j + 1) < 4 - j; omega⟩ ⟨rfl, rfl, rfl, trivial⟩ rfl
 ·obtain rfl : j = 4 := by omega
  rw [show (dots a).take 4 = dots a from rfl]
  have hjn := joinS_t xA xc (dots a) (dots_ne a) (by simp [dots]) (by have := join_len a; omega)
  repeat' (first | refine SW ?_ | refine SD ?_ | (refine HO_k 12 rfl ?_; refine HO_callq rfl rfl rfl rfl (hjn) (fun _ _ => rfl) (srcsA) rfl rfl sqA ?_) | exact HO_seg rfl rfl | refine S1 ?_ | (refine S2 ?_; intro _) | (refine S3 ?_; intro _ _) | (refine S4 ?_; intro _ _ _) | (refine HO_g 2 rfl ?_; first | apply HO_a1 rfl | apply HO_o1 rfl) | refine S5 ?_ | (intro hb; try replace hb := simB hb; try exact kill hb))
  (refine SRt ?_; unfold RetQ; refine ⟨(), trivial, ?_, Keeps.nil⟩)
  rfl
set_option maxHeartbeats 1000000000 in
theorem show_t (a : Nat) (ha : a < 4294967296) (n : Int) : Tri Tryz.prog 58 [pfV a n] [tab1] [] (fun _ : Unit => True) (fun _ => .string ⟨(shoS a n).toArray⟩) (fun _ => []) := by
 have hc := addrCheck_t a ha n
 dsimp only [pfV] at hc
 unfold shoS
 cases hx : okX a n
 ·rw [hx] at hc
  refine Tri_of (N := Tryz.f58.ntmps) (c := bodyOf Tryz.f58) Tryz.func58 rfl rfl rfl rfl (fun w0 S0 => ?_)
  dsimp only [pfV]
  repeat' (first | refine SW ?_ | refine SD ?_ | (refine HO_k 12 rfl ?_; refine HO_callq rfl rfl rfl rfl (hc) (fun _ _ => rfl) (trivial) rfl rfl sqA ?_) | exact HO_seg rfl rfl | refine S1 ?_ | (refine S2 ?_; intro _) | (refine S3 ?_; intro _ _) | (refine S4 ?_; intro _ _ _) | (refine HO_g 2 rfl ?_; first | apply HO_a1 rfl | apply HO_o1 rfl) | refine S5 ?_ | (intro hb; try replace hb := simB hb; try exact kill hb))
  (refine SRt ?_; unfold RetQ; refine ⟨(), trivial, ?_, Keeps.nil⟩)
  rfl
 ·rw [hx] at hc
  have hl := okX_len hx
  obtain ⟨k, rfl⟩ : ∃ k : Nat, n = k := ⟨n.toNat, by omega⟩
  have hd := dotted_t a ha
  have hi := itoa_t k (by omega)
  have h1 := dotS_len a
  have h2 := dec3_len k
  rw [if_pos rfl, Int.toNat_natCast]
  have e : dotS a ++ 47 :: dec3 k = (dotS a ++ [47]) ++ dec3 k := by simp
  rw [e]
  refine Tri_of (N := Tryz.f58.ntmps) (c := bodyOf Tryz.f58) Tryz.func58 rfl rfl rfl rfl (fun w0 S0 => ?_)
  dsimp only [pfV]
  repeat' (first | refine SW ?_ | refine SD ?_ | (refine HO_k 12 rfl ?_; refine HO_callq rfl rfl rfl rfl (hc) (fun _ _ => rfl) (trivial) rfl rfl sqA ?_) | (refine HO_k 12 rfl ?_; refine HO_callq rfl rfl rfl rfl (hd) (fun _ _ => rfl) (srcsA) rfl rfl sqA ?_) | (refine HO_k 12 rfl ?_; refine HO_callq rfl rfl rfl rfl (hi) (fun _ _ => rfl) (srcsA) rfl rfl sqA ?_) | (refine HO_k 0 rfl ?_; refine HO_cat rfl rfl rfl (by simp <;> omega) rfl rfl rdA ?_) | exact HO_seg rfl rfl | refine S1 ?_ | (refine S2 ?_; intro _) | (refine S3 ?_; intro _ _) | (refine S4 ?_; intro _ _ _) | (refine HO_g 2 rfl ?_; first | apply HO_a1 rfl | apply HO_o1 rfl) | refine S5 ?_ | (intro hb; try replace hb := simB hb; try exact kill hb))
  (refine SRt ?_; unfold RetQ; refine ⟨(), trivial, ?_, Keeps.nil⟩)
  rfl
def adV : Option Nat → Value
 | none => .tuple #[.int .u32 0, .int .i64 20]
 | some a => .tuple #[.int .u32 a, .int .i64 0]
theorem or8 (a n : Nat) (ha : a < 16777216) (hn : n < 256) : bOr .u32 (bShl .u32 ((a : Nat) : Int) 8) ((n : Nat) : Int) = ((256 * a + n : Nat) : Int) := by
 have e1 : bShl .u32 (a : Int) 8 = ((a * 256 : Nat) : Int) := by
  unfold bShl
  simp [IntKind.bits, IntKind.wrap, IntKind.signed]
  omega
 have e3 : bOr .u32 ((a * 256 : Nat) : Int) ((n : Nat) : Int) = ((a * 256 ||| n : Nat) : Int) := by
  have hx : a * 256 ||| n < 2 ^ 32 := Nat.or_lt_two_pow (by omega) (by omega)
  unfold bOr
  rw [BitVec.ofInt_natCast, BitVec.ofInt_natCast, BitVec.toNat_or, BitVec.toNat_ofNat, BitVec.toNat_ofNat]
  rw [Nat.mod_eq_of_lt (show a * 256 < 2 ^ IntKind.u32.bits by simp [IntKind.bits]; omega), Nat.mod_eq_of_lt (show n < 2 ^ IntKind.u32.bits by simp [IntKind.bits]; omega)]
  simp [IntKind.bits, IntKind.wrap, IntKind.signed]
  omega
 rw [e1, e3, Nat.mul_comm 256 a]
 congr 1
 have := Nat.shiftLeft_add_eq_or_of_lt (show n < 2 ^ 8 from hn) a
 rw [Nat.shiftLeft_eq] at this
 exact this.symm
theorem foldA_drop {L : List (List UInt8)} {j a : Nat} {x : List UInt8} (h : L[j]? = some x) : foldA a (L.drop j) = match smM 255 x with
  | none => none
  | some n => foldA (256 * a + n) (L.drop (j + 1)) := by
 obtain ⟨hj, rfl⟩ := List.getElem?_eq_some_iff.1 h
 rw [List.drop_eq_getElem_cons hj]
 rfl
theorem sm_cases (m : Nat) (l : List UInt8) : (smM m l = none ∧ (smR l = none ∨ ∃ n, smR l = some n ∧ m < n)) ∨ ∃ n, n ≤ m ∧ smM m l = some n ∧ smR l = some n := by
 unfold smM
 cases h : smR l with
 | none => exact .inl ⟨rfl, .inl rfl⟩
 | some n =>
  by_cases hn : n ≤ m
  ·exact .inr ⟨n, hn, if_pos hn, rfl⟩
  ·exact .inl ⟨if_neg hn, .inr ⟨n, rfl, by omega⟩⟩
theorem pow256 {a j : Nat} (h : a < 256 ^ j) (hj : j < 4) : a < 16777216 := Nat.lt_of_lt_of_le h (Nat.pow_le_pow_right (n := 256) (by decide) (show j ≤ 3 by omega))
set_option maxHeartbeats 1000000000 in
theorem aaddr_t (m : Int) (l : List UInt8) (hl : l.length ≤ 100000) : Tri Tryz.prog 192 [.string ⟨l.toArray⟩] [maxLen0 m] [] (fun _ : Unit => True) (fun _ => adV (adR l)) (fun _ => []) := by
 have hsp := splS_t m l (by omega)
 unfold adR
 obtain ⟨L, hL⟩ : ∃ L, splB 46 l = L := ⟨_, rfl⟩
 rw [hL] at hsp ⊢
 by_cases h4 : L.length = 4
 ·rw [if_pos h4]
  refine Tri_of (N := Tryz.f192.ntmps) (c := bodyOf Tryz.f192) Tryz.func192 rfl rfl rfl rfl (fun w0 S0 => ?_)
  repeat' (first | refine SW ?_ | refine SD ?_ | (refine HO_k 12 rfl ?_; refine HO_call rfl rfl rfl rfl (hsp) rfl (srcsA) rfl rfl soA ?_; intro b hx; dsimp only [lca, lna]) | exact HO_seg rfl rfl | refine S1 ?_ | (refine S2 ?_; intro _) | (refine S3 ?_; intro _ _) | (refine S4 ?_; intro _ _ _) | (refine HO_g 2 rfl ?_; first | apply HO_a1 rfl | apply HO_o1 rfl) | refine S5 ?_ | (intro hb; try replace hb := simB hb; try exact kill hb))
  refine HC_loop (α := Nat × Nat) (fun x => x.1 ≤ 4 ∧ x.2 < 256 ^ x.1 ∧ foldA x.2 (L.drop x.1) = foldA 0 L) (fun x => [(17, .int .i64 x.1), (16, .int .i64 L.length), (15, .slice (some ⟨b, 0, none⟩) L.length L.length), (5, .int .u32 x.2)]) (fun _ => [arr strE 1 (some ⟨b, 0, none⟩) L]) (fun x => 4 - x.1) rfl (0, 0) ⟨Nat.zero_le _, by decide, rfl⟩ ⟨rfl, rfl, rfl, rfl, trivial⟩ rfl ?_
  rintro ⟨j, a⟩ ⟨hj, ha, hf⟩
  dsimp only at hj ha hf ⊢
  rcases Nat.lt_or_ge j 4 with hlt | hge
  ·obtain ⟨x, hx⟩ : ∃ x, L[j]? = some x := ⟨L[j], List.getElem?_eq_getElem (by omega)⟩
   rw [foldA_drop hx] at hf
   have ha' := pow256 ha hlt
   have hs : Tri Tryz.prog 227 [.string ⟨x.toArray⟩, .int .i64 255] [] [] (fun _ : Unit => True) (fun _ => smV x 255) (fun _ => []) := small_t x 255
   rcases sm_cases 255 x with ⟨h1, h2 | ⟨n, h2, h3⟩⟩ | ⟨n, h3, h1, h2⟩
   ·rw [h1] at hf
    rw [← hf]
    unfold smV at hs
    rw [h2] at hs
    repeat' (first | refine SW ?_ | refine SD ?_ | (refine HO_k 12 rfl ?_; refine HO_callq rfl rfl rfl rfl (hs) (fun _ _ => rfl) (trivial) rfl rfl sqA ?_) | exact HO_seg rfl rfl | refine S1 ?_ | (refine S2 ?_; intro _) | (refine S3 ?_; intro _ _) | (refine S4 ?_; intro _ _ _) | (refine HO_g 2 rfl ?_; first | apply HO_a1 rfl | apply HO_o1 rfl) | refine S5 ?_ | (intro hb; try replace hb := simB hb; try exact kill hb))
    (refine SRt ?_; unfold RetQ; refine ⟨(), trivial, ?_, Keeps.nil⟩)
    rfl
   ·rw [h1] at hf
    rw [← hf]
    unfold smV at hs
    rw [h2] at hs
    repeat' (first | refine SW ?_ | refine SD ?_ | (refine HO_k 12 rfl ?_; refine HO_callq rfl rfl rfl rfl (hs) (fun _ _ => rfl) (trivial) rfl rfl sqA ?_) | exact HO_seg rfl rfl | refine S1 ?_ | (refine S2 ?_; intro _) | (refine S3 ?_; intro _ _) | (refine S4 ?_; intro _ _ _) | (refine HO_g 2 rfl ?_; first | apply HO_a1 rfl | apply HO_o1 rfl) | refine S5 ?_ | (intro hb; try replace hb := simB hb; try exact kill hb))
    (refine SRt ?_; unfold RetQ; refine ⟨(), trivial, ?_, Keeps.nil⟩)
    rfl
   ·rw [h1] at hf
    unfold smV at hs
    rw [h2] at hs
    have ho := or8 a n ha' (by omega)
    repeat' (first | refine SW ?_ | refine SD ?_ | (refine HO_k 12 rfl ?_; refine HO_callq rfl rfl rfl rfl (hs) (fun _ _ => rfl) (trivial) rfl rfl sqA ?_) | (with_reducible refine HO_rw (congrArg (Value.int .u32) ho) ?_) | exact HO_seg rfl rfl | refine S1 ?_ | (refine S2 ?_; intro _) | (refine S3 ?_; intro _ _) | (refine S4 ?_; intro _ _ _) | (refine HO_g 2 rfl ?_; first | apply HO_a1 rfl | apply HO_o1 rfl) | refine S5 ?_ | (intro hb; try replace hb := simB hb; try exact kill hb))
    exact HX_at (j + 1, 256 * a + n) ⟨⟨hlt, by rw [Nat.pow_succ]; omega, hf⟩, by show 4 - (j + 1) < 4 - j; omega⟩ ⟨rfl, rfl, rfl, rfl, trivial⟩ rfl
  ·obtain rfl : j = 4 := by omega
   rw [List.drop_of_length_le (by omega)] at hf
   rw [← hf]
   repeat' (first | refine SW ?_ | refine SD ?_ | exact HO_seg rfl rfl | refine S1 ?_ | (refine S2 ?_; intro _) | (refine S3 ?_; intro _ _) | (refine S4 ?_; intro _ _ _) | (refine HO_g 2 rfl ?_; first | apply HO_a1 rfl | apply HO_o1 rfl) | refine S5 ?_ | (intro hb; try replace hb := simB hb; try exact kill hb))
   (refine SRt ?_; unfold RetQ; refine ⟨(), trivial, ?_, Keeps.nil⟩)
   rfl
 ·rw [if_neg h4]
  refine Tri_of (N := Tryz.f192.ntmps) (c := bodyOf Tryz.f192) Tryz.func192 rfl rfl rfl rfl (fun w0 S0 => ?_)
  repeat' (first | refine SW ?_ | refine SD ?_ | (refine HO_k 12 rfl ?_; refine HO_call rfl rfl rfl rfl (hsp) rfl (srcsA) rfl rfl soA ?_; intro b hx; dsimp only [lca, lna]) | exact HO_seg rfl rfl | refine S1 ?_ | (refine S2 ?_; intro _) | (refine S3 ?_; intro _ _) | (refine S4 ?_; intro _ _ _) | (refine HO_g 2 rfl ?_; first | apply HO_a1 rfl | apply HO_o1 rfl) | refine S5 ?_ | (intro hb; try replace hb := simB hb; try exact kill hb))
  (refine SRt ?_; unfold RetQ; refine ⟨(), trivial, ?_, Keeps.nil⟩)
  rfl
def paV : Option (Nat × Nat) → Value
 | none => .tuple #[pfV 0 0, .int .i64 20]
 | some (a, n) => .tuple #[pfV a n, .int .i64 0]
theorem cutC_len (c : UInt8) : ∀ l : List UInt8, (cutC c l).1.length ≤ l.length ∧ (cutC c l).2.1.length ≤ l.length
 | [] => ⟨Nat.le_refl _, Nat.le_refl _⟩
 | x :: l => by
  have ih := cutC_len c l
  unfold cutC
  split
  ·exact ⟨Nat.zero_le _, by simp⟩
  ·simp only [List.length_cons]
   omega
set_option maxHeartbeats 1000000000 in
theorem aparse_t (m : Int) (l : List UInt8) (hl : l.length ≤ 100000) : Tri Tryz.prog 193 [.string ⟨l.toArray⟩] [maxLen0 m] [] (fun _ : Unit => True) (fun _ => paV (paR l)) (fun _ => []) := by
 have hcut := cutS_t m l (by omega)
 have hlen := cutC_len 47 l
 unfold paR
 obtain ⟨⟨x, y, is⟩, hL⟩ : ∃ L, cutC 47 l = L := ⟨_, rfl⟩
 rw [hL] at hcut hlen ⊢
 dsimp only at hcut hlen ⊢
 have had := aaddr_t m x (by omega)
 have hs : Tri Tryz.prog 227 [.string ⟨y.toArray⟩, .int .i64 32] [] [] (fun _ : Unit => True) (fun _ => smV y 32) (fun _ => []) := small_t y 32
 have hsv : smV y 32 = .tuple #[.int .i64 ((match smR y with | none => 0 | some n => n : Nat) : Int), .bool (smM 32 y).isSome] := by
  unfold smV smM
  cases h : smR y with
  | none => rfl
  | some n =>
   by_cases hn : n ≤ 32
   ·dsimp only
    rw [if_pos hn, decide_eq_true (show ((n : Nat) : Int) ≤ ((32 : Nat) : Int) by omega)]
    rfl
   ·dsimp only
    rw [if_neg hn, decide_eq_false (show ¬ ((n : Nat) : Int) ≤ ((32 : Nat) : Int) by omega)]
    rfl
 rw [hsv] at hs
 cases his : is
 ·subst his
  rw [if_neg (by decide)]
  cases hA : adR x with
  | none =>
   rw [hA] at had
   unfold adV at had
   refine Tri_of (N := Tryz.f193.ntmps) (c := bodyOf Tryz.f193) Tryz.func193 rfl rfl rfl rfl (fun w0 S0 => ?_)
   repeat' (first | refine SW ?_ | refine SD ?_ | (refine HO_k 12 rfl ?_; refine HO_callq rfl rfl rfl rfl (hcut) (fun _ _ => rfl) (srcsA) rfl rfl sqA ?_) | (refine HO_k 12 rfl ?_; refine HO_callq rfl rfl rfl rfl (had) (fun _ _ => rfl) (srcsA) rfl rfl sqA ?_) | (refine HO_k 12 rfl ?_; refine HO_callq rfl rfl rfl rfl (hs) (fun _ _ => rfl) (trivial) rfl rfl sqA ?_) | exact HO_seg rfl rfl | refine S1 ?_ | (refine S2 ?_; intro _) | (refine S3 ?_; intro _ _) | (refine S4 ?_; intro _ _ _) | (refine HO_g 2 rfl ?_; first | apply HO_a1 rfl | apply HO_o1 rfl) | refine S5 ?_ | (intro hb; try replace hb := simB hb; try exact kill hb))
   (refine SRt ?_; unfold RetQ; refine ⟨(), trivial, ?_, Keeps.nil⟩)
   rfl
  | some a =>
   rw [hA] at had
   unfold adV at had
   refine Tri_of (N := Tryz.f193.ntmps) (c := bodyOf Tryz.f193) Tryz.func193 rfl rfl rfl rfl (fun w0 S0 => ?_)
   repeat' (first | refine SW ?_ | refine SD ?_ | (refine HO_k 12 rfl ?_; refine HO_callq rfl rfl rfl rfl (hcut) (fun _ _ => rfl) (srcsA) rfl rfl sqA ?_) | (refine HO_k 12 rfl ?_; refine HO_callq rfl rfl rfl rfl (had) (fun _ _ => rfl) (srcsA) rfl rfl sqA ?_) | (refine HO_k 12 rfl ?_; refine HO_callq rfl rfl rfl rfl (hs) (fun _ _ => rfl) (trivial) rfl rfl sqA ?_) | exact HO_seg rfl rfl | refine S1 ?_ | (refine S2 ?_; intro _) | (refine S3 ?_; intro _ _) | (refine S4 ?_; intro _ _ _) | (refine HO_g 2 rfl ?_; first | apply HO_a1 rfl | apply HO_o1 rfl) | refine S5 ?_ | (intro hb; try replace hb := simB hb; try exact kill hb))
   (refine SRt ?_; unfold RetQ; refine ⟨(), trivial, ?_, Keeps.nil⟩)
   rfl
 ·subst his
  rw [if_pos rfl]
  cases hA : adR x with
  | none =>
   rw [hA] at had
   unfold adV at had
   refine Tri_of (N := Tryz.f193.ntmps) (c := bodyOf Tryz.f193) Tryz.func193 rfl rfl rfl rfl (fun w0 S0 => ?_)
   repeat' (first | refine SW ?_ | refine SD ?_ | (refine HO_k 12 rfl ?_; refine HO_callq rfl rfl rfl rfl (hcut) (fun _ _ => rfl) (srcsA) rfl rfl sqA ?_) | (refine HO_k 12 rfl ?_; refine HO_callq rfl rfl rfl rfl (had) (fun _ _ => rfl) (srcsA) rfl rfl sqA ?_) | (refine HO_k 12 rfl ?_; refine HO_callq rfl rfl rfl rfl (hs) (fun _ _ => rfl) (trivial) rfl rfl sqA ?_) | exact HO_seg rfl rfl | refine S1 ?_ | (refine S2 ?_; intro _) | (refine S3 ?_; intro _ _) | (refine S4 ?_; intro _ _ _) | (refine HO_g 2 rfl ?_; first | apply HO_a1 rfl | apply HO_o1 rfl) | refine S5 ?_ | (intro hb; try replace hb := simB hb; try exact kill hb))
   (refine SRt ?_; unfold RetQ; refine ⟨(), trivial, ?_, Keeps.nil⟩)
   rfl
  | some a =>
   rw [hA] at had
   unfold adV at had
   have ha := adR_lt hA
   rcases sm_cases 32 y with ⟨h1, _⟩ | ⟨n, h3, h1, h2⟩
   ·rw [h1] at hs ⊢
    rw [show (Option.none : Option Nat).isSome = false from rfl] at hs
    refine Tri_of (N := Tryz.f193.ntmps) (c := bodyOf Tryz.f193) Tryz.func193 rfl rfl rfl rfl (fun w0 S0 => ?_)
    repeat' (first | refine SW ?_ | refine SD ?_ | (refine HO_k 12 rfl ?_; refine HO_callq rfl rfl rfl rfl (hcut) (fun _ _ => rfl) (srcsA) rfl rfl sqA ?_) | (refine HO_k 12 rfl ?_; refine HO_callq rfl rfl rfl rfl (had) (fun _ _ => rfl) (srcsA) rfl rfl sqA ?_) | (refine HO_k 12 rfl ?_; refine HO_callq rfl rfl rfl rfl (hs) (fun _ _ => rfl) (trivial) rfl rfl sqA ?_) | exact HO_seg rfl rfl | refine S1 ?_ | (refine S2 ?_; intro _) | (refine S3 ?_; intro _ _) | (refine S4 ?_; intro _ _ _) | (refine HO_g 2 rfl ?_; first | apply HO_a1 rfl | apply HO_o1 rfl) | refine S5 ?_ | (intro hb; try replace hb := simB hb; try exact kill hb))
    (refine SRt ?_; unfold RetQ; refine ⟨(), trivial, ?_, Keeps.nil⟩)
    rfl
   ·rw [h1, h2] at hs
    rw [h1]
    rw [show (some n).isSome = true from rfl] at hs
    dsimp only at hs ⊢
    have hc := addrCheck_t a ha n
    dsimp only [pfV] at hc
    cases hx : okX a n
    ·rw [hx] at hc
     rw [if_neg (by decide)]
     refine Tri_of (N := Tryz.f193.ntmps) (c := bodyOf Tryz.f193) Tryz.func193 rfl rfl rfl rfl (fun w0 S0 => ?_)
     repeat' (first | refine SW ?_ | refine SD ?_ | (refine HO_k 12 rfl ?_; refine HO_callq rfl rfl rfl rfl (hcut) (fun _ _ => rfl) (srcsA) rfl rfl sqA ?_) | (refine HO_k 12 rfl ?_; refine HO_callq rfl rfl rfl rfl (had) (fun _ _ => rfl) (srcsA) rfl rfl sqA ?_) | (refine HO_k 12 rfl ?_; refine HO_callq rfl rfl rfl rfl (hs) (fun _ _ => rfl) (trivial) rfl rfl sqA ?_) | (refine HO_k 12 rfl ?_; refine HO_callq rfl rfl rfl rfl (hc) (fun _ _ => rfl) (trivial) rfl rfl sqA ?_) | exact HO_seg rfl rfl | refine S1 ?_ | (refine S2 ?_; intro _) | (refine S3 ?_; intro _ _) | (refine S4 ?_; intro _ _ _) | (refine HO_g 2 rfl ?_; first | apply HO_a1 rfl | apply HO_o1 rfl) | refine S5 ?_ | (intro hb; try replace hb := simB hb; try exact kill hb))
     (refine SRt ?_; unfold RetQ; refine ⟨(), trivial, ?_, Keeps.nil⟩)
     rfl
    ·rw [hx] at hc
     rw [if_pos rfl]
     refine Tri_of (N := Tryz.f193.ntmps) (c := bodyOf Tryz.f193) Tryz.func193 rfl rfl rfl rfl (fun w0 S0 => ?_)
     repeat' (first | refine SW ?_ | refine SD ?_ | (refine HO_k 12 rfl ?_; refine HO_callq rfl rfl rfl rfl (hcut) (fun _ _ => rfl) (srcsA) rfl rfl sqA ?_) | (refine HO_k 12 rfl ?_; refine HO_callq rfl rfl rfl rfl (had) (fun _ _ => rfl) (srcsA) rfl rfl sqA ?_) | (refine HO_k 12 rfl ?_; refine HO_callq rfl rfl rfl rfl (hs) (fun _ _ => rfl) (trivial) rfl rfl sqA ?_) | (refine HO_k 12 rfl ?_; refine HO_callq rfl rfl rfl rfl (hc) (fun _ _ => rfl) (trivial) rfl rfl sqA ?_) | exact HO_seg rfl rfl | refine S1 ?_ | (refine S2 ?_; intro _) | (refine S3 ?_; intro _ _) | (refine S4 ?_; intro _ _ _) | (refine HO_g 2 rfl ?_; first | apply HO_a1 rfl | apply HO_o1 rfl) | refine S5 ?_ | (intro hb; try replace hb := simB hb; try exact kill hb))
     (refine SRt ?_; unfold RetQ; refine ⟨(), trivial, ?_, Keeps.nil⟩)
     rfl
theorem splB_mem (c : UInt8) : ∀ l : List UInt8, ∀ x ∈ splB c l, x.length ≤ l.length
 | [], x, h => by
  simp [splB] at h
  subst h
  exact Nat.le_refl _
 | a :: l, x, h => by
  have ih := splB_mem c l
  unfold splB at h
  split at h
  ·rcases List.mem_cons.1 h with e | h
   ·subst e; exact Nat.zero_le _
   ·have := ih x h
    simp only [List.length_cons]
    omega
  ·split at h
   ·simp at h
    subst h
    simp
   ·rename_i hd tl e
    rcases List.mem_cons.1 h with e' | h
    ·subst e'
     have := ih hd (by rw [e]; exact List.mem_cons_self)
     simp only [List.length_cons]
     omega
    ·have := ih x (by rw [e]; exact List.mem_cons_of_mem _ h)
     simp only [List.length_cons]
     omega
end Go.Proofs.YtbhiojedmkcfoaaGreatDoor
