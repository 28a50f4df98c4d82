/- Part of a proof of many texts: what the theorem at its end leans on. -/
import Derived.Test.YtbhiojedmkcfoaaGreatDoorZAdT
namespace Go.Proofs.YtbhiojedmkcfoaaGreatDoor
set_option linter.unusedVariables false
set_option linter.unusedSimpArgs false
open Go.RowKit
attribute [local irreducible] HC HX HO Tri eP adr
theorem dec3_len (n : Nat) : (dec3 n).length ≤ 3 := by
 unfold dec3
 split
 ·simp
 ·split <;> simp
theorem join_len (a : Nat) : (joinS (dots a)).length ≤ 15 := by
 unfold dots
 rw [join4]
 have h1 := dec3_len (a / 16777216 % 256)
 have h2 := dec3_len (a / 65536 % 256)
 have h3 := dec3_len (a / 256 % 256)
 have h4 := dec3_len (a % 256)
 simp only [List.length_append, List.length_cons]
 omega
theorem dotS_len (a : Nat) : (dotS a).length ≤ 15 := join_len a
theorem dots_take (a j : Nat) (hj : j < 4) : (dots a).take (j + 1) = (dots a).take j ++ [dec3 (a / 2 ^ (24 - 8 * j) % 256)] := by
 obtain h | h | h | h : j = 0 ∨ j = 1 ∨ j = 2 ∨ j = 3 := by omega
 ·subst h; rfl
 ·subst h; rfl
 ·subst h; rfl
 ·subst h
  show dots a = _
  rw [show a / 2 ^ (24 - 8 * 3) = a by simp]
  rfl
theorem dots_ne (a : Nat) : dots a ≠ [] := by simp [dots]
set_option maxHeartbeats 8000000 in
theorem dotted_t (a : Nat) (ha : a < 4294967296) : Tri Tryz.prog 57 [.int .u32 a] [tab1] [] (fun _ : Unit => True) (fun _ => .string ⟨(dotS a).toArray⟩) (fun _ => []) := by
 refine Tri_of (N := Tryz.f57.ntmps) (c := bodyOf Tryz.f57) Tryz.func57 rfl rfl rfl rfl (fun w0 S0 => ?_)
 repeat' (first | refine SW ?_ | refine SD ?_ | exact HO_seg rfl rfl | refine S1 ?_ | (refine S2 ?_; intro _) | (refine S3 ?_; intro _ _) | (refine S4 ?_; intro _ _ _) | (refine HO_g 2 rfl ?_; first | apply HO_a1 rfl | apply HO_o1 rfl) | refine S5 ?_ | (intro hb; try replace hb := simB hb; try exact kill hb))
 refine HC_keeps (rw' := [ownT (none, 0) []]) (Keeps.add (fun w => own_nil w) Keeps.nil) ?_
 refine HC_loop (α := Nat × OA) (fun x => x.1 ≤ 4) (fun x => [(4, .int .i64 (24 - 8 * (x.1 : Int))), (3, .slice x.2.1 ((dots a).take x.1).length x.2.2), (0, .int .u32 a)]) (fun x => [ownT x.2 ((dots a).take x.1)]) (fun x => 4 - x.1) rfl (0, (none, 0)) (Nat.zero_le _) ⟨rfl, rfl, rfl, trivial⟩ rfl ?_
 rintro ⟨j, ⟨xA, xc⟩⟩ hj
 dsimp only at hj ⊢
 rcases Nat.lt_or_ge j 4 with hlt | hge
 ·have hr := shr_u32 a (24 - 8 * j) (by omega)
  have hs : (24 - 8 * (j : Int)).toNat = 24 - 8 * j := by omega
  rw [← hs] at hr
  have ho := and_255 (a / 2 ^ (24 - 8 * (j : Int)).toNat)
  have hm := Nat.mod_lt (a / 2 ^ (24 - 8 * (j : Int)).toNat) (show 0 < 256 by decide)
  have hi := itoa_t (a / 2 ^ (24 - 8 * (j : Int)).toNat % 256) (by omega)
  have hl4 : ((dots a).take j).length ≤ 4 := by rw [List.length_take]; omega
  repeat' (first | refine SW ?_ | refine SD ?_ | (with_reducible refine HO_rw (congrArg (Value.int .u32) hr) ?_) | (with_reducible refine HO_rw (congrArg (Value.int .u32) ho) ?_) | (refine HO_k 12 rfl ?_; refine HO_callq rfl rfl rfl rfl (hi) (fun _ _ => rfl) (srcsA) rfl rfl sqA ?_) | exact HO_seg rfl rfl | refine S1 ?_ | (refine S2 ?_; intro _) | (refine S3 ?_; intro _ _) | (refine S4 ?_; intro _ _ _) | (refine HO_g 2 rfl ?_; first | apply HO_a1 rfl | apply HO_o1 rfl) | refine S5 ?_ | (intro hb; try replace hb := simB hb; try exact kill hb))
  rename_i b9 A' c'
  have eT := dots_take a j hlt
  rw [hs]
  have eL : ((dots a).take j).length + 1 = ((dots a).take (j + 1)).length := by rw [eT]; simp
  have eM : List.map strE ((dots a).take j) ++ [[Value.string ⟨(dec3 (a / 2 ^ (24 - 8 * j) % 256)).toArray⟩]] = List.map strE ((dots a).take (j + 1)) := by rw [eT, List.map_append]; rfl
  have eS : 24 - 8 * (j : Int) - 8 = 24 - 8 * ((j + 1 : Nat) : Int) := by omega
  rw [eL, eM, eS]
  refine HX_keeps (rw' := [ownT (A', c') ((dots a).take (j + 1))]) permA ?_
  exact HX_at (j + 1, (A', c')) ⟨by show j + 1 ≤ 4; omega, by show 4 - (j + 1) < 4 - j; omega⟩ ⟨rfl, rfl, rfl, trivial⟩ rfl
 ·obtain rfl : j = 4 := by omega
  rw [show (dots a).take 4 = dots a from rfl]
  have hjn := joinS_t xA xc (dots a) (dots_ne a) (by simp [dots]) (by have := join_len a; omega)
  repeat' (first | refine SW ?_ | refine SD ?_ | (refine HO_k 12 rfl ?_; refine HO_callq rfl rfl rfl rfl (hjn) (fun _ _ => rfl) (srcsA) rfl rfl sqA ?_) | exact HO_seg rfl rfl | refine S1 ?_ | (refine S2 ?_; intro _) | (refine S3 ?_; intro _ _) | (refine S4 ?_; intro _ _ _) | (refine HO_g 2 rfl ?_; first | apply HO_a1 rfl | apply HO_o1 rfl) | refine S5 ?_ | (intro hb; try replace hb := simB hb; try exact kill hb))
  (refine SR ?_; unfold RetQ; refine ⟨(), trivial, ?_, Keeps.nil⟩)
  rfl
set_option maxHeartbeats 8000000 in
theorem show_t (a : Nat) (ha : a < 4294967296) (n : Int) : Tri Tryz.prog 58 [pfV a n] [tab1] [] (fun _ : Unit => True) (fun _ => .string ⟨(shoS a n).toArray⟩) (fun _ => []) := by
 have hc := addrCheck_t a ha n
 dsimp only [pfV] at hc
 unfold shoS
 cases hx : okX a n
 ·rw [hx] at hc
  refine Tri_of (N := Tryz.f58.ntmps) (c := bodyOf Tryz.f58) Tryz.func58 rfl rfl rfl rfl (fun w0 S0 => ?_)
  dsimp only [pfV]
  repeat' (first | refine SW ?_ | refine SD ?_ | (refine HO_k 12 rfl ?_; refine HO_callq rfl rfl rfl rfl (hc) (fun _ _ => rfl) (trivial) rfl rfl sqA ?_) | exact HO_seg rfl rfl | refine S1 ?_ | (refine S2 ?_; intro _) | (refine S3 ?_; intro _ _) | (refine S4 ?_; intro _ _ _) | (refine HO_g 2 rfl ?_; first | apply HO_a1 rfl | apply HO_o1 rfl) | refine S5 ?_ | (intro hb; try replace hb := simB hb; try exact kill hb))
  (refine SR ?_; unfold RetQ; refine ⟨(), trivial, ?_, Keeps.nil⟩)
  rfl
 ·rw [hx] at hc
  have hl := okX_len hx
  obtain ⟨k, rfl⟩ : ∃ k : Nat, n = k := ⟨n.toNat, by omega⟩
  have hd := dotted_t a ha
  have hi := itoa_t k (by omega)
  have h1 := dotS_len a
  have h2 := dec3_len k
  rw [if_pos rfl, Int.toNat_natCast]
  have e : dotS a ++ 47 :: dec3 k = (dotS a ++ [47]) ++ dec3 k := by simp
  rw [e]
  refine Tri_of (N := Tryz.f58.ntmps) (c := bodyOf Tryz.f58) Tryz.func58 rfl rfl rfl rfl (fun w0 S0 => ?_)
  dsimp only [pfV]
  repeat' (first | refine SW ?_ | refine SD ?_ | (refine HO_k 12 rfl ?_; refine HO_callq rfl rfl rfl rfl (hc) (fun _ _ => rfl) (trivial) rfl rfl sqA ?_) | (refine HO_k 12 rfl ?_; refine HO_callq rfl rfl rfl rfl (hd) (fun _ _ => rfl) (srcsA) rfl rfl sqA ?_) | (refine HO_k 12 rfl ?_; refine HO_callq rfl rfl rfl rfl (hi) (fun _ _ => rfl) (srcsA) rfl rfl sqA ?_) | (refine HO_k 0 rfl ?_; refine HO_cat rfl rfl rfl (by simp <;> omega) rfl rfl rdA ?_) | exact HO_seg rfl rfl | refine S1 ?_ | (refine S2 ?_; intro _) | (refine S3 ?_; intro _ _) | (refine S4 ?_; intro _ _ _) | (refine HO_g 2 rfl ?_; first | apply HO_a1 rfl | apply HO_o1 rfl) | refine S5 ?_ | (intro hb; try replace hb := simB hb; try exact kill hb))
  (refine SR ?_; unfold RetQ; refine ⟨(), trivial, ?_, Keeps.nil⟩)
  rfl
theorem be_four (a : Nat) : be 4 a = [UInt8.ofNat (a / 16777216), UInt8.ofNat (a / 65536), UInt8.ofNat (a / 256), UInt8.ofNat a] := by
 simp [be]
theorem ofN (n : Nat) : (UInt8.ofNat n).toNat = n % 256 := by simp
theorem dotS_eq (a : Nat) : dotS a = dec3 (a / 16777216 % 256) ++ [46] ++ dec3 (a / 65536 % 256) ++ [46] ++ dec3 (a / 256 % 256) ++ [46] ++ dec3 (a % 256) := by
 unfold dotS dots
 rw [join4]
 simp
set_option maxHeartbeats 8000000 in
theorem rdotted_t (a : Nat) (ha : a < 4294967296) : Tri Tryz.prog 77 [.int .u32 a] [] [] (fun _ : Unit => True) (fun _ => .string ⟨(dotS a).toArray⟩) (fun _ => []) := by
 have hp := rput_t 4 a (by decide) (by omega)
 rw [dotS_eq]
 have hbe := be_four a
 obtain ⟨b0, e0, hb0⟩ : ∃ b, b.toNat = a / 16777216 % 256 ∧ (be 4 a)[0]? = some b := ⟨_, ofN _, by rw [hbe]; rfl⟩
 obtain ⟨b1, e1, hb1⟩ : ∃ b, b.toNat = a / 65536 % 256 ∧ (be 4 a)[1]? = some b := ⟨_, ofN _, by rw [hbe]; rfl⟩
 obtain ⟨b2, e2, hb2⟩ : ∃ b, b.toNat = a / 256 % 256 ∧ (be 4 a)[2]? = some b := ⟨_, ofN _, by rw [hbe]; rfl⟩
 obtain ⟨b3, e3, hb3⟩ : ∃ b, b.toNat = a % 256 ∧ (be 4 a)[3]? = some b := ⟨_, ofN _, by rw [hbe]; rfl⟩
 clear hbe
 have hl := be_length 4 a
 have l0 := dec3_len b0.toNat
 have l1 := dec3_len b1.toNat
 have l2 := dec3_len b2.toNat
 have l3 := dec3_len b3.toNat
 have d0 := digits_t b0.toNat (by have := b0.toNat_lt; omega)
 have d1 := digits_t b1.toNat (by have := b1.toNat_lt; omega)
 have d2 := digits_t b2.toNat (by have := b2.toNat_lt; omega)
 have d3 := digits_t b3.toNat (by have := b3.toNat_lt; omega)
 have k0 := b0.toNat_lt
 have k1 := b1.toNat_lt
 have k2 := b2.toNat_lt
 have k3 := b3.toNat_lt
 rw [← e0, ← e1, ← e2, ← e3]
 clear e0 e1 e2 e3
 generalize be 4 a = t at *
 refine Tri_of (N := Tryz.f77.ntmps) (c := bodyOf Tryz.f77) Tryz.func77 rfl rfl rfl rfl (fun w0 S0 => ?_)
 repeat' (first | refine SW ?_ | refine SD ?_ | (refine HO_k 12 rfl ?_; refine HO_call rfl rfl rfl rfl (hp) rfl (trivial) rfl rfl soA ?_; intro ⟨xA, xc⟩ hx; dsimp only [lca, lna]) | (refine HO_k 12 rfl ?_; refine HO_callq rfl rfl rfl rfl (d0) (fun _ _ => rfl) (trivial) rfl rfl sqA ?_) | (refine HO_k 12 rfl ?_; refine HO_callq rfl rfl rfl rfl (d1) (fun _ _ => rfl) (trivial) rfl rfl sqA ?_) | (refine HO_k 12 rfl ?_; refine HO_callq rfl rfl rfl rfl (d2) (fun _ _ => rfl) (trivial) rfl rfl sqA ?_) | (refine HO_k 12 rfl ?_; refine HO_callq rfl rfl rfl rfl (d3) (fun _ _ => rfl) (trivial) rfl rfl sqA ?_) | (refine HO_k 0 rfl ?_; refine HO_cat rfl rfl rfl (by simp <;> omega) rfl rfl rdA ?_) | exact HO_seg rfl rfl | refine S1 ?_ | (refine S2 ?_; intro _) | (refine S3 ?_; intro _ _) | (refine S4 ?_; intro _ _ _) | (refine HO_g 2 rfl ?_; first | apply HO_a1 rfl | apply HO_o1 rfl) | refine S5 ?_ | (intro hb; try replace hb := simB hb; try exact kill hb))
 (refine SR ?_; unfold RetQ; refine ⟨(), trivial, ?_, Keeps.nil⟩)
 rfl
set_option maxHeartbeats 8000000 in
theorem rshow_t (a : Nat) (ha : a < 4294967296) (n : Int) : Tri Tryz.prog 78 [pfV a n] [] [] (fun _ : Unit => True) (fun _ => .string ⟨(shoS a n).toArray⟩) (fun _ => []) := by
 have hc := rchk_t a ha n
 dsimp only [pfV] at hc
 unfold shoS
 cases hx : okX a n
 ·rw [hx] at hc
  refine Tri_of (N := Tryz.f78.ntmps) (c := bodyOf Tryz.f78) Tryz.func78 rfl rfl rfl rfl (fun w0 S0 => ?_)
  dsimp only [pfV]
  repeat' (first | refine SW ?_ | refine SD ?_ | (refine HO_k 12 rfl ?_; refine HO_callq rfl rfl rfl rfl (hc) (fun _ _ => rfl) (trivial) rfl rfl sqA ?_) | exact HO_seg rfl rfl | refine S1 ?_ | (refine S2 ?_; intro _) | (refine S3 ?_; intro _ _) | (refine S4 ?_; intro _ _ _) | (refine HO_g 2 rfl ?_; first | apply HO_a1 rfl | apply HO_o1 rfl) | refine S5 ?_ | (intro hb; try replace hb := simB hb; try exact kill hb))
  (refine SR ?_; unfold RetQ; refine ⟨(), trivial, ?_, Keeps.nil⟩)
  rfl
 ·rw [hx] at hc
  have hl := okX_len hx
  obtain ⟨k, rfl⟩ : ∃ k : Nat, n = k := ⟨n.toNat, by omega⟩
  have hd := rdotted_t a ha
  have hi := digits_t k (by omega)
  have h1 := dotS_len a
  have h2 := dec3_len k
  rw [if_pos rfl, Int.toNat_natCast]
  have e : dotS a ++ 47 :: dec3 k = (dotS a ++ [47]) ++ dec3 k := by simp
  rw [e]
  refine Tri_of (N := Tryz.f78.ntmps) (c := bodyOf Tryz.f78) Tryz.func78 rfl rfl rfl rfl (fun w0 S0 => ?_)
  dsimp only [pfV]
  repeat' (first | refine SW ?_ | refine SD ?_ | (refine HO_k 12 rfl ?_; refine HO_callq rfl rfl rfl rfl (hc) (fun _ _ => rfl) (trivial) rfl rfl sqA ?_) | (refine HO_k 12 rfl ?_; refine HO_callq rfl rfl rfl rfl (hd) (fun _ _ => rfl) (trivial) rfl rfl sqA ?_) | (refine HO_k 12 rfl ?_; refine HO_callq rfl rfl rfl rfl (hi) (fun _ _ => rfl) (trivial) rfl rfl sqA ?_) | (refine HO_k 0 rfl ?_; refine HO_cat rfl rfl rfl (by simp <;> omega) rfl rfl rdA ?_) | exact HO_seg rfl rfl | refine S1 ?_ | (refine S2 ?_; intro _) | (refine S3 ?_; intro _ _) | (refine S4 ?_; intro _ _ _) | (refine HO_g 2 rfl ?_; first | apply HO_a1 rfl | apply HO_o1 rfl) | refine S5 ?_ | (intro hb; try replace hb := simB hb; try exact kill hb))
  (refine SR ?_; unfold RetQ; refine ⟨(), trivial, ?_, Keeps.nil⟩)
  rfl
def adV : Option Nat → Value
 | none => .tuple #[.int .u32 0, .int .i64 20]
 | some a => .tuple #[.int .u32 a, .int .i64 0]
theorem or8 (a n : Nat) (ha : a < 16777216) (hn : n < 256) : bOr .u32 (bShl .u32 ((a : Nat) : Int) 8) ((n : Nat) : Int) = ((256 * a + n : Nat) : Int) := by
 have e1 : bShl .u32 (a : Int) 8 = ((a * 256 : Nat) : Int) := by
  unfold bShl
  simp [IntKind.bits, IntKind.wrap, IntKind.signed]
  omega
 have e3 : bOr .u32 ((a * 256 : Nat) : Int) ((n : Nat) : Int) = ((a * 256 ||| n : Nat) : Int) := by
  have hx : a * 256 ||| n < 2 ^ 32 := Nat.or_lt_two_pow (by omega) (by omega)
  unfold bOr
  rw [BitVec.ofInt_natCast, BitVec.ofInt_natCast, BitVec.toNat_or, BitVec.toNat_ofNat, BitVec.toNat_ofNat]
  rw [Nat.mod_eq_of_lt (show a * 256 < 2 ^ IntKind.u32.bits by simp [IntKind.bits]; omega), Nat.mod_eq_of_lt (show n < 2 ^ IntKind.u32.bits by simp [IntKind.bits]; omega)]
  simp [IntKind.bits, IntKind.wrap, IntKind.signed]
  omega
 rw [e1, e3, Nat.mul_comm 256 a]
 congr 1
 have := Nat.shiftLeft_add_eq_or_of_lt (show n < 2 ^ 8 from hn) a
 rw [Nat.shiftLeft_eq] at this
 exact this.symm
theorem foldA_drop {L : List (List UInt8)} {j a : Nat} {x : List UInt8} (h : L[j]? = some x) : foldA a (L.drop j) = match smM 255 x with
  | none => none
  | some n => foldA (256 * a + n) (L.drop (j + 1)) := by
 obtain ⟨hj, rfl⟩ := List.getElem?_eq_some_iff.1 h
 rw [List.drop_eq_getElem_cons hj]
 rfl
theorem sm_cases (m : Nat) (l : List UInt8) : (smM m l = none ∧ (smR l = none ∨ ∃ n, smR l = some n ∧ m < n)) ∨ ∃ n, n ≤ m ∧ smM m l = some n ∧ smR l = some n := by
 unfold smM
 cases h : smR l with
 | none => exact .inl ⟨rfl, .inl rfl⟩
 | some n =>
  by_cases hn : n ≤ m
  ·exact .inr ⟨n, hn, if_pos hn, rfl⟩
  ·exact .inl ⟨if_neg hn, .inr ⟨n, rfl, by omega⟩⟩
theorem pow256 {a j : Nat} (h : a < 256 ^ j) (hj : j < 4) : a < 16777216 := Nat.lt_of_lt_of_le h (Nat.pow_le_pow_right (n := 256) (by decide) (show j ≤ 3 by omega))
set_option maxHeartbeats 16000000 in
theorem aaddr_t (m : Int) (l : List UInt8) (hl : l.length ≤ 100000) : Tri Tryz.prog 192 [.string ⟨l.toArray⟩] [maxLen0 m] [] (fun _ : Unit => True) (fun _ => adV (adR l)) (fun _ => []) := by
 have hsp := splS_t m l (by omega)
 unfold adR
 obtain ⟨L, hL⟩ : ∃ L, splB 46 l = L := ⟨_, rfl⟩
 rw [hL] at hsp ⊢
 by_cases h4 : L.length = 4
 ·rw [if_pos h4]
  refine Tri_of (N := Tryz.f192.ntmps) (c := bodyOf Tryz.f192) Tryz.func192 rfl rfl rfl rfl (fun w0 S0 => ?_)
  repeat' (first | refine SW ?_ | refine SD ?_ | (refine HO_k 12 rfl ?_; refine HO_call rfl rfl rfl rfl (hsp) rfl (srcsA) rfl rfl soA ?_; intro b hx; dsimp only [lca, lna]) | exact HO_seg rfl rfl | refine S1 ?_ | (refine S2 ?_; intro _) | (refine S3 ?_; intro _ _) | (refine S4 ?_; intro _ _ _) | (refine HO_g 2 rfl ?_; first | apply HO_a1 rfl | apply HO_o1 rfl) | refine S5 ?_ | (intro hb; try replace hb := simB hb; try exact kill hb))
  refine HC_loop (α := Nat × Nat) (fun x => x.1 ≤ 4 ∧ x.2 < 256 ^ x.1 ∧ foldA x.2 (L.drop x.1) = foldA 0 L) (fun x => [(17, .int .i64 x.1), (16, .int .i64 L.length), (15, .slice (some ⟨b, 0, none⟩) L.length L.length), (5, .int .u32 x.2)]) (fun _ => [arr strE 1 (some ⟨b, 0, none⟩) L]) (fun x => 4 - x.1) rfl (0, 0) ⟨Nat.zero_le _, by decide, rfl⟩ ⟨rfl, rfl, rfl, rfl, trivial⟩ rfl ?_
  rintro ⟨j, a⟩ ⟨hj, ha, hf⟩
  dsimp only at hj ha hf ⊢
  rcases Nat.lt_or_ge j 4 with hlt | hge
  ·obtain ⟨x, hx⟩ : ∃ x, L[j]? = some x := ⟨L[j], List.getElem?_eq_getElem (by omega)⟩
   rw [foldA_drop hx] at hf
   have ha' := pow256 ha hlt
   have hs : Tri Tryz.prog 227 [.string ⟨x.toArray⟩, .int .i64 255] [] [] (fun _ : Unit => True) (fun _ => smV x 255) (fun _ => []) := small_t x 255
   rcases sm_cases 255 x with ⟨h1, h2 | ⟨n, h2, h3⟩⟩ | ⟨n, h3, h1, h2⟩
   ·rw [h1] at hf
    rw [← hf]
    unfold smV at hs
    rw [h2] at hs
    repeat' (first | refine SW ?_ | refine SD ?_ | (refine HO_k 12 rfl ?_; refine HO_callq rfl rfl rfl rfl (hs) (fun _ _ => rfl) (trivial) rfl rfl sqA ?_) | exact HO_seg rfl rfl | refine S1 ?_ | (refine S2 ?_; intro _) | (refine S3 ?_; intro _ _) | (refine S4 ?_; intro _ _ _) | (refine HO_g 2 rfl ?_; first | apply HO_a1 rfl | apply HO_o1 rfl) | refine S5 ?_ | (intro hb; try replace hb := simB hb; try exact kill hb))
    (refine SR ?_; unfold RetQ; refine ⟨(), trivial, ?_, Keeps.nil⟩)
    rfl
   ·rw [h1] at hf
    rw [← hf]
    unfold smV at hs
    rw [h2] at hs
    repeat' (first | refine SW ?_ | refine SD ?_ | (refine HO_k 12 rfl ?_; refine HO_callq rfl rfl rfl rfl (hs) (fun _ _ => rfl) (trivial) rfl rfl sqA ?_) | exact HO_seg rfl rfl | refine S1 ?_ | (refine S2 ?_; intro _) | (refine S3 ?_; intro _ _) | (refine S4 ?_; intro _ _ _) | (refine HO_g 2 rfl ?_; first | apply HO_a1 rfl | apply HO_o1 rfl) | refine S5 ?_ | (intro hb; try replace hb := simB hb; try exact kill hb))
    (refine SR ?_; unfold RetQ; refine ⟨(), trivial, ?_, Keeps.nil⟩)
    rfl
   ·rw [h1] at hf
    unfold smV at hs
    rw [h2] at hs
    have ho := or8 a n ha' (by omega)
    repeat' (first | refine SW ?_ | refine SD ?_ | (refine HO_k 12 rfl ?_; refine HO_callq rfl rfl rfl rfl (hs) (fun _ _ => rfl) (trivial) rfl rfl sqA ?_) | (with_reducible refine HO_rw (congrArg (Value.int .u32) ho) ?_) | exact HO_seg rfl rfl | refine S1 ?_ | (refine S2 ?_; intro _) | (refine S3 ?_; intro _ _) | (refine S4 ?_; intro _ _ _) | (refine HO_g 2 rfl ?_; first | apply HO_a1 rfl | apply HO_o1 rfl) | refine S5 ?_ | (intro hb; try replace hb := simB hb; try exact kill hb))
    exact HX_at (j + 1, 256 * a + n) ⟨⟨hlt, by rw [Nat.pow_succ]; omega, hf⟩, by show 4 - (j + 1) < 4 - j; omega⟩ ⟨rfl, rfl, rfl, rfl, trivial⟩ rfl
  ·obtain rfl : j = 4 := by omega
   rw [List.drop_of_length_le (by omega)] at hf
   rw [← hf]
   repeat' (first | refine SW ?_ | refine SD ?_ | exact HO_seg rfl rfl | refine S1 ?_ | (refine S2 ?_; intro _) | (refine S3 ?_; intro _ _) | (refine S4 ?_; intro _ _ _) | (refine HO_g 2 rfl ?_; first | apply HO_a1 rfl | apply HO_o1 rfl) | refine S5 ?_ | (intro hb; try replace hb := simB hb; try exact kill hb))
   (refine SR ?_; unfold RetQ; refine ⟨(), trivial, ?_, Keeps.nil⟩)
   rfl
 ·rw [if_neg h4]
  refine Tri_of (N := Tryz.f192.ntmps) (c := bodyOf Tryz.f192) Tryz.func192 rfl rfl rfl rfl (fun w0 S0 => ?_)
  repeat' (first | refine SW ?_ | refine SD ?_ | (refine HO_k 12 rfl ?_; refine HO_call rfl rfl rfl rfl (hsp) rfl (srcsA) rfl rfl soA ?_; intro b hx; dsimp only [lca, lna]) | exact HO_seg rfl rfl | refine S1 ?_ | (refine S2 ?_; intro _) | (refine S3 ?_; intro _ _) | (refine S4 ?_; intro _ _ _) | (refine HO_g 2 rfl ?_; first | apply HO_a1 rfl | apply HO_o1 rfl) | refine S5 ?_ | (intro hb; try replace hb := simB hb; try exact kill hb))
  (refine SR ?_; unfold RetQ; refine ⟨(), trivial, ?_, Keeps.nil⟩)
  rfl
def raV : Option Nat → Value
 | none => .tuple #[.int .u32 0, .bool false]
 | some a => .tuple #[.int .u32 a, .bool true]
set_option maxHeartbeats 16000000 in
theorem raddr_t (l : List UInt8) (hl : l.length ≤ 100000) : Tri Tryz.prog 81 [.string ⟨l.toArray⟩] [] [] (fun _ : Unit => True) (fun _ => raV (adR l)) (fun _ => []) := by
 have hsp : Tri Tryz.prog 143 [.string ⟨l.toArray⟩, .int .u8 46] [] [] (fun _ : OA => True) (fun x => .slice x.1 (splB 46 l).length x.2) (fun x => [ownT x (splB 46 l)]) := rsplit_t l 46 hl
 unfold adR
 obtain ⟨L, hL⟩ : ∃ L, splB 46 l = L := ⟨_, rfl⟩
 rw [hL] at hsp ⊢
 by_cases h4 : L.length = 4
 ·rw [if_pos h4]
  refine Tri_of (N := Tryz.f81.ntmps) (c := bodyOf Tryz.f81) Tryz.func81 rfl rfl rfl rfl (fun w0 S0 => ?_)
  repeat' (first | refine SW ?_ | refine SD ?_ | (refine HO_k 12 rfl ?_; refine HO_call rfl rfl rfl rfl (hsp) rfl (trivial) rfl rfl soA ?_; intro ⟨xA, xc⟩ hx; dsimp only [lca, lna]) | exact HO_seg rfl rfl | refine S1 ?_ | (refine S2 ?_; intro _) | (refine S3 ?_; intro _ _) | (refine S4 ?_; intro _ _ _) | (refine HO_g 2 rfl ?_; first | apply HO_a1 rfl | apply HO_o1 rfl) | refine S5 ?_ | (intro hb; try replace hb := simB hb; try exact kill hb))
  refine HC_loop (α := Nat × Nat) (fun x => x.1 ≤ 4 ∧ x.2 < 256 ^ x.1 ∧ foldA x.2 (L.drop x.1) = foldA 0 L) (fun x => [(6, .int .i64 x.1), (4, .slice xA L.length xc), (5, .int .u32 x.2)]) (fun _ => [ownT (xA, xc) L]) (fun x => 4 - x.1) rfl (0, 0) ⟨Nat.zero_le _, by decide, rfl⟩ ⟨rfl, rfl, rfl, trivial⟩ rfl ?_
  rintro ⟨j, a⟩ ⟨hj, ha, hf⟩
  dsimp only at hj ha hf ⊢
  rcases Nat.lt_or_ge j 4 with hlt | hge
  ·obtain ⟨x, hx⟩ : ∃ x, L[j]? = some x := ⟨L[j], List.getElem?_eq_getElem (by omega)⟩
   rw [foldA_drop hx] at hf
   have ha' := pow256 ha hlt
   have hs : Tri Tryz.prog 144 [.string ⟨x.toArray⟩, .int .i64 255] [] [] (fun _ : Unit => True) (fun _ => smI x 255) (fun _ => []) := rsmall_t x 255
   have hno : smM 255 x = none → smI x 255 = .int .i64 (-1) := fun h => by
    unfold smI
    rcases sm_cases 255 x with ⟨h1, h2 | ⟨n, h2, h3⟩⟩ | ⟨n, h3, h1, h2⟩
    ·rw [h2]
    ·rw [h2]
     simp only
     rw [if_pos (by omega)]
    ·rw [h] at h1
     cases h1
   rcases sm_cases 255 x with ⟨h1, _⟩ | ⟨n, h3, h1, h2⟩
   ·rw [hno h1] at hs
    rw [h1] at hf
    rw [← hf]
    repeat' (first | refine SW ?_ | refine SD ?_ | (refine HO_k 12 rfl ?_; refine HO_callq rfl rfl rfl rfl (hs) (fun _ _ => rfl) (trivial) rfl rfl sqA ?_) | exact HO_seg rfl rfl | refine S1 ?_ | (refine S2 ?_; intro _) | (refine S3 ?_; intro _ _) | (refine S4 ?_; intro _ _ _) | (refine HO_g 2 rfl ?_; first | apply HO_a1 rfl | apply HO_o1 rfl) | refine S5 ?_ | (intro hb; try replace hb := simB hb; try exact kill hb))
    (refine SR ?_; unfold RetQ; refine ⟨(), trivial, ?_, Keeps.nil⟩)
    rfl
   ·rw [h1] at hf
    have hsv : smI x 255 = .int .i64 n := by
     unfold smI
     rw [h2]
     simp only
     rw [if_neg (by omega)]
    rw [hsv] at hs
    have ho : 256 * ((a : Nat) : Int) + ((n : Nat) : Int) = ((256 * a + n : Nat) : Int) := by omega
    repeat' (first | refine SW ?_ | refine SD ?_ | (refine HO_k 12 rfl ?_; refine HO_callq rfl rfl rfl rfl (hs) (fun _ _ => rfl) (trivial) rfl rfl sqA ?_) | (with_reducible refine HO_rw (congrArg (Value.int .u32) ho) ?_) | exact HO_seg rfl rfl | refine S1 ?_ | (refine S2 ?_; intro _) | (refine S3 ?_; intro _ _) | (refine S4 ?_; intro _ _ _) | (refine HO_g 2 rfl ?_; first | apply HO_a1 rfl | apply HO_o1 rfl) | refine S5 ?_ | (intro hb; try replace hb := simB hb; try exact kill hb))
    exact HX_at (j + 1, 256 * a + n) ⟨⟨hlt, by rw [Nat.pow_succ]; omega, hf⟩, by show 4 - (j + 1) < 4 - j; omega⟩ ⟨rfl, rfl, rfl, trivial⟩ rfl
  ·obtain rfl : j = 4 := by omega
   rw [List.drop_of_length_le (by omega)] at hf
   rw [← hf]
   repeat' (first | refine SW ?_ | refine SD ?_ | exact HO_seg rfl rfl | refine S1 ?_ | (refine S2 ?_; intro _) | (refine S3 ?_; intro _ _) | (refine S4 ?_; intro _ _ _) | (refine HO_g 2 rfl ?_; first | apply HO_a1 rfl | apply HO_o1 rfl) | refine S5 ?_ | (intro hb; try replace hb := simB hb; try exact kill hb))
   (refine SR ?_; unfold RetQ; refine ⟨(), trivial, ?_, Keeps.nil⟩)
   rfl
 ·rw [if_neg h4]
  refine Tri_of (N := Tryz.f81.ntmps) (c := bodyOf Tryz.f81) Tryz.func81 rfl rfl rfl rfl (fun w0 S0 => ?_)
  repeat' (first | refine SW ?_ | refine SD ?_ | (refine HO_k 12 rfl ?_; refine HO_call rfl rfl rfl rfl (hsp) rfl (trivial) rfl rfl soA ?_; intro ⟨xA, xc⟩ hx; dsimp only [lca, lna]) | exact HO_seg rfl rfl | refine S1 ?_ | (refine S2 ?_; intro _) | (refine S3 ?_; intro _ _) | (refine S4 ?_; intro _ _ _) | (refine HO_g 2 rfl ?_; first | apply HO_a1 rfl | apply HO_o1 rfl) | refine S5 ?_ | (intro hb; try replace hb := simB hb; try exact kill hb))
  (refine SR ?_; unfold RetQ; refine ⟨(), trivial, ?_, Keeps.nil⟩)
  rfl
def paV : Option (Nat × Nat) → Value
 | none => .tuple #[pfV 0 0, .int .i64 20]
 | some (a, n) => .tuple #[pfV a n, .int .i64 0]
def rpV : Option (Nat × Nat) → Value
 | none => .tuple #[pfV 0 0, .bool false]
 | some (a, n) => .tuple #[pfV a n, .bool true]
theorem cutC_len (c : UInt8) : ∀ l : List UInt8, (cutC c l).1.length ≤ l.length ∧ (cutC c l).2.1.length ≤ l.length
 | [] => ⟨Nat.le_refl _, Nat.le_refl _⟩
 | x :: l => by
  have ih := cutC_len c l
  unfold cutC
  split
  ·exact ⟨Nat.zero_le _, by simp⟩
  ·simp only [List.length_cons]
   omega
set_option maxHeartbeats 16000000 in
theorem aparse_t (m : Int) (l : List UInt8) (hl : l.length ≤ 100000) : Tri Tryz.prog 193 [.string ⟨l.toArray⟩] [maxLen0 m] [] (fun _ : Unit => True) (fun _ => paV (paR l)) (fun _ => []) := by
 have hcut := cutS_t m l (by omega)
 have hlen := cutC_len 47 l
 unfold paR
 obtain ⟨⟨x, y, is⟩, hL⟩ : ∃ L, cutC 47 l = L := ⟨_, rfl⟩
 rw [hL] at hcut hlen ⊢
 dsimp only at hcut hlen ⊢
 have had := aaddr_t m x (by omega)
 have hs : Tri Tryz.prog 227 [.string ⟨y.toArray⟩, .int .i64 32] [] [] (fun _ : Unit => True) (fun _ => smV y 32) (fun _ => []) := small_t y 32
 have hsv : smV y 32 = .tuple #[.int .i64 ((match smR y with | none => 0 | some n => n : Nat) : Int), .bool (smM 32 y).isSome] := by
  unfold smV smM
  cases h : smR y with
  | none => rfl
  | some n =>
   by_cases hn : n ≤ 32
   ·dsimp only
    rw [if_pos hn, decide_eq_true (show ((n : Nat) : Int) ≤ ((32 : Nat) : Int) by omega)]
    rfl
   ·dsimp only
    rw [if_neg hn, decide_eq_false (show ¬ ((n : Nat) : Int) ≤ ((32 : Nat) : Int) by omega)]
    rfl
 rw [hsv] at hs
 cases his : is
 ·subst his
  rw [if_neg (by decide)]
  cases hA : adR x with
  | none =>
   rw [hA] at had
   unfold adV at had
   refine Tri_of (N := Tryz.f193.ntmps) (c := bodyOf Tryz.f193) Tryz.func193 rfl rfl rfl rfl (fun w0 S0 => ?_)
   repeat' (first | refine SW ?_ | refine SD ?_ | (refine HO_k 12 rfl ?_; refine HO_callq rfl rfl rfl rfl (hcut) (fun _ _ => rfl) (srcsA) rfl rfl sqA ?_) | (refine HO_k 12 rfl ?_; refine HO_callq rfl rfl rfl rfl (had) (fun _ _ => rfl) (srcsA) rfl rfl sqA ?_) | (refine HO_k 12 rfl ?_; refine HO_callq rfl rfl rfl rfl (hs) (fun _ _ => rfl) (trivial) rfl rfl sqA ?_) | exact HO_seg rfl rfl | refine S1 ?_ | (refine S2 ?_; intro _) | (refine S3 ?_; intro _ _) | (refine S4 ?_; intro _ _ _) | (refine HO_g 2 rfl ?_; first | apply HO_a1 rfl | apply HO_o1 rfl) | refine S5 ?_ | (intro hb; try replace hb := simB hb; try exact kill hb))
   (refine SR ?_; unfold RetQ; refine ⟨(), trivial, ?_, Keeps.nil⟩)
   rfl
  | some a =>
   rw [hA] at had
   unfold adV at had
   refine Tri_of (N := Tryz.f193.ntmps) (c := bodyOf Tryz.f193) Tryz.func193 rfl rfl rfl rfl (fun w0 S0 => ?_)
   repeat' (first | refine SW ?_ | refine SD ?_ | (refine HO_k 12 rfl ?_; refine HO_callq rfl rfl rfl rfl (hcut) (fun _ _ => rfl) (srcsA) rfl rfl sqA ?_) | (refine HO_k 12 rfl ?_; refine HO_callq rfl rfl rfl rfl (had) (fun _ _ => rfl) (srcsA) rfl rfl sqA ?_) | (refine HO_k 12 rfl ?_; refine HO_callq rfl rfl rfl rfl (hs) (fun _ _ => rfl) (trivial) rfl rfl sqA ?_) | exact HO_seg rfl rfl | refine S1 ?_ | (refine S2 ?_; intro _) | (refine S3 ?_; intro _ _) | (refine S4 ?_; intro _ _ _) | (refine HO_g 2 rfl ?_; first | apply HO_a1 rfl | apply HO_o1 rfl) | refine S5 ?_ | (intro hb; try replace hb := simB hb; try exact kill hb))
   (refine SR ?_; unfold RetQ; refine ⟨(), trivial, ?_, Keeps.nil⟩)
   rfl
 ·subst his
  rw [if_pos rfl]
  cases hA : adR x with
  | none =>
   rw [hA] at had
   unfold adV at had
   refine Tri_of (N := Tryz.f193.ntmps) (c := bodyOf Tryz.f193) Tryz.func193 rfl rfl rfl rfl (fun w0 S0 => ?_)
   repeat' (first | refine SW ?_ | refine SD ?_ | (refine HO_k 12 rfl ?_; refine HO_callq rfl rfl rfl rfl (hcut) (fun _ _ => rfl) (srcsA) rfl rfl sqA ?_) | (refine HO_k 12 rfl ?_; refine HO_callq rfl rfl rfl rfl (had) (fun _ _ => rfl) (srcsA) rfl rfl sqA ?_) | (refine HO_k 12 rfl ?_; refine HO_callq rfl rfl rfl rfl (hs) (fun _ _ => rfl) (trivial) rfl rfl sqA ?_) | exact HO_seg rfl rfl | refine S1 ?_ | (refine S2 ?_; intro _) | (refine S3 ?_; intro _ _) | (refine S4 ?_; intro _ _ _) | (refine HO_g 2 rfl ?_; first | apply HO_a1 rfl | apply HO_o1 rfl) | refine S5 ?_ | (intro hb; try replace hb := simB hb; try exact kill hb))
   (refine SR ?_; unfold RetQ; refine ⟨(), trivial, ?_, Keeps.nil⟩)
   rfl
  | some a =>
   rw [hA] at had
   unfold adV at had
   have ha := adR_lt hA
   rcases sm_cases 32 y with ⟨h1, _⟩ | ⟨n, h3, h1, h2⟩
   ·rw [h1] at hs ⊢
    rw [show (Option.none : Option Nat).isSome = false from rfl] at hs
    refine Tri_of (N := Tryz.f193.ntmps) (c := bodyOf Tryz.f193) Tryz.func193 rfl rfl rfl rfl (fun w0 S0 => ?_)
    repeat' (first | refine SW ?_ | refine SD ?_ | (refine HO_k 12 rfl ?_; refine HO_callq rfl rfl rfl rfl (hcut) (fun _ _ => rfl) (srcsA) rfl rfl sqA ?_) | (refine HO_k 12 rfl ?_; refine HO_callq rfl rfl rfl rfl (had) (fun _ _ => rfl) (srcsA) rfl rfl sqA ?_) | (refine HO_k 12 rfl ?_; refine HO_callq rfl rfl rfl rfl (hs) (fun _ _ => rfl) (trivial) rfl rfl sqA ?_) | exact HO_seg rfl rfl | refine S1 ?_ | (refine S2 ?_; intro _) | (refine S3 ?_; intro _ _) | (refine S4 ?_; intro _ _ _) | (refine HO_g 2 rfl ?_; first | apply HO_a1 rfl | apply HO_o1 rfl) | refine S5 ?_ | (intro hb; try replace hb := simB hb; try exact kill hb))
    (refine SR ?_; unfold RetQ; refine ⟨(), trivial, ?_, Keeps.nil⟩)
    rfl
   ·rw [h1, h2] at hs
    rw [h1]
    rw [show (some n).isSome = true from rfl] at hs
    dsimp only at hs ⊢
    have hc := addrCheck_t a ha n
    dsimp only [pfV] at hc
    cases hx : okX a n
    ·rw [hx] at hc
     rw [if_neg (by decide)]
     refine Tri_of (N := Tryz.f193.ntmps) (c := bodyOf Tryz.f193) Tryz.func193 rfl rfl rfl rfl (fun w0 S0 => ?_)
     repeat' (first | refine SW ?_ | refine SD ?_ | (refine HO_k 12 rfl ?_; refine HO_callq rfl rfl rfl rfl (hcut) (fun _ _ => rfl) (srcsA) rfl rfl sqA ?_) | (refine HO_k 12 rfl ?_; refine HO_callq rfl rfl rfl rfl (had) (fun _ _ => rfl) (srcsA) rfl rfl sqA ?_) | (refine HO_k 12 rfl ?_; refine HO_callq rfl rfl rfl rfl (hs) (fun _ _ => rfl) (trivial) rfl rfl sqA ?_) | (refine HO_k 12 rfl ?_; refine HO_callq rfl rfl rfl rfl (hc) (fun _ _ => rfl) (trivial) rfl rfl sqA ?_) | exact HO_seg rfl rfl | refine S1 ?_ | (refine S2 ?_; intro _) | (refine S3 ?_; intro _ _) | (refine S4 ?_; intro _ _ _) | (refine HO_g 2 rfl ?_; first | apply HO_a1 rfl | apply HO_o1 rfl) | refine S5 ?_ | (intro hb; try replace hb := simB hb; try exact kill hb))
     (refine SR ?_; unfold RetQ; refine ⟨(), trivial, ?_, Keeps.nil⟩)
     rfl
    ·rw [hx] at hc
     rw [if_pos rfl]
     refine Tri_of (N := Tryz.f193.ntmps) (c := bodyOf Tryz.f193) Tryz.func193 rfl rfl rfl rfl (fun w0 S0 => ?_)
     repeat' (first | refine SW ?_ | refine SD ?_ | (refine HO_k 12 rfl ?_; refine HO_callq rfl rfl rfl rfl (hcut) (fun _ _ => rfl) (srcsA) rfl rfl sqA ?_) | (refine HO_k 12 rfl ?_; refine HO_callq rfl rfl rfl rfl (had) (fun _ _ => rfl) (srcsA) rfl rfl sqA ?_) | (refine HO_k 12 rfl ?_; refine HO_callq rfl rfl rfl rfl (hs) (fun _ _ => rfl) (trivial) rfl rfl sqA ?_) | (refine HO_k 12 rfl ?_; refine HO_callq rfl rfl rfl rfl (hc) (fun _ _ => rfl) (trivial) rfl rfl sqA ?_) | exact HO_seg rfl rfl | refine S1 ?_ | (refine S2 ?_; intro _) | (refine S3 ?_; intro _ _) | (refine S4 ?_; intro _ _ _) | (refine HO_g 2 rfl ?_; first | apply HO_a1 rfl | apply HO_o1 rfl) | refine S5 ?_ | (intro hb; try replace hb := simB hb; try exact kill hb))
     (refine SR ?_; unfold RetQ; refine ⟨(), trivial, ?_, Keeps.nil⟩)
     rfl
theorem splB_mem (c : UInt8) : ∀ l : List UInt8, ∀ x ∈ splB c l, x.length ≤ l.length
 | [], x, h => by
  simp [splB] at h
  subst h
  exact Nat.le_refl _
 | a :: l, x, h => by
  have ih := splB_mem c l
  unfold splB at h
  split at h
  ·rcases List.mem_cons.1 h with e | h
   ·subst e; exact Nat.zero_le _
   ·have := ih x h
    simp only [List.length_cons]
    omega
  ·split at h
   ·simp at h
    subst h
    simp
   ·rename_i hd tl e
    rcases List.mem_cons.1 h with e' | h
    ·subst e'
     have := ih hd (by rw [e]; exact List.mem_cons_self)
     simp only [List.length_cons]
     omega
    ·have := ih x (by rw [e]; exact List.mem_cons_of_mem _ h)
     simp only [List.length_cons]
     omega
theorem smI_val (y : List UInt8) : ∃ v : Int, smI y 32 = .int .i64 v ∧ (smM 32 y = none → v = -1) ∧ ∀ n, smM 32 y = some n → v = n := by
 unfold smI
 rcases sm_cases 32 y with ⟨h1, h2 | ⟨n, h2, h3⟩⟩ | ⟨n, h3, h1, h2⟩
 ·rw [h2, h1]
  exact ⟨_, rfl, fun _ => rfl, fun n h => by cases h⟩
 ·rw [h2, h1]
  exact ⟨_, rfl, fun _ => if_pos (by omega), fun n h => by cases h⟩
 ·rw [h2, h1]
  refine ⟨(n : Int), ?_, (fun h => by cases h), (fun k h => by injection h with h; subst h; rfl)⟩
  dsimp only
  rw [if_neg (by omega)]
set_option maxHeartbeats 16000000 in
theorem rparse_t (l : List UInt8) (hl : l.length ≤ 90000) : Tri Tryz.prog 145 [.string ⟨l.toArray⟩] [] [] (fun _ : Unit => True) (fun _ => rpV (paQ l)) (fun _ => []) := by
 have hsp : Tri Tryz.prog 143 [.string ⟨l.toArray⟩, .int .u8 47] [] [] (fun _ : OA => True) (fun x => .slice x.1 (splB 47 l).length x.2) (fun x => [ownT x (splB 47 l)]) := rsplit_t l 47 (by omega)
 have hlen : ∀ x ∈ splB 47 l, x.length ≤ l.length := splB_mem 47 l
 have hno : (splB 47 l).length ≠ 2 → paQ l = none := fun h => by
  unfold paQ
  split
  ·rename_i x y e
   rw [e] at h
   exact absurd rfl h
  ·rfl
 obtain ⟨Q, hQ⟩ : ∃ Q, paQ l = Q := ⟨_, rfl⟩
 rw [hQ] at hno ⊢
 unfold paQ at hQ
 obtain ⟨L, hL⟩ : ∃ L, splB 47 l = L := ⟨_, rfl⟩
 rw [hL] at hsp hlen hno hQ
 by_cases h2 : L.length = 2
 ·obtain ⟨x, y, rfl⟩ : ∃ x y, L = [x, y] := by
   match L, h2 with
   | [x, y], _ => exact ⟨x, y, rfl⟩
  dsimp only at hQ
  have hx := hlen x (by simp)
  have hy := hlen y (by simp)
  have had := raddr_t x (by omega)
  have hs : Tri Tryz.prog 144 [.string ⟨y.toArray⟩, .int .i64 32] [] [] (fun _ : Unit => True) (fun _ => smI y 32) (fun _ => []) := rsmall_t y 32
  have hi0 : ([x, y] : List (List UInt8))[0]? = some x := rfl
  have hi1 : ([x, y] : List (List UInt8))[1]? = some y := rfl
  obtain ⟨L2, hL2⟩ : ∃ L2, [x, y] = L2 := ⟨_, rfl⟩
  rw [hL2] at hsp hi0 hi1 h2
  clear hL2 hlen hL
  obtain ⟨v, hv, v1, v2⟩ := smI_val y
  rw [hv] at hs
  clear hv
  cases hA : adR x with
  | none =>
   rw [hA] at had hQ
   unfold raV at had
   subst hQ
   refine Tri_of (N := Tryz.f145.ntmps) (c := bodyOf Tryz.f145) Tryz.func145 rfl rfl rfl rfl (fun w0 S0 => ?_)
   repeat' (first | refine SW ?_ | refine SD ?_ | (refine HO_k 12 rfl ?_; refine HO_call rfl rfl rfl rfl (hsp) rfl (trivial) rfl rfl soA ?_; intro ⟨xA, xc⟩ hxx; dsimp only [lca, lna]) | (refine HO_k 12 rfl ?_; refine HO_callq rfl rfl rfl rfl (had) (fun _ _ => rfl) (trivial) rfl rfl sqA ?_) | (refine HO_k 12 rfl ?_; refine HO_callq rfl rfl rfl rfl (hs) (fun _ _ => rfl) (trivial) rfl rfl sqA ?_) | exact HO_seg rfl rfl | refine S1 ?_ | (refine S2 ?_; intro _) | (refine S3 ?_; intro _ _) | (refine S4 ?_; intro _ _ _) | (refine HO_g 2 rfl ?_; first | apply HO_a1 rfl | apply HO_o1 rfl) | refine S5 ?_ | (intro hb; try replace hb := simB hb; try exact kill hb))
   (refine SR ?_; unfold RetQ; refine ⟨(), trivial, ?_, Keeps.nil⟩)
   rfl
  | some a =>
   rw [hA] at had hQ
   unfold raV at had
   have ha := adR_lt hA
   cases hB : smM 32 y with
   | none =>
    rw [hB] at hQ
    subst hQ
    obtain rfl := v1 hB
    refine Tri_of (N := Tryz.f145.ntmps) (c := bodyOf Tryz.f145) Tryz.func145 rfl rfl rfl rfl (fun w0 S0 => ?_)
    repeat' (first | refine SW ?_ | refine SD ?_ | (refine HO_k 12 rfl ?_; refine HO_call rfl rfl rfl rfl (hsp) rfl (trivial) rfl rfl soA ?_; intro ⟨xA, xc⟩ hxx; dsimp only [lca, lna]) | (refine HO_k 12 rfl ?_; refine HO_callq rfl rfl rfl rfl (had) (fun _ _ => rfl) (trivial) rfl rfl sqA ?_) | (refine HO_k 12 rfl ?_; refine HO_callq rfl rfl rfl rfl (hs) (fun _ _ => rfl) (trivial) rfl rfl sqA ?_) | exact HO_seg rfl rfl | refine S1 ?_ | (refine S2 ?_; intro _) | (refine S3 ?_; intro _ _) | (refine S4 ?_; intro _ _ _) | (refine HO_g 2 rfl ?_; first | apply HO_a1 rfl | apply HO_o1 rfl) | refine S5 ?_ | (intro hb; try replace hb := simB hb; try exact kill hb))
    (refine SR ?_; unfold RetQ; refine ⟨(), trivial, ?_, Keeps.nil⟩)
    rfl
   | some n =>
    rw [hB] at hQ
    dsimp only at hQ
    obtain rfl := v2 n hB
    have hc := rchk_t a ha n
    dsimp only [pfV] at hc
    cases hx : okX a n
    ·rw [hx] at hc hQ
     rw [if_neg (by decide)] at hQ
     subst hQ
     refine Tri_of (N := Tryz.f145.ntmps) (c := bodyOf Tryz.f145) Tryz.func145 rfl rfl rfl rfl (fun w0 S0 => ?_)
     repeat' (first | refine SW ?_ | refine SD ?_ | (refine HO_k 12 rfl ?_; refine HO_call rfl rfl rfl rfl (hsp) rfl (trivial) rfl rfl soA ?_; intro ⟨xA, xc⟩ hxx; dsimp only [lca, lna]) | (refine HO_k 12 rfl ?_; refine HO_callq rfl rfl rfl rfl (had) (fun _ _ => rfl) (trivial) rfl rfl sqA ?_) | (refine HO_k 12 rfl ?_; refine HO_callq rfl rfl rfl rfl (hs) (fun _ _ => rfl) (trivial) rfl rfl sqA ?_) | (refine HO_k 12 rfl ?_; refine HO_callq rfl rfl rfl rfl (hc) (fun _ _ => rfl) (trivial) rfl rfl sqA ?_) | exact HO_seg rfl rfl | refine S1 ?_ | (refine S2 ?_; intro _) | (refine S3 ?_; intro _ _) | (refine S4 ?_; intro _ _ _) | (refine HO_g 2 rfl ?_; first | apply HO_a1 rfl | apply HO_o1 rfl) | refine S5 ?_ | (intro hb; try replace hb := simB hb; try exact kill hb))
     (refine SR ?_; unfold RetQ; refine ⟨(), trivial, ?_, Keeps.nil⟩)
     rfl
    ·rw [hx] at hc hQ
     rw [if_pos rfl] at hQ
     subst hQ
     refine Tri_of (N := Tryz.f145.ntmps) (c := bodyOf Tryz.f145) Tryz.func145 rfl rfl rfl rfl (fun w0 S0 => ?_)
     repeat' (first | refine SW ?_ | refine SD ?_ | (refine HO_k 12 rfl ?_; refine HO_call rfl rfl rfl rfl (hsp) rfl (trivial) rfl rfl soA ?_; intro ⟨xA, xc⟩ hxx; dsimp only [lca, lna]) | (refine HO_k 12 rfl ?_; refine HO_callq rfl rfl rfl rfl (had) (fun _ _ => rfl) (trivial) rfl rfl sqA ?_) | (refine HO_k 12 rfl ?_; refine HO_callq rfl rfl rfl rfl (hs) (fun _ _ => rfl) (trivial) rfl rfl sqA ?_) | (refine HO_k 12 rfl ?_; refine HO_callq rfl rfl rfl rfl (hc) (fun _ _ => rfl) (trivial) rfl rfl sqA ?_) | exact HO_seg rfl rfl | refine S1 ?_ | (refine S2 ?_; intro _) | (refine S3 ?_; intro _ _) | (refine S4 ?_; intro _ _ _) | (refine HO_g 2 rfl ?_; first | apply HO_a1 rfl | apply HO_o1 rfl) | refine S5 ?_ | (intro hb; try replace hb := simB hb; try exact kill hb))
     (refine SR ?_; unfold RetQ; refine ⟨(), trivial, ?_, Keeps.nil⟩)
     rfl
 ·rw [hno h2]
  refine Tri_of (N := Tryz.f145.ntmps) (c := bodyOf Tryz.f145) Tryz.func145 rfl rfl rfl rfl (fun w0 S0 => ?_)
  repeat' (first | refine SW ?_ | refine SD ?_ | (refine HO_k 12 rfl ?_; refine HO_call rfl rfl rfl rfl (hsp) rfl (trivial) rfl rfl soA ?_; intro ⟨xA, xc⟩ hxx; dsimp only [lca, lna]) | (refine HO_k 12 rfl ?_; refine HO_callq rfl rfl rfl rfl (had) (fun _ _ => rfl) (trivial) rfl rfl sqA ?_) | (refine HO_k 12 rfl ?_; refine HO_callq rfl rfl rfl rfl (hs) (fun _ _ => rfl) (trivial) rfl rfl sqA ?_) | exact HO_seg rfl rfl | refine S1 ?_ | (refine S2 ?_; intro _) | (refine S3 ?_; intro _ _) | (refine S4 ?_; intro _ _ _) | (refine HO_g 2 rfl ?_; first | apply HO_a1 rfl | apply HO_o1 rfl) | refine S5 ?_ | (intro hb; try replace hb := simB hb; try exact kill hb))
  (refine SR ?_; unfold RetQ; refine ⟨(), trivial, ?_, Keeps.nil⟩)
  rfl
end Go.Proofs.YtbhiojedmkcfoaaGreatDoor
