/- The laws of prefixes' halves, of texts, of bytes walked. -/
import Derived.Test.YtdeeokkkcfkbjaaDoorAdM
namespace Go.Proofs.YtdeeokkkcfkbjaaDoor
set_option linter.unusedVariables false
set_option linter.unusedSimpArgs false
open Go.RowKit
attribute [local irreducible] HC HX HO Tri eP adr

theorem HO_holdA {P : Program} {N : Nat} {w0 : World} {S0 : Foot} {ops : List Oper} {env : Env} {ro rw rw' : List SL} {K : Act → World → Prop} {ro0 : List SL} {l : List Nat} (k : Nat) {e : SL} (hk : rw[k]? = some e) (hr : eraseO rw k = some rw') (h : HO (.lex ro0) P N w0 S0 ops l env (e :: ro) rw' K) : HO (.lex ro0) P N w0 S0 ops l env ro rw K := by
  have e := eraseO_eq hr
  subst e
  exact HO_hold hk h
theorem one_shl' : ∀ i, i < 32 → bShl .u32 1 i = ((2 ^ i : Nat) : Int) := by decide +kernel
theorem or_hi (a n : Nat) (ha : a < 4294967296) (hn : n ≤ 31) : bOr .u32 ((topN a n : Nat) : Int) ((2 ^ (31 - n) : Nat) : Int) = ((hiN a n : Nat) : Int) := by
  have h1 := topN_le a n
  have h2 : (2 : Nat) ^ (31 - n) < 4294967296 := Nat.lt_of_le_of_lt (Nat.pow_le_pow_right (by decide) (show 31 - n ≤ 31 by omega)) (by decide)
  have h3 := hiN_lt a n ha hn
  unfold bOr
  rw [BitVec.ofInt_natCast, BitVec.ofInt_natCast, BitVec.toNat_or, BitVec.toNat_ofNat, BitVec.toNat_ofNat, show 2 ^ IntKind.u32.bits = 4294967296 from rfl, Nat.mod_eq_of_lt (show topN a n < 4294967296 by omega), Nat.mod_eq_of_lt h2, or_half a n hn]
  show ((hiN a n : Nat) : Int) % 4294967296 = _
  omega
theorem bitN_nat (a n : Nat) (hn : n ≤ 31) : bitN a n = a / 2 ^ (31 - n) % 2 := by
  unfold bitN
  rw [if_neg (by omega)]
  rfl
theorem eq_one (x : Nat) : decide (((x : Nat) : Int) = 1) = decide (x = 1) := decide_eq_decide.2 (by omega)
set_option maxHeartbeats 16000000 in
theorem lawHolds (m : Int) (a : Nat) (ha : a < 4294967296) (n : Int) :
    Tri Tryd.prog 9 [.int .u32 a, .int .i64 n] [tab1, maxLen0 m] [] (fun _ : Unit => True) (fun _ => .bool true) (fun _ => []) := by
  have c1 := alives_t m
  by_cases h0 : n < 0
  · refine Tri_of (N := Tryd.f9.ntmps) (c := bodyOf Tryd.f9) Tryd.func9 rfl rfl rfl rfl (fun w0 S0 => ?_)
    repeat' (first | refine SW ?_ | refine SD ?_ | (refine HO_k 12 rfl ?_; refine HO_callq rfl rfl rfl rfl (c1) (fun _ _ => rfl) (srcsA) rfl rfl sqA ?_) | exact HO_seg rfl rfl | refine S1 ?_ | (refine S2 ?_; intro _) | (refine S3 ?_; intro _ _) | (refine S4 ?_; intro _ _ _) | (refine HO_g 2 rfl ?_; (first | apply HO_and rfl rfl rfl rfl rfl rfl rfl rfl rfl | apply HO_or rfl rfl rfl rfl rfl rfl rfl rfl rfl)) | refine S5 ?_ | (intro hb; try replace hb := simB hb; try exact kill hb))
    ((first | apply HX_ret | apply HX_retn); (repeat (first | exact Res_nil | apply Res_tmp rfl | apply Res_ce rfl rfl rfl)); unfold RetQ; refine ⟨(), trivial, ?_, Keeps.nil⟩)
    rfl
  by_cases h31 : 31 < n
  · refine Tri_of (N := Tryd.f9.ntmps) (c := bodyOf Tryd.f9) Tryd.func9 rfl rfl rfl rfl (fun w0 S0 => ?_)
    repeat' (first | refine SW ?_ | refine SD ?_ | (refine HO_k 12 rfl ?_; refine HO_callq rfl rfl rfl rfl (c1) (fun _ _ => rfl) (srcsA) rfl rfl sqA ?_) | exact HO_seg rfl rfl | refine S1 ?_ | (refine S2 ?_; intro _) | (refine S3 ?_; intro _ _) | (refine S4 ?_; intro _ _ _) | (refine HO_g 2 rfl ?_; (first | apply HO_and rfl rfl rfl rfl rfl rfl rfl rfl rfl | apply HO_or rfl rfl rfl rfl rfl rfl rfl rfl rfl)) | refine S5 ?_ | (intro hb; try replace hb := simB hb; try exact kill hb))
    ((first | apply HX_ret | apply HX_retn); (repeat (first | exact Res_nil | apply Res_tmp rfl | apply Res_ce rfl rfl rfl)); unfold RetQ; refine ⟨(), trivial, ?_, Keeps.nil⟩)
    rfl
  obtain ⟨k, rfl⟩ : ∃ k : Nat, n = k := ⟨n.toNat, by omega⟩
  have hk : k ≤ 31 := by omega
  obtain ⟨p1, p2, p3, p4, p5, p6⟩ := holds_plain a k ha hk
  have ht : topN a k < 4294967296 := by have := topN_le a k; omega
  have hh := hiN_lt a k ha hk
  have c2 := amake_t a ha k
  rw [clN_nat k (by omega)] at c2
  have c3 := addrCheck_t (topN a k) ht k
  rw [p1, if_pos rfl] at c3
  have c4 := aholds_t (topN a k) ht k a ha
  rw [p2] at c4
  have c5 := aholds_t (topN a k) ht ((k + 1 : Nat) : Int) a ha
  rw [p3] at c5
  have c6 := aholds_t (hiN a k) hh ((k + 1 : Nat) : Int) a ha
  rw [p4] at c6
  have c7 := awithin_t (topN a k) ht k (topN a k) ht ((k + 1 : Nat) : Int)
  rw [p5] at c7
  have c8 := awithin_t (topN a k) ht k (hiN a k) hh ((k + 1 : Nat) : Int)
  rw [p6] at c8
  have c9 := abit_t a ha k
  rw [bitN_nat a k hk] at c9
  have e1 : (31 - ((k : Nat) : Int)) = ((31 - k : Nat) : Int) := by omega
  have e2 := one_shl' (31 - k) (by omega)
  have e3 := or_hi a k ha hk
  have e4 : ((k : Nat) : Int) + 1 = ((k + 1 : Nat) : Int) := by omega
  dsimp only [pfV] at c2 c3 c4 c5 c6 c7 c8
  have e5 := eq_one (a / 2 ^ (31 - k) % 2)
  generalize a / 2 ^ (31 - k) % 2 = u at *
  refine Tri_of (N := Tryd.f9.ntmps) (c := bodyOf Tryd.f9) Tryd.func9 rfl rfl rfl rfl (fun w0 S0 => ?_)
  repeat' (first | refine SW ?_ | refine SD ?_ | (with_reducible refine HO_rw (congrArg (Value.int .i64) e1) ?_) | (with_reducible refine HO_rw (congrArg (Value.int .u32) e2) ?_) | (with_reducible refine HO_rw (congrArg (Value.int .u32) e3) ?_) | (with_reducible refine HO_rw (congrArg (Value.int .i64) e4) ?_) | (with_reducible refine HO_rw (congrArg Value.bool e5) ?_) | (refine HO_k 12 rfl ?_; refine HO_callq rfl rfl rfl rfl (c1) (fun _ _ => rfl) (srcsA) rfl rfl sqA ?_) | (refine HO_k 12 rfl ?_; refine HO_callq rfl rfl rfl rfl (c2) (fun _ _ => rfl) (trivial) rfl rfl sqA ?_) | (refine HO_k 12 rfl ?_; refine HO_callq rfl rfl rfl rfl (c3) (fun _ _ => rfl) (trivial) rfl rfl sqA ?_) | (refine HO_k 12 rfl ?_; refine HO_callq rfl rfl rfl rfl (c4) (fun _ _ => rfl) (trivial) rfl rfl sqA ?_) | (refine HO_k 12 rfl ?_; refine HO_callq rfl rfl rfl rfl (c5) (fun _ _ => rfl) (trivial) rfl rfl sqA ?_) | (refine HO_k 12 rfl ?_; refine HO_callq rfl rfl rfl rfl (c6) (fun _ _ => rfl) (trivial) rfl rfl sqA ?_) | (refine HO_k 12 rfl ?_; refine HO_callq rfl rfl rfl rfl (c7) (fun _ _ => rfl) (trivial) rfl rfl sqA ?_) | (refine HO_k 12 rfl ?_; refine HO_callq rfl rfl rfl rfl (c8) (fun _ _ => rfl) (trivial) rfl rfl sqA ?_) | (refine HO_k 12 rfl ?_; refine HO_callq rfl rfl rfl rfl (c9) (fun _ _ => rfl) (trivial) rfl rfl sqA ?_) | exact HO_seg rfl rfl | refine S1 ?_ | (refine S2 ?_; intro _) | (refine S3 ?_; intro _ _) | (refine S4 ?_; intro _ _ _) | (refine HO_g 2 rfl ?_; (first | apply HO_and rfl rfl rfl rfl rfl rfl rfl rfl rfl | apply HO_or rfl rfl rfl rfl rfl rfl rfl rfl rfl)) | refine S5 ?_ | (intro hb; try replace hb := simB hb; try exact kill hb))
  ((first | apply HX_ret | apply HX_retn); (repeat (first | exact Res_nil | apply Res_tmp rfl | apply Res_ce rfl rfl rfl)); unfold RetQ; refine ⟨(), trivial, ?_, Keeps.nil⟩)
  rfl
end Go.Proofs.YtdeeokkkcfkbjaaDoor
