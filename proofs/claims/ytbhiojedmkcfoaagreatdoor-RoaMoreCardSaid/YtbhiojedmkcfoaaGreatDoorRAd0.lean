/- Part of a proof of many texts: what the theorem at its end leans on. -/
import Derived.Test.YtbhiojedmkcfoaaGreatDoorRTypes
import Derived.Test.YtbhiojedmkcfoaaGreatDoorRKb
import Derived.LoopIn
import Derived.LoopNIn
import Derived.TacticsInMore
import Derived.RegionIn
import Derived.Shelf.Abstract
namespace Go.Proofs.YtbhiojedmkcfoaaGreatDoor
set_option linter.unusedVariables false
set_option linter.unusedSimpArgs false
open Go.RowKit
attribute [local irreducible] HC HX HO Tri eP adr
def iE (n : Int) : List Value := [.int .i64 n]
instance : EncOk iE 1 := ⟨fun _ => ⟨rfl, rfl⟩⟩
@[reducible] def OA := Option Addr × Nat
@[reducible] def pt (b : Nat) : Value := .pointer (some ⟨b, 0, none⟩)
structure PA where
 org : Int
 path : List (Bool × List Int)
 nxt : Int
 med : Int
 pref : Int
 comms : List Int
def bits (p : PA) : Nat := (((14 ||| if 0 ≤ p.med then 16 else 0) ||| if 0 ≤ p.pref then 32 else 0) ||| if 0 < p.comms.length then 256 else 0)
theorem and_top (a n : Nat) (ha : a < 4294967296) (hn : n ≤ 32) : a &&& ((2 ^ n - 1) * 2 ^ (32 - n)) = a / 2 ^ (32 - n) * 2 ^ (32 - n) := by
 apply Nat.eq_of_testBit_eq
 intro j
 rw [Nat.testBit_and, Nat.testBit_mul_two_pow, Nat.testBit_two_pow_sub_one, Nat.testBit_mul_two_pow, Nat.testBit_div_two_pow]
 by_cases h : 32 - n ≤ j
 ·have e : j - (32 - n) + (32 - n) = j := by omega
  rw [e]
  cases hb : a.testBit j
  ·simp
  ·have : j < 32 := by
    rcases Nat.lt_or_ge j 32 with h | h
    ·exact h
    ·have := Nat.testBit_lt_two_pow (x := a) (i := j) (Nat.lt_of_lt_of_le ha (Nat.pow_le_pow_right (n := 2) (by decide) h))
     rw [this] at hb
     cases hb
   simp [h]
   omega
 ·simp [h]
def topN (a n : Nat) : Nat := a / 2 ^ (32 - n) * 2 ^ (32 - n)
theorem topN_zero (a : Nat) (h : a < 4294967296) : topN a 0 = 0 := by
 unfold topN
 rw [Nat.div_eq_of_lt h, Nat.zero_mul]
theorem topN_step (a i : Nat) (h : i < 32) : topN a (i + 1) = topN a i + a / 2 ^ (31 - i) % 2 * 2 ^ (31 - i) := by
 unfold topN
 have e1 : 32 - (i + 1) = 31 - i := by omega
 have e2 : 32 - i = (31 - i) + 1 := by omega
 rw [e1, e2, Nat.pow_succ, ← Nat.div_div_eq_div_mul]
 generalize a / 2 ^ (31 - i) = q
 generalize 2 ^ (31 - i) = p
 have h1 : q / 2 * (p * 2) = q / 2 * 2 * p := by rw [Nat.mul_comm p 2, Nat.mul_assoc]
 rw [h1, ← Nat.add_mul, Nat.div_add_mod']
theorem topN_le (a n : Nat) : topN a n ≤ a := Nat.div_mul_le_self _ _
def clN (n : Int) : Nat := if n < 0 then 0 else if 32 < n then 32 else n.toNat
theorem clN_le (n : Int) : clN n ≤ 32 := by unfold clN; split; · omega
                                            split <;> omega
theorem clN_min (n : Int) : (if (32 : Int) < (if (0 : Int) > n then 0 else n) then (32 : Int) else (if (0 : Int) > n then 0 else n)) = (clN n : Int) := by
 unfold clN
 by_cases h1 : n < 0
 ·rw [if_pos h1, if_pos h1]; decide
 ·rw [if_neg h1, if_neg h1]
  by_cases h2 : 32 < n
  ·rw [if_pos h2, if_pos h2]; rfl
  ·rw [if_neg h2, if_neg h2]; omega
theorem clN_cl (n : Int) : clN (clN n : Int) = clN n := by
 have h := clN_le n
 show (if ((clN n : Nat) : Int) < 0 then 0 else if 32 < ((clN n : Nat) : Int) then 32 else ((clN n : Nat) : Int).toNat) = clN n
 rw [if_neg (by omega), if_neg (by omega)]
 rfl
def mskN (n : Nat) : Nat := (2 ^ n - 1) * 2 ^ (32 - n)
theorem msk_wrap : ∀ k, k < 33 → IntKind.u32.wrap (bShl .u64 18446744073709551615 (32 - k)) = ((mskN k : Nat) : Int) := by decide +kernel
theorem msk_lt : ∀ k, k < 33 → mskN k < 4294967296 := by decide +kernel
theorem and_msk (a k : Nat) (ha : a < 4294967296) (hk : k ≤ 32) : bAnd .u32 (a : Nat) ((mskN k : Nat) : Int) = ((topN a k : Nat) : Int) := by
 have h1 := and_top a k ha hk
 have h2 := msk_lt k (by omega)
 have h3 := topN_le a k
 unfold bAnd
 have e : (BitVec.ofInt IntKind.u32.bits (a : Int) &&& BitVec.ofInt IntKind.u32.bits ((mskN k : Nat) : Int)).toNat = topN a k := by
  rw [BitVec.ofInt_natCast, BitVec.ofInt_natCast, BitVec.toNat_and, BitVec.toNat_ofNat, BitVec.toNat_ofNat, show 2 ^ IntKind.u32.bits = 4294967296 from rfl, Nat.mod_eq_of_lt ha, Nat.mod_eq_of_lt h2]
  exact h1
 rw [e]
 show ((topN a k : Nat) : Int) % 4294967296 = _
 omega
theorem HO_max {m : Md} {P : Program} {N : Nat} {w0 : World} {S0 : Foot} {ops : List Oper} {i : Nat} {lq : List Nat} {env : Env} {ro rw : List SL} {K : Act → World → Prop} {d : Nat} {ty : TypeId} {pos : String} {aft : Array Edge} {g : Option (Nat × Bool)}
  {x y : Operand} {k k' : IntKind} {p q : Int} {tys : Array TypeId} (ho : ops[i]? = some ⟨some d, .call { callee := .builtin .max, args := #[x, y], argTypes := tys }, ty, pos, aft, g⟩)
  (hx : Env.ev env x = some (.int k p)) (hy : Env.ev env y = some (.int k' q)) (hw : wantE ops env g = some true) (hN : Nat.blt d N = true) (hr : rdyB m ops i lq = true)
  (h : HO m P N w0 S0 ops lq ((d, .int k (if q > p then q else p)) :: env) ro rw K) : HO m P N w0 S0 ops (i :: lq) env ro rw K := by
 refine HO_val ho hw rfl hN hr (fun a w ha hf => ?_) h
 simp [execOp, resolve, invoke, builtin, Builtin.max_, Builtin.max2, Sem.run_bind, ha.ev hx, ha.ev hy]
set_option maxHeartbeats 1000000000 in
theorem mask_t (n : Int) : Tri Tryz.prog 201 [.int .i64 n] [] [] (fun _ : Unit => True) (fun _ => .int .u32 (mskN (clN n))) (fun _ => []) := by
 have hm := clN_min n
 have hl := clN_le n
 have hs : (32 - ((clN n : Nat) : Int)) = ((32 - clN n : Nat) : Int) := by omega
 have hw := msk_wrap (clN n) (by omega)
 refine Tri_of (N := Tryz.f201.ntmps) (c := bodyOf Tryz.f201) Tryz.func201 rfl rfl rfl rfl (fun w0 S0 => ?_)
 repeat' (first | refine SW ?_ | refine SD ?_ | (refine HO_k 19 rfl ?_; refine HO_max rfl rfl rfl rfl rfl rdA ?_) | (with_reducible refine HO_rw (congrArg (Value.int .i64) hm) ?_) | (with_reducible refine HO_rw (congrArg (Value.int .i64) hs) ?_) | exact HO_seg rfl rfl | refine S1 ?_ | (refine S2 ?_; intro _) | (refine S3 ?_; intro _ _) | (refine S4 ?_; intro _ _ _) | (refine HO_g 2 rfl ?_; first | apply HO_a1 rfl | apply HO_o1 rfl) | refine S5 ?_ | (intro hb; try replace hb := simB hb; try exact kill hb))
 (refine SRt ?_; unfold RetQ; refine ⟨(), trivial, ?_, Keeps.nil⟩)
 rw [hw]
 rfl
@[reducible] def pfV (a : Nat) (n : Int) : Value := .agg #[.int .u32 a, .int .i64 n]
set_option maxHeartbeats 1000000000 in
theorem amake_t (a : Nat) (ha : a < 4294967296) (n : Int) : Tri Tryz.prog 152 [.int .u32 a, .int .i64 n] [] [] (fun _ : Unit => True) (fun _ => pfV (topN a (clN n)) (clN n)) (fun _ => []) := by
 have hm := clN_min n
 have hl := clN_le n
 have hk := mask_t (clN n)
 rw [clN_cl] at hk
 have hw := and_msk a (clN n) ha hl
 refine Tri_of (N := Tryz.f152.ntmps) (c := bodyOf Tryz.f152) Tryz.func152 rfl rfl rfl rfl (fun w0 S0 => ?_)
 repeat' (first | refine SW ?_ | refine SD ?_ | (refine HO_k 19 rfl ?_; refine HO_max rfl rfl rfl rfl rfl rdA ?_) | (with_reducible refine HO_rw (congrArg (Value.int .i64) hm) ?_) | (with_reducible refine HO_rw (congrArg (Value.int .u32) hw) ?_) | (refine HO_k 12 rfl ?_; refine HO_callq rfl rfl rfl rfl (hk) (fun _ _ => rfl) (trivial) rfl rfl sqA ?_) | exact HO_seg rfl rfl | refine S1 ?_ | (refine S2 ?_; intro _) | (refine S3 ?_; intro _ _) | (refine S4 ?_; intro _ _ _) | (refine HO_g 2 rfl ?_; first | apply HO_a1 rfl | apply HO_o1 rfl) | refine S5 ?_ | (intro hb; try replace hb := simB hb; try exact kill hb))
 (refine SRt ?_; unfold RetQ; refine ⟨(), trivial, ?_, Keeps.nil⟩)
 rfl
def okX (a : Nat) (n : Int) : Bool := decide (topN a (clN n) = a ∧ ((clN n : Nat) : Int) = n)
theorem okX_eq (a : Nat) (n : Int) : okX a n = (decide (((topN a (clN n) : Nat) : Int) = (a : Nat)) && decide (((clN n : Nat) : Int) = n)) := by
 unfold okX
 rw [Bool.decide_and]
 congr 1
 exact decide_eq_decide.2 (by omega)
set_option maxHeartbeats 1000000000 in
theorem addrCheck_t (a : Nat) (ha : a < 4294967296) (n : Int) : Tri Tryz.prog 97 [pfV a n] [] [] (fun _ : Unit => True) (fun _ => .int .i64 (if okX a n = true then 0 else 20)) (fun _ => []) := by
 have hk := amake_t a ha n
 dsimp only [pfV] at hk
 refine Tri_of (N := Tryz.f97.ntmps) (c := bodyOf Tryz.f97) Tryz.func97 rfl rfl rfl rfl (fun w0 S0 => ?_)
 dsimp only [pfV]
 repeat' (first | refine SW ?_ | refine SD ?_ | (refine HO_k 12 rfl ?_; refine HO_callq rfl rfl rfl rfl (hk) (fun _ _ => rfl) (trivial) rfl rfl sqA ?_) | exact HO_seg rfl rfl | refine S1 ?_ | (refine S2 ?_; intro _) | (refine S3 ?_; intro _ _) | (refine S4 ?_; intro _ _ _) | (refine HO_g 2 rfl ?_; first | apply HO_a1 rfl | apply HO_o1 rfl) | refine S5 ?_ | (intro hb; try replace hb := simB hb; try exact kill hb))
 refine HC_cond rfl rfl (fun hb => ?_) (fun hb => ?_)
 ·have hx : okX a n = false := by rw [okX_eq]; simp only [Bool.not_eq_true'] at hb; exact hb
  rw [hx]
  repeat' (first | refine SW ?_ | exact HO_seg rfl rfl | refine S1 ?_ | (refine S2 ?_; intro _) | (refine S3 ?_; intro _ _) | (refine S4 ?_; intro _ _ _) | (refine HO_g 2 rfl ?_; first | apply HO_a1 rfl | apply HO_o1 rfl) | refine S5 ?_ | (intro hb; try replace hb := simB hb; try exact kill hb))
  (refine SRt ?_; unfold RetQ; refine ⟨(), trivial, ?_, Keeps.nil⟩)
  rfl
 ·have hx : okX a n = true := by rw [okX_eq]; simp only [Bool.not_eq_false'] at hb; exact hb
  rw [hx]
  repeat' (first | refine SW ?_ | exact HO_seg rfl rfl | refine S1 ?_ | (refine S2 ?_; intro _) | (refine S3 ?_; intro _ _) | (refine S4 ?_; intro _ _ _) | (refine HO_g 2 rfl ?_; first | apply HO_a1 rfl | apply HO_o1 rfl) | refine S5 ?_ | (intro hb; try replace hb := simB hb; try exact kill hb))
  (refine SRt ?_; unfold RetQ; refine ⟨(), trivial, ?_, Keeps.nil⟩)
  rfl
theorem HO_quo {m : Md} {P : Program} {N : Nat} {w0 : World} {S0 : Foot} {ops : List Oper} {i : Nat} {lq : List Nat} {env : Env} {ro rw : List SL} {K : Act → World → Prop} {d : Nat} {ty : TypeId} {pos : String} {aft : Array Edge} {g : Option (Nat × Bool)}
  {T U : Nat} {x y : Operand} {k : IntKind} {p q : Int} (ho : ops[i]? = some ⟨some d, .binOp .quo T x y U, ty, pos, aft, g⟩)
  (hx : Env.ev env x = some (.int k p)) (hy : Env.ev env y = some (.int k q)) (h0 : q ≠ 0) (hw : wantE ops env g = some true) (hN : Nat.blt d N = true) (hr : rdyB m ops i lq = true)
  (h : HO m P N w0 S0 ops lq ((d, .int k (bQuo k p q)) :: env) ro rw K) : HO m P N w0 S0 ops (i :: lq) env ro rw K := by
 refine HO_val ho hw rfl hN hr (fun a w ha hf => ?_) h
 simp [execOp, eqGuard, binOp, Op.intCmp, Op.intArith, Op.intBits, Op.intDiv, bQuo, h0, Sem.run_bind, ha.ev hx, ha.ev hy]
theorem one_shl : ∀ i, i < 32 → bShl .u32 1 (31 - i) = ((2 ^ (31 - i) : Nat) : Int) := by decide +kernel
theorem quo_u32 (a k : Nat) (ha : a < 4294967296) : bQuo .u32 (a : Nat) ((2 ^ k : Nat) : Int) = ((a / 2 ^ k : Nat) : Int) := by
 have h := Nat.div_le_self a (2 ^ k)
 show ((a / 2 ^ k : Nat) : Int) % 4294967296 = _
 generalize a / 2 ^ k = q at h ⊢
 omega
theorem shl_bit : ∀ b, b < 2 → ∀ s, s < 32 → bShl .u32 ((b : Nat) : Int) s = ((b * 2 ^ s : Nat) : Int) := by decide +kernel
theorem rem_two (n : Nat) : bRem ((n : Nat) : Int) 2 = ((n % 2 : Nat) : Int) := by
 unfold bRem
 rw [Int.tmod_eq_emod_of_nonneg (by omega)]
 rfl
set_option maxHeartbeats 1000000000 in
theorem rbit_t (a : Nat) (ha : a < 4294967296) (i : Nat) (hi : i < 32) : Tri Tryz.prog 238 [.int .u32 a, .int .i64 i] [] [] (fun _ : Unit => True) (fun _ => .int .u32 ((a / 2 ^ (31 - i) % 2 : Nat) : Int)) (fun _ => []) := by
 have hs : (31 - ((i : Nat) : Int)) = ((31 - i : Nat) : Int) := by omega
 have hl := one_shl i hi
 have hq := quo_u32 a (31 - i) ha
 have hr := rem_two (a / 2 ^ (31 - i))
 have hp : ((2 ^ (31 - i) : Nat) : Int) ≠ 0 := by have := Nat.pow_pos (n := 31 - i) (show 0 < 2 by decide); omega
 refine Tri_of (N := Tryz.f238.ntmps) (c := bodyOf Tryz.f238) Tryz.func238 rfl rfl rfl rfl (fun w0 S0 => ?_)
 repeat' (first | refine SW ?_ | refine SD ?_ | (with_reducible refine HO_rw (congrArg (Value.int .i64) hs) ?_) | (with_reducible refine HO_rw (congrArg (Value.int .u32) hl) ?_) | (with_reducible refine HO_rw (congrArg (Value.int .u32) hq) ?_) | (with_reducible refine HO_rw (congrArg (Value.int .u32) hr) ?_) | (refine HO_k 0 rfl ?_; refine HO_quo rfl rfl rfl hp rfl rfl rdA ?_) | exact HO_seg rfl rfl | refine S1 ?_ | (refine S2 ?_; intro _) | (refine S3 ?_; intro _ _) | (refine S4 ?_; intro _ _ _) | (refine HO_g 2 rfl ?_; first | apply HO_a1 rfl | apply HO_o1 rfl) | refine S5 ?_ | (intro hb; try replace hb := simB hb; try exact kill hb))
 (refine SRt ?_; unfold RetQ; refine ⟨(), trivial, ?_, Keeps.nil⟩)
 rfl
set_option maxHeartbeats 1000000000 in
theorem rmake_t (a : Nat) (ha : a < 4294967296) (n : Int) : Tri Tryz.prog 196 [.int .u32 a, .int .i64 n] [] [] (fun _ : Unit => True) (fun _ => pfV (topN a (clN n)) (clN n)) (fun _ => []) := by
 have hl := clN_le n
 refine Tri_of (N := Tryz.f196.ntmps) (c := bodyOf Tryz.f196) Tryz.func196 rfl rfl rfl rfl (fun w0 S0 => ?_)
 repeat' (first | refine SW ?_ | exact HO_seg rfl rfl | refine S1 ?_ | (refine S2 ?_; intro _) | (refine S3 ?_; intro _ _) | (refine S4 ?_; intro _ _ _) | (refine HO_g 2 rfl ?_; first | apply HO_a1 rfl | apply HO_o1 rfl) | refine S5 ?_ | (intro hb; try replace hb := simB hb; try exact kill hb))
 rename_i b4
 obtain ⟨n1, hn1⟩ : ∃ n1 : Int, n1 = if n < 0 then 0 else n := ⟨_, rfl⟩
 refine HC_cutP (α := Unit) (fun _ => True) (fun _ => [(4, pt b4), (0, .int .u32 a), (1, .int .i64 n1)]) (fun _ => [cel b4 49 [.int .u32 0, .int .i64 0]]) ?_ ?_
 ·refine HC_cond rfl rfl (fun hb => ?_) (fun hb => ?_)
  ·replace hb := simB hb
   rw [if_pos hb] at hn1
   subst hn1
   repeat' (first | refine SW ?_ | exact HO_seg rfl rfl | refine S1 ?_ | (refine S2 ?_; intro _) | (refine S3 ?_; intro _ _) | (refine S4 ?_; intro _ _ _) | (refine HO_g 2 rfl ?_; first | apply HO_a1 rfl | apply HO_o1 rfl) | refine S5 ?_ | (intro hb; try replace hb := simB hb; try exact kill hb))
   exact HX_at () trivial ⟨rfl, rfl, rfl, trivial⟩ rfl
  ·replace hb := simB hb
   rw [if_neg (by omega)] at hn1
   subst hn1
   repeat' (first | refine SW ?_ | exact HO_seg rfl rfl | refine S1 ?_ | (refine S2 ?_; intro _) | (refine S3 ?_; intro _ _) | (refine S4 ?_; intro _ _ _) | (refine HO_g 2 rfl ?_; first | apply HO_a1 rfl | apply HO_o1 rfl) | refine S5 ?_ | (intro hb; try replace hb := simB hb; try exact kill hb))
   exact HX_at () trivial ⟨rfl, rfl, rfl, trivial⟩ rfl
 intro _ _
 have hn2 : (clN n : Int) = if 32 < n1 then 32 else n1 := by
  rw [hn1]
  unfold clN
  by_cases h1 : n < 0
  ·rw [if_pos h1, if_pos h1]; decide
  ·rw [if_neg h1, if_neg h1]
   by_cases h2 : 32 < n
   ·rw [if_pos h2, if_pos h2]; rfl
   ·rw [if_neg h2, if_neg h2]; omega
 obtain ⟨k, hk⟩ : ∃ k, clN n = k := ⟨_, rfl⟩
 rw [hk] at hl hn2 ⊢
 repeat' (first | refine SW ?_ | exact HO_seg rfl rfl | refine S1 ?_ | (refine S2 ?_; intro _) | (refine S3 ?_; intro _ _) | (refine S4 ?_; intro _ _ _) | (refine HO_g 2 rfl ?_; first | apply HO_a1 rfl | apply HO_o1 rfl) | refine S5 ?_ | (intro hb; try replace hb := simB hb; try exact kill hb))
 refine HC_cutP (α := Unit) (fun _ => True) (fun _ => [(4, pt b4), (0, .int .u32 a), (1, .int .i64 (k : Int))]) (fun _ => [cel b4 49 [.int .u32 0, .int .i64 0]]) ?_ ?_
 ·refine HC_cond rfl rfl (fun hb => ?_) (fun hb => ?_)
  ·replace hb := simB hb
   rw [if_pos (by omega)] at hn2
   rw [hn2]
   repeat' (first | refine SW ?_ | exact HO_seg rfl rfl | refine S1 ?_ | (refine S2 ?_; intro _) | (refine S3 ?_; intro _ _) | (refine S4 ?_; intro _ _ _) | (refine HO_g 2 rfl ?_; first | apply HO_a1 rfl | apply HO_o1 rfl) | refine S5 ?_ | (intro hb; try replace hb := simB hb; try exact kill hb))
   exact HX_at () trivial ⟨rfl, rfl, rfl, trivial⟩ rfl
  ·replace hb := simB hb
   rw [if_neg (by omega)] at hn2
   rw [hn2]
   repeat' (first | refine SW ?_ | exact HO_seg rfl rfl | refine S1 ?_ | (refine S2 ?_; intro _) | (refine S3 ?_; intro _ _) | (refine S4 ?_; intro _ _ _) | (refine HO_g 2 rfl ?_; first | apply HO_a1 rfl | apply HO_o1 rfl) | refine S5 ?_ | (intro hb; try replace hb := simB hb; try exact kill hb))
   exact HX_at () trivial ⟨rfl, rfl, rfl, trivial⟩ rfl
 intro _ _
 repeat' (first | refine SW ?_ | exact HO_seg rfl rfl | refine S1 ?_ | (refine S2 ?_; intro _) | (refine S3 ?_; intro _ _) | (refine S4 ?_; intro _ _ _) | (refine HO_g 2 rfl ?_; first | apply HO_a1 rfl | apply HO_o1 rfl) | refine S5 ?_ | (intro hb; try replace hb := simB hb; try exact kill hb))
 rename_i b5
 refine HC_loop (α := Nat) (fun j => j ≤ k) (fun j => [(6, .int .i64 j), (5, pt b5), (4, pt b4), (0, .int .u32 a), (1, .int .i64 k)]) (fun j => [cel b5 49 [.int .u32 (topN a j), .int .i64 k], cel b4 49 [.int .u32 0, .int .i64 0]]) (fun j => k - j) rfl 0 (Nat.zero_le _) ⟨rfl, rfl, rfl, rfl, rfl, trivial⟩ (by rw [topN_zero a ha]; rfl) ?_
 intro j hj
 rcases Nat.lt_or_ge j k with hlt | hge
 ·have hbt := rbit_t a ha j (by omega)
  have hs : (31 - ((j : Nat) : Int)) = ((31 - j : Nat) : Int) := by omega
  repeat' (first | refine SW ?_ | refine SD ?_ | (refine HO_k 12 rfl ?_; refine HO_callq rfl rfl rfl rfl (hbt) (fun _ _ => rfl) (trivial) rfl rfl sqA ?_) | (with_reducible refine HO_rw (congrArg (Value.int .i64) hs) ?_) | exact HO_seg rfl rfl | refine S1 ?_ | (refine S2 ?_; intro _) | (refine S3 ?_; intro _ _) | (refine S4 ?_; intro _ _ _) | (refine HO_g 2 rfl ?_; first | apply HO_a1 rfl | apply HO_o1 rfl) | refine S5 ?_ | (intro hb; try replace hb := simB hb; try exact kill hb))
  have hsn : (31 - ((j : Nat) : Int)).toNat = 31 - j := by omega
  have ew : IntKind.u32.wrap (((topN a j : Nat) : Int) + bShl IntKind.u32 ((a / 2 ^ (31 - j) % 2 : Nat) : Int) (31 - ((j : Nat) : Int)).toNat) = ((topN a (j + 1) : Nat) : Int) := by
   have h1 := topN_le a (j + 1)
   rw [topN_step a j (by omega)] at h1 ⊢
   rw [hsn, shl_bit _ (Nat.mod_lt _ (by decide)) _ (by omega)]
   show (((topN a j : Nat) : Int) + ((a / 2 ^ (31 - j) % 2 * 2 ^ (31 - j) : Nat) : Int)) % 4294967296 = _
   generalize a / 2 ^ (31 - j) % 2 * 2 ^ (31 - j) = u at h1 ⊢
   omega
  rw [ew]
  exact HX_at (j + 1) ⟨hlt, by omega⟩ ⟨rfl, rfl, rfl, rfl, rfl, trivial⟩ rfl
 ·obtain rfl : j = k := by omega
  repeat' (first | refine SW ?_ | refine SD ?_ | exact HO_seg rfl rfl | refine S1 ?_ | (refine S2 ?_; intro _) | (refine S3 ?_; intro _ _) | (refine S4 ?_; intro _ _ _) | (refine HO_g 2 rfl ?_; first | apply HO_a1 rfl | apply HO_o1 rfl) | refine S5 ?_ | (intro hb; try replace hb := simB hb; try exact kill hb))
  (refine SRt ?_; unfold RetQ; refine ⟨(), trivial, ?_, Keeps.nil⟩)
  rfl
theorem okX_clN {a : Nat} {n : Int} : okX a n = (decide (0 ≤ n) && decide (n ≤ 32) && (decide (((topN a (clN n) : Nat) : Int) = (a : Nat)) && decide (((clN n : Nat) : Int) = n))) := by
 rw [okX_eq]
 by_cases h : ((clN n : Nat) : Int) = n
 ·have h1 := clN_le n
  rw [decide_eq_true (show 0 ≤ n by omega), decide_eq_true (show n ≤ 32 by omega), Bool.true_and, Bool.true_and]
 ·rw [decide_eq_false h, Bool.and_false, Bool.and_false]
set_option maxHeartbeats 1000000000 in
theorem rchk_t (a : Nat) (ha : a < 4294967296) (n : Int) : Tri Tryz.prog 138 [pfV a n] [] [] (fun _ : Unit => True) (fun _ => .bool (okX a n)) (fun _ => []) := by
 have hk := rmake_t a ha n
 dsimp only [pfV] at hk
 rw [okX_clN]
 by_cases h1 : 0 ≤ n
 ·by_cases h2 : n ≤ 32
  ·rw [decide_eq_true h1, decide_eq_true h2, Bool.true_and, Bool.true_and]
   refine Tri_of (N := Tryz.f138.ntmps) (c := bodyOf Tryz.f138) Tryz.func138 rfl rfl rfl rfl (fun w0 S0 => ?_)
   dsimp only [pfV]
   repeat' (first | refine SW ?_ | refine SD ?_ | (refine HO_k 12 rfl ?_; refine HO_callq rfl rfl rfl rfl (hk) (fun _ _ => rfl) (trivial) rfl rfl sqA ?_) | exact HO_seg rfl rfl | refine S1 ?_ | (refine S2 ?_; intro _) | (refine S3 ?_; intro _ _) | (refine S4 ?_; intro _ _ _) | (refine HO_g 2 rfl ?_; first | apply HO_a1 rfl | apply HO_o1 rfl) | refine S5 ?_ | (intro hb; try replace hb := simB hb; try exact kill hb))
   (refine SRt ?_; unfold RetQ; refine ⟨(), trivial, ?_, Keeps.nil⟩)
   rfl
  ·rw [decide_eq_false h2, Bool.and_false, Bool.false_and]
   refine Tri_of (N := Tryz.f138.ntmps) (c := bodyOf Tryz.f138) Tryz.func138 rfl rfl rfl rfl (fun w0 S0 => ?_)
   dsimp only [pfV]
   repeat' (first | refine SW ?_ | refine SD ?_ | exact HO_seg rfl rfl | refine S1 ?_ | (refine S2 ?_; intro _) | (refine S3 ?_; intro _ _) | (refine S4 ?_; intro _ _ _) | (refine HO_g 2 rfl ?_; first | apply HO_a1 rfl | apply HO_o1 rfl) | refine S5 ?_ | (intro hb; try replace hb := simB hb; try exact kill hb))
   (refine SRt ?_; unfold RetQ; refine ⟨(), trivial, ?_, Keeps.nil⟩)
   rfl
 ·rw [decide_eq_false h1, Bool.false_and, Bool.false_and]
  refine Tri_of (N := Tryz.f138.ntmps) (c := bodyOf Tryz.f138) Tryz.func138 rfl rfl rfl rfl (fun w0 S0 => ?_)
  dsimp only [pfV]
  repeat' (first | refine SW ?_ | refine SD ?_ | exact HO_seg rfl rfl | refine S1 ?_ | (refine S2 ?_; intro _) | (refine S3 ?_; intro _ _) | (refine S4 ?_; intro _ _ _) | (refine HO_g 2 rfl ?_; first | apply HO_a1 rfl | apply HO_o1 rfl) | refine S5 ?_ | (intro hb; try replace hb := simB hb; try exact kill hb))
  (refine SRt ?_; unfold RetQ; refine ⟨(), trivial, ?_, Keeps.nil⟩)
  rfl
theorem okX_len {a : Nat} {n : Int} (h : okX a n = true) : 0 ≤ n ∧ n ≤ 32 := by
 rw [okX_clN] at h
 simp only [Bool.and_eq_true, decide_eq_true_eq] at h
 exact h.1
theorem okX_top {a k : Nat} (h : okX a k = true) : topN a k = a ∧ k ≤ 32 := by
 have h2 := okX_len h
 unfold okX at h
 have h := of_decide_eq_true h
 have e : clN (k : Int) = k := by omega
 rw [e] at h
 exact ⟨h.1, by omega⟩
section
variable {m : Md} {P : Program} {N : Nat} {w0 : World} {S0 : Foot} {ops : List Oper} {i : Nat} {lq : List Nat} {env : Env} {ro rw : List SL} {K : Act → World → Prop} {d : Nat} {op : Op} {ty : TypeId} {pos : String} {aft : Array Edge} {g : Option (Nat × Bool)}
end
theorem clN_nat (k : Nat) (h : k ≤ 32) : clN (k : Int) = k := by
 unfold clN
 rw [if_neg (by omega), if_neg (by omega)]
 rfl
theorem S5n {p q : Prop} (hq : q) (h : q → p := by
 intro hq
 first
 | exact HX_then hq
 | exact HC_seq rfl hq
 | exact HC_ord rfl rfl rfl rfl hq
 | exact HC_block rfl hq
 | exact HC_scope rfl hq
 | exact HC_skip rfl hq
 | exact HC_label rfl hq
 | exact HC_exit rfl hq
 | exact HC_ret rfl hq
 | exact HC_condT rfl rfl hq
 | exact HC_condF rfl rfl hq
 | exact HX_block_normal hq
 | exact HX_block_ret hq
 | exact HX_then_ret hq
 | exact HX_then_exit hq
 | exact HX_block_hit rfl hq
 | exact HX_block_miss rfl hq
 | exact HX_scope_normal hq
 | exact HX_scope_ret hq
 | exact HX_scope_exit hq) : p := h hq
end Go.Proofs.YtbhiojedmkcfoaaGreatDoor
