/- Part of a proof of many texts: what the theorem at its end leans on. -/
import Derived.Test.YteeogabkkblkgaaGreatDoorVAttC
import Derived.Test.YteeogabkkblkgaaGreatDoorVAttE
import Derived.Test.YteeogabkkblkgaaGreatDoorVAttM
namespace Go.Proofs.YteeogabkkblkgaaGreatDoor
set_option maxHeartbeats 1000000000
set_option linter.unusedVariables false
set_option linter.unusedSimpArgs false
open Go.RowKit
attribute [local irreducible] HC HX HO Tri eP adr
theorem and_top (a n : Nat) (ha : a < 4294967296) (hn : n ≤ 32) : a &&& ((2 ^ n - 1) * 2 ^ (32 - n)) = a / 2 ^ (32 - n) * 2 ^ (32 - n) := by
 apply Nat.eq_of_testBit_eq
 intro j
 rw [Nat.testBit_and, Nat.testBit_mul_two_pow, Nat.testBit_two_pow_sub_one, Nat.testBit_mul_two_pow, Nat.testBit_div_two_pow]
 by_cases h : 32 - n ≤ j
 ·have e : j - (32 - n) + (32 - n) = j := by omega
  rw [e]
  cases hb : a.testBit j
  ·simp
  ·have : j < 32 := by
    rcases Nat.lt_or_ge j 32 with h | h
    ·exact h
    ·have := Nat.testBit_lt_two_pow (x := a) (i := j) (Nat.lt_of_lt_of_le ha (Nat.pow_le_pow_right (n := 2) (by decide) h))
     rw [this] at hb
     cases hb
   simp [h]
   omega
 ·simp [h]
def topN (a n : Nat) : Nat := a / 2 ^ (32 - n) * 2 ^ (32 - n)
theorem topN_zero (a : Nat) (h : a < 4294967296) : topN a 0 = 0 := by
 unfold topN
 rw [Nat.div_eq_of_lt h, Nat.zero_mul]
theorem topN_step (a i : Nat) (h : i < 32) : topN a (i + 1) = topN a i + a / 2 ^ (31 - i) % 2 * 2 ^ (31 - i) := by
 unfold topN
 have e1 : 32 - (i + 1) = 31 - i := by omega
 have e2 : 32 - i = (31 - i) + 1 := by omega
 rw [e1, e2, Nat.pow_succ, ← Nat.div_div_eq_div_mul]
 generalize a / 2 ^ (31 - i) = q
 generalize 2 ^ (31 - i) = p
 have h1 : q / 2 * (p * 2) = q / 2 * 2 * p := by rw [Nat.mul_comm p 2, Nat.mul_assoc]
 rw [h1, ← Nat.add_mul, Nat.div_add_mod']
theorem topN_le (a n : Nat) : topN a n ≤ a := Nat.div_mul_le_self _ _
def clN (n : Int) : Nat := if n < 0 then 0 else if 32 < n then 32 else n.toNat
theorem clN_le (n : Int) : clN n ≤ 32 := by unfold clN; split; · omega
                                            split <;> omega
theorem clN_min (n : Int) : (if (32 : Int) < (if (0 : Int) > n then 0 else n) then (32 : Int) else (if (0 : Int) > n then 0 else n)) = (clN n : Int) := by
 unfold clN
 by_cases h1 : n < 0
 ·rw [if_pos h1, if_pos h1]; decide
 ·rw [if_neg h1, if_neg h1]
  by_cases h2 : 32 < n
  ·rw [if_pos h2, if_pos h2]; rfl
  ·rw [if_neg h2, if_neg h2]; omega
theorem clN_cl (n : Int) : clN (clN n : Int) = clN n := by
 have h := clN_le n
 show (if ((clN n : Nat) : Int) < 0 then 0 else if 32 < ((clN n : Nat) : Int) then 32 else ((clN n : Nat) : Int).toNat) = clN n
 rw [if_neg (by omega), if_neg (by omega)]
 rfl
def mskN (n : Nat) : Nat := (2 ^ n - 1) * 2 ^ (32 - n)
theorem msk_wrap : ∀ k, k < 33 → IntKind.u32.wrap (bShl .u64 18446744073709551615 (32 - k)) = ((mskN k : Nat) : Int) := by decide +kernel
theorem msk_lt : ∀ k, k < 33 → mskN k < 4294967296 := by decide +kernel
theorem and_msk (a k : Nat) (ha : a < 4294967296) (hk : k ≤ 32) : bAnd .u32 (a : Nat) ((mskN k : Nat) : Int) = ((topN a k : Nat) : Int) := by
 have h1 := and_top a k ha hk
 have h2 := msk_lt k (by omega)
 have h3 := topN_le a k
 unfold bAnd
 have e : (BitVec.ofInt IntKind.u32.bits (a : Int) &&& BitVec.ofInt IntKind.u32.bits ((mskN k : Nat) : Int)).toNat = topN a k := by
  rw [BitVec.ofInt_natCast, BitVec.ofInt_natCast, BitVec.toNat_and, BitVec.toNat_ofNat, BitVec.toNat_ofNat, show 2 ^ IntKind.u32.bits = 4294967296 from rfl, Nat.mod_eq_of_lt ha, Nat.mod_eq_of_lt h2]
  exact h1
 rw [e]
 show ((topN a k : Nat) : Int) % 4294967296 = _
 omega
theorem HO_max {m : Md} {P : Program} {N : Nat} {w0 : World} {S0 : Foot} {ops : List Oper} {i : Nat} {lq : List Nat} {env : Env} {ro rw : List SL} {K : Act → World → Prop} {d : Nat} {ty : TypeId} {pos : String} {aft : Array Edge} {g : Option (Nat × Bool)}
  {x y : Operand} {k k' : IntKind} {p q : Int} {tys : Array TypeId} (ho : ops[i]? = some ⟨some d, .call { callee := .builtin .max, args := #[x, y], argTypes := tys }, ty, pos, aft, g⟩)
  (hx : Env.ev env x = some (.int k p)) (hy : Env.ev env y = some (.int k' q)) (hw : wantE ops env g = some true) (hN : Nat.blt d N = true) (hr : rdyB m ops i lq = true)
  (h : HO m P N w0 S0 ops lq ((d, .int k (if q > p then q else p)) :: env) ro rw K) : HO m P N w0 S0 ops (i :: lq) env ro rw K := by
 refine HO_val ho hw rfl hN hr (fun a w ha hf => ?_) h
 simp [execOp, resolve, invoke, builtin, Builtin.max_, Builtin.max2, Sem.run_bind, ha.ev hx, ha.ev hy]
theorem mask_t (n : Int) : Tri Tryz.prog 232 [.int .i64 n] [] [] (fun _ : Unit => True) (fun _ => .int .u32 (mskN (clN n))) (fun _ => []) := by
 have hm := clN_min n
 have hl := clN_le n
 have hs : (32 - ((clN n : Nat) : Int)) = ((32 - clN n : Nat) : Int) := by omega
 have hw := msk_wrap (clN n) (by omega)
 refine Tri_in Tryz.func232 rfl (fun w0 S0 => ?_)
 repeat' (first | refine SW ?_ | (refine HO_k 19 rfl ?_; refine HO_max rfl rfl rfl rfl rfl rdA ?_) | (with_reducible refine HO_rw (congrArg (Value.int .i64) hm) ?_) | (with_reducible refine HO_rw (congrArg (Value.int .i64) hs) ?_) | refine SB ?_ | fail)
 (refine SRt ?_; refine RU ?_)
 rw [hw]
 rfl
@[reducible] def pfV (a : Nat) (n : Int) : Value := .agg #[.int .u32 a, .int .i64 n]
theorem amake_t (a : Nat) (ha : a < 4294967296) (n : Int) : Tri Tryz.prog 224 [.int .u32 a, .int .i64 n] [] [] (fun _ : Unit => True) (fun _ => pfV (topN a (clN n)) (clN n)) (fun _ => []) := by
 have hm := clN_min n
 have hl := clN_le n
 have hk := mask_t (clN n)
 rw [clN_cl] at hk
 have hw := and_msk a (clN n) ha hl
 refine Tri_in Tryz.func224 rfl (fun w0 S0 => ?_)
 repeat' (first | (refine HO_k 19 rfl ?_; refine HO_max rfl rfl rfl rfl rfl rdA ?_) | (with_reducible refine HO_rw (congrArg (Value.int .i64) hm) ?_) | (with_reducible refine HO_rw (congrArg (Value.int .u32) hw) ?_) | (refine KC ?_; refine HO_callq rfl rfl rfl rfl (hk) (fun _ _ => rfl) (trivial) rfl rfl sqA ?_) | refine SB ?_ | (refine S2 ?_; intro _) | fail)
 (refine SRt ?_; refine RU ?_)
 rfl
def okX (a : Nat) (n : Int) : Bool := decide (topN a (clN n) = a ∧ ((clN n : Nat) : Int) = n)
theorem okX_eq (a : Nat) (n : Int) : okX a n = (decide (((topN a (clN n) : Nat) : Int) = (a : Nat)) && decide (((clN n : Nat) : Int) = n)) := by
 unfold okX
 rw [Bool.decide_and]
 congr 1
 exact decide_eq_decide.2 (by omega)
theorem addrCheck_t (a : Nat) (ha : a < 4294967296) (n : Int) : Tri Tryz.prog 207 [pfV a n] [] [] (fun _ : Unit => True) (fun _ => .int .i64 (if okX a n = true then 0 else 20)) (fun _ => []) := by
 have hk := amake_t a ha n
 dsimp only [pfV] at hk
 refine Tri_in Tryz.func207 rfl (fun w0 S0 => ?_)
 dsimp only [pfV]
 repeat' (first | (refine KC ?_; refine HO_callq rfl rfl rfl rfl (hk) (fun _ _ => rfl) (trivial) rfl rfl sqA ?_) | refine SB ?_ | (refine S2 ?_; intro _) | fail)
 refine HC_cond rfl rfl (fun hb => ?_) (fun hb => ?_)
 ·have hx : okX a n = false := by rw [okX_eq]; simp only [Bool.not_eq_true'] at hb; exact hb
  rw [hx]
  repeat' (first | refine SB ?_ | (refine S2 ?_; intro _) | fail)
  (refine SRt ?_; refine RU ?_)
  rfl
 ·have hx : okX a n = true := by rw [okX_eq]; simp only [Bool.not_eq_false'] at hb; exact hb
  rw [hx]
  repeat' (first | refine SB ?_ | (refine S2 ?_; intro _) | fail)
  (refine SRt ?_; refine RU ?_)
  rfl
theorem HO_quo {m : Md} {P : Program} {N : Nat} {w0 : World} {S0 : Foot} {ops : List Oper} {i : Nat} {lq : List Nat} {env : Env} {ro rw : List SL} {K : Act → World → Prop} {d : Nat} {ty : TypeId} {pos : String} {aft : Array Edge} {g : Option (Nat × Bool)}
  {T U : Nat} {x y : Operand} {k : IntKind} {p q : Int} (ho : ops[i]? = some ⟨some d, .binOp .quo T x y U, ty, pos, aft, g⟩)
  (hx : Env.ev env x = some (.int k p)) (hy : Env.ev env y = some (.int k q)) (h0 : q ≠ 0) (hw : wantE ops env g = some true) (hN : Nat.blt d N = true) (hr : rdyB m ops i lq = true)
  (h : HO m P N w0 S0 ops lq ((d, .int k (bQuo k p q)) :: env) ro rw K) : HO m P N w0 S0 ops (i :: lq) env ro rw K := by
 refine HO_val ho hw rfl hN hr (fun a w ha hf => ?_) h
 simp [execOp, eqGuard, binOp, Op.intCmp, Op.intArith, Op.intBits, Op.intDiv, bQuo, h0, Sem.run_bind, ha.ev hx, ha.ev hy]
theorem one_shl : ∀ i, i < 32 → bShl .u32 1 (31 - i) = ((2 ^ (31 - i) : Nat) : Int) := by decide +kernel
theorem quo_u32 (a k : Nat) (ha : a < 4294967296) : bQuo .u32 (a : Nat) ((2 ^ k : Nat) : Int) = ((a / 2 ^ k : Nat) : Int) := by
 have h := Nat.div_le_self a (2 ^ k)
 show ((a / 2 ^ k : Nat) : Int) % 4294967296 = _
 generalize a / 2 ^ k = q at h ⊢
 omega
theorem shl_bit : ∀ b, b < 2 → ∀ s, s < 32 → bShl .u32 ((b : Nat) : Int) s = ((b * 2 ^ s : Nat) : Int) := by decide +kernel
theorem rem_two (n : Nat) : bRem ((n : Nat) : Int) 2 = ((n % 2 : Nat) : Int) := by
 unfold bRem
 rw [Int.tmod_eq_emod_of_nonneg (by omega)]
 rfl
theorem rbit_t (a : Nat) (ha : a < 4294967296) (i : Nat) (hi : i < 32) : Tri Tryz.prog 228 [.int .u32 a, .int .i64 i] [] [] (fun _ : Unit => True) (fun _ => .int .u32 ((a / 2 ^ (31 - i) % 2 : Nat) : Int)) (fun _ => []) := by
 have hs : (31 - ((i : Nat) : Int)) = ((31 - i : Nat) : Int) := by omega
 have hl := one_shl i hi
 have hq := quo_u32 a (31 - i) ha
 have hr := rem_two (a / 2 ^ (31 - i))
 have hp : ((2 ^ (31 - i) : Nat) : Int) ≠ 0 := by have := Nat.pow_pos (n := 31 - i) (show 0 < 2 by decide); omega
 refine Tri_in Tryz.func228 rfl (fun w0 S0 => ?_)
 repeat' (first | refine SW ?_ | (with_reducible refine HO_rw (congrArg (Value.int .i64) hs) ?_) | (with_reducible refine HO_rw (congrArg (Value.int .u32) hl) ?_) | (with_reducible refine HO_rw (congrArg (Value.int .u32) hq) ?_) | (with_reducible refine HO_rw (congrArg (Value.int .u32) hr) ?_) | (refine HO_k 0 rfl ?_; refine HO_quo rfl rfl rfl hp rfl rfl rdA ?_) | refine SB ?_ | fail)
 (refine SRt ?_; refine RU ?_)
 rfl
theorem rmake_t (a : Nat) (ha : a < 4294967296) (n : Int) : Tri Tryz.prog 217 [.int .u32 a, .int .i64 n] [] [] (fun _ : Unit => True) (fun _ => pfV (topN a (clN n)) (clN n)) (fun _ => []) := by
 have hl := clN_le n
 refine Tri_in Tryz.func217 rfl (fun w0 S0 => ?_)
 repeat' (first | refine SW ?_ | refine SB ?_ | (refine S2 ?_; intro _) | (intro hb; try replace hb := simB hb; try exact kill hb))
 rename_i b4
 obtain ⟨n1, hn1⟩ : ∃ n1 : Int, n1 = if n < 0 then 0 else n := ⟨_, rfl⟩
 refine HC_cutP (α := Unit) (fun _ => True) (fun _ => [(4, pt b4), (0, .int .u32 a), (1, .int .i64 n1)]) (fun _ => [cel b4 155 [.int .u32 0, .int .i64 0]]) ?_ ?_
 ·refine HC_cond rfl rfl (fun hb => ?_) (fun hb => ?_)
  ·replace hb := simB hb
   rw [if_pos hb] at hn1
   subst hn1
   repeat' (first | refine SW ?_ | refine SB ?_ | (refine S2 ?_; intro _) | (intro hb; try replace hb := simB hb; try exact kill hb))
   exact HX_at () trivial ⟨rfl, rfl, rfl, trivial⟩ rfl
  ·replace hb := simB hb
   rw [if_neg (by omega)] at hn1
   subst hn1
   repeat' (first | refine SW ?_ | refine SB ?_ | (refine S2 ?_; intro _) | (intro hb; try replace hb := simB hb; try exact kill hb))
   exact HX_at () trivial ⟨rfl, rfl, rfl, trivial⟩ rfl
 intro _ _
 have hn2 : (clN n : Int) = if 32 < n1 then 32 else n1 := by
  rw [hn1]
  unfold clN
  by_cases h1 : n < 0
  ·rw [if_pos h1, if_pos h1]; decide
  ·rw [if_neg h1, if_neg h1]
   by_cases h2 : 32 < n
   ·rw [if_pos h2, if_pos h2]; rfl
   ·rw [if_neg h2, if_neg h2]; omega
 obtain ⟨k, hk⟩ : ∃ k, clN n = k := ⟨_, rfl⟩
 rw [hk] at hl hn2 ⊢
 repeat' (first | refine SW ?_ | refine SB ?_ | (refine S2 ?_; intro _) | (intro hb; try replace hb := simB hb; try exact kill hb))
 refine HC_cutP (α := Unit) (fun _ => True) (fun _ => [(4, pt b4), (0, .int .u32 a), (1, .int .i64 (k : Int))]) (fun _ => [cel b4 155 [.int .u32 0, .int .i64 0]]) ?_ ?_
 ·refine HC_cond rfl rfl (fun hb => ?_) (fun hb => ?_)
  ·replace hb := simB hb
   rw [if_pos (by omega)] at hn2
   rw [hn2]
   repeat' (first | refine SW ?_ | refine SB ?_ | (refine S2 ?_; intro _) | (intro hb; try replace hb := simB hb; try exact kill hb))
   exact HX_at () trivial ⟨rfl, rfl, rfl, trivial⟩ rfl
  ·replace hb := simB hb
   rw [if_neg (by omega)] at hn2
   rw [hn2]
   repeat' (first | refine SW ?_ | refine SB ?_ | (refine S2 ?_; intro _) | (intro hb; try replace hb := simB hb; try exact kill hb))
   exact HX_at () trivial ⟨rfl, rfl, rfl, trivial⟩ rfl
 intro _ _
 repeat' (first | refine SW ?_ | refine SB ?_ | (refine S2 ?_; intro _) | (intro hb; try replace hb := simB hb; try exact kill hb))
 rename_i b5
 refine HC_loop (α := Nat) (fun j => j ≤ k) (fun j => [(6, .int .i64 j), (5, pt b5), (4, pt b4), (0, .int .u32 a), (1, .int .i64 k)]) (fun j => [cel b5 155 [.int .u32 (topN a j), .int .i64 k], cel b4 155 [.int .u32 0, .int .i64 0]]) (fun j => k - j) rfl 0 (Nat.zero_le _) ⟨rfl, rfl, rfl, rfl, rfl, trivial⟩ (by rw [topN_zero a ha]; rfl) ?_
 intro j hj
 rcases Nat.lt_or_ge j k with hlt | hge
 ·have hbt := rbit_t a ha j (by omega)
  have hs : (31 - ((j : Nat) : Int)) = ((31 - j : Nat) : Int) := by omega
  repeat' (first | refine SX ?_ | (refine KC ?_; refine HO_callq rfl rfl rfl rfl (hbt) (fun _ _ => rfl) (trivial) rfl rfl sqA ?_) | refine SB ?_ | (refine S2 ?_; intro _) | (intro hb; try replace hb := simB hb; try exact kill hb))
  have hsn : (31 - ((j : Nat) : Int)).toNat = 31 - j := by omega
  have ew : IntKind.u32.wrap (((topN a j : Nat) : Int) + bShl IntKind.u32 ((a / 2 ^ (31 - j) % 2 : Nat) : Int) (31 - ((j : Nat) : Int)).toNat) = ((topN a (j + 1) : Nat) : Int) := by
   have h1 := topN_le a (j + 1)
   rw [topN_step a j (by omega)] at h1 ⊢
   rw [hsn, shl_bit _ (Nat.mod_lt _ (by decide)) _ (by omega)]
   show (((topN a j : Nat) : Int) + ((a / 2 ^ (31 - j) % 2 * 2 ^ (31 - j) : Nat) : Int)) % 4294967296 = _
   generalize a / 2 ^ (31 - j) % 2 * 2 ^ (31 - j) = u at h1 ⊢
   omega
  rw [ew]
  exact HX_at (j + 1) ⟨hlt, by omega⟩ ⟨rfl, rfl, rfl, rfl, rfl, trivial⟩ rfl
 ·obtain rfl : j = k := by omega
  repeat' (first | refine SX ?_ | refine SB ?_ | (refine S2 ?_; intro _) | (intro hb; try replace hb := simB hb; try exact kill hb))
  (refine SRt ?_; refine RU ?_)
  rfl
theorem okX_clN {a : Nat} {n : Int} : okX a n = (decide (0 ≤ n) && decide (n ≤ 32) && (decide (((topN a (clN n) : Nat) : Int) = (a : Nat)) && decide (((clN n : Nat) : Int) = n))) := by
 rw [okX_eq]
 by_cases h : ((clN n : Nat) : Int) = n
 ·have h1 := clN_le n
  rw [decide_eq_true (show 0 ≤ n by omega), decide_eq_true (show n ≤ 32 by omega), Bool.true_and, Bool.true_and]
 ·rw [decide_eq_false h, Bool.and_false, Bool.and_false]
theorem rchk_t (a : Nat) (ha : a < 4294967296) (n : Int) : Tri Tryz.prog 201 [pfV a n] [] [] (fun _ : Unit => True) (fun _ => .bool (okX a n)) (fun _ => []) := by
 have hk := rmake_t a ha n
 dsimp only [pfV] at hk
 rw [okX_clN]
 by_cases h1 : 0 ≤ n
 ·by_cases h2 : n ≤ 32
  ·rw [decide_eq_true h1, decide_eq_true h2, Bool.true_and, Bool.true_and]
   refine Tri_in Tryz.func201 rfl (fun w0 S0 => ?_)
   dsimp only [pfV]
   repeat' (first | refine SD ?_ | (refine KC ?_; refine HO_callq rfl rfl rfl rfl (hk) (fun _ _ => rfl) (trivial) rfl rfl sqA ?_) | refine SB ?_ | (refine S2 ?_; intro _) | fail)
   (refine SRt ?_; refine RU ?_)
   rfl
  ·rw [decide_eq_false h2, Bool.and_false, Bool.false_and]
   refine Tri_in Tryz.func201 rfl (fun w0 S0 => ?_)
   dsimp only [pfV]
   repeat' (first | refine SD ?_ | refine SB ?_ | (refine S2 ?_; intro _) | fail)
   (refine SRt ?_; refine RU ?_)
   rfl
 ·rw [decide_eq_false h1, Bool.false_and, Bool.false_and]
  refine Tri_in Tryz.func201 rfl (fun w0 S0 => ?_)
  dsimp only [pfV]
  repeat' (first | refine SD ?_ | refine SB ?_ | (refine S2 ?_; intro _) | fail)
  (refine SRt ?_; refine RU ?_)
  rfl
theorem Tri_cap1 {P : Program} {g T n : Nat} {args : List Value} {ro rw : List SL} {φ : OA → Prop} {val : OA → Value} {l : List (List Value)} (h : Tri P g args ro rw φ val (fun x => [own idE T 1 x.1 n x.2 l])) :
  Tri P g args ro rw (fun x => n ≤ x.2) val (fun x => [own idE T 1 x.1 n x.2 l]) := by
 unfold Tri at h ⊢
 exact fun w S hf => (h w S hf).mono fun e w' ⟨x, T, hx, he, hfx⟩ => ⟨x, T, own_cap ro.length (by rw [List.getElem?_append_right (Nat.le_refl _), Nat.sub_self]; rfl) hfx.roOk, he, hfx⟩
def pfB (a k : Nat) : List UInt8 := UInt8.ofNat k :: (be 4 a).take ((k + 7) / 8)
theorem okX_len {a : Nat} {n : Int} (h : okX a n = true) : 0 ≤ n ∧ n ≤ 32 := by
 rw [okX_clN] at h
 simp only [Bool.and_eq_true, decide_eq_true_eq] at h
 exact h.1
theorem quo8 : ∀ k, k < 33 → bQuo .i64 ((k : Nat) + 7) 8 = (((k + 7) / 8 : Nat) : Int) := by decide +kernel
theorem psize_t (k : Nat) (hk : k ≤ 32) : Tri Tryz.prog 208 [.int .i64 k] [] [] (fun _ : Unit => True) (fun _ => .int .i64 ((k + 7) / 8 : Nat)) (fun _ => []) := by
 have h8 := quo8 k (by omega)
 refine Tri_in Tryz.func208 rfl (fun w0 S0 => ?_)
 repeat' (first | refine SW ?_ | (with_reducible refine HO_rw (congrArg (Value.int .i64) h8) ?_) | refine SB ?_ | fail)
 (refine SRt ?_; refine RU ?_)
 rfl
theorem pput_t (a : Nat) (ha : a < 4294967296) (k : Nat) (hx : okX a k = true) : Tri Tryz.prog 186 [pfV a k] [] [] (fun _ : OA => True) (fun x => .tuple #[.slice x.1 (pfB a k).length x.2, .int .i64 0]) (fun x => [ownB x (pfB a k)]) := by
 have hc := addrCheck_t a ha k
 rw [hx] at hc
 dsimp only [pfV] at hc
 have hk : k ≤ 32 := by have := (okX_len hx).2; omega
 have hp := Tri_cap1 (nput_ok 4 a (by decide) (by decide) ha)
 have hs := psize_t k (by omega)
 refine Tri_in Tryz.func186 rfl (fun w0 S0 => ?_)
 dsimp only [pfV]
 repeat' (first | refine SX ?_ | (refine KC ?_; refine HO_callq rfl rfl rfl rfl (hc) (fun _ _ => rfl) (trivial) rfl rfl sqA ?_) | (refine KC ?_; refine HO_callq rfl rfl rfl rfl (hs) (fun _ _ => rfl) (trivial) rfl rfl sqA ?_) | (refine KC ?_; refine HO_call rfl rfl rfl rfl (hp) rfl (trivial) rfl rfl soA ?_; intro ⟨x1, c1⟩ h1; have h2 : 4 ≤ c1 := h1; dsimp only [lca, lna]) | refine SB ?_ | (refine S2 ?_; intro _) | fail)
 have hb4 := be_length 4 a
 have hq : (((k + 7) / 8 : Nat) : Int).toNat = ((be 4 a).take ((k + 7) / 8)).length := by rw [List.length_take, hb4]; omega
 have eU : [[Value.int .u8 (k : Int)]] = List.map bE [UInt8.ofNat k] := by simp [bE]; omega
 refine HO_two (i := 3) (j := 7) (l1 := [7, 8, 9, 10, 11, 12]) (l2 := [8, 3, 9, 10, 11, 12]) (by decide +kernel) rfl ⟨by decide +kernel, rfl, rfl⟩ ⟨by decide +kernel, rfl, rfl⟩ ?_ ?_
 ·repeat' (first | refine SX ?_ | (refine KC ?_; refine HO_callq rfl rfl rfl rfl (hs) (fun _ _ => rfl) (trivial) rfl rfl sqA ?_) | refine SB ?_ | (refine S2 ?_; intro _) | fail)
  rw [hq, eU]
  rename_i b4 b1 b3
  (refine KC ?_; refine HO_call rfl rfl rfl rfl (concat_t (some ⟨b3, 0, none⟩) 2 2 [⟨some ⟨b1, 0, none⟩, 1, [UInt8.ofNat k]⟩, ⟨x1, c1, (be 4 a).take ((k + 7) / 8)⟩] rfl (by simp) (by simp [cat]; omega)) rfl (AllSrc.own 2 rfl rfl (AllSrc.via 3 rfl (fun S w h => arr_take _ S w (own_e S w h)) (AllSrc.own 1 rfl rfl trivial))) rfl rfl soA ?_; intro ⟨yA, yc⟩ hy; dsimp only [lca, lna])
  repeat' (first | refine SW ?_ | refine SB ?_ | (refine S2 ?_; intro _) | fail)
  have e : cat [⟨some ⟨b1, 0, none⟩, 1, [UInt8.ofNat k]⟩, ⟨x1, c1, (be 4 a).take ((k + 7) / 8)⟩] = pfB a k := by simp [cat, pfB]
  rw [e]
  (refine SRt ?_; unfold RetQ; refine ⟨(yA, yc), trivial, rfl, Keeps.skip (Keeps.cons Ent.rfl_ Keeps.nil)⟩)
 ·repeat' (first | refine SX ?_ | (refine KC ?_; refine HO_callq rfl rfl rfl rfl (hs) (fun _ _ => rfl) (trivial) rfl rfl sqA ?_) | refine SB ?_ | (refine S2 ?_; intro _) | fail)
  rw [hq, eU]
  rename_i b4 b1 b3
  (refine KC ?_; refine HO_call rfl rfl rfl rfl (concat_t (some ⟨b3, 0, none⟩) 2 2 [⟨some ⟨b1, 0, none⟩, 1, [UInt8.ofNat k]⟩, ⟨x1, c1, (be 4 a).take ((k + 7) / 8)⟩] rfl (by simp) (by simp [cat]; omega)) rfl (AllSrc.own 2 rfl rfl (AllSrc.via 3 rfl (fun S w h => arr_take _ S w (own_e S w h)) (AllSrc.own 1 rfl rfl trivial))) rfl rfl soA ?_; intro ⟨yA, yc⟩ hy; dsimp only [lca, lna])
  repeat' (first | refine SW ?_ | refine SB ?_ | (refine S2 ?_; intro _) | fail)
  have e : cat [⟨some ⟨b1, 0, none⟩, 1, [UInt8.ofNat k]⟩, ⟨x1, c1, (be 4 a).take ((k + 7) / 8)⟩] = pfB a k := by simp [cat, pfB]
  rw [e]
  (refine SRt ?_; unfold RetQ; refine ⟨(yA, yc), trivial, rfl, Keeps.skip (Keeps.cons Ent.rfl_ Keeps.nil)⟩)
theorem rpput_t (a : Nat) (ha : a < 4294967296) (k : Nat) (hk : k ≤ 32) : Tri Tryz.prog 110 [pfV a k] [] [] (fun _ : OA => True) (fun x => .slice x.1 (pfB a k).length x.2) (fun x => [ownB x (pfB a k)]) := by
 have hp := Tri_cap1 (rput_t 4 a (by decide) (by omega))
 have h8 := quo8 k (by omega)
 refine Tri_in Tryz.func110 rfl (fun w0 S0 => ?_)
 dsimp only [pfV]
 repeat' (first | refine SW ?_ | (with_reducible refine HO_rw (congrArg (Value.int .i64) h8) ?_) | (refine KC ?_; refine HO_call rfl rfl rfl rfl (hp) rfl (trivial) rfl rfl soA ?_; intro ⟨x1, c1⟩ h1; have h2 : 4 ≤ c1 := h1; dsimp only [lca, lna]) | refine SB ?_ | (refine S2 ?_; intro _) | fail)
 have hb4 := be_length 4 a
 have hq : (((k + 7) / 8 : Nat) : Int).toNat = ((be 4 a).take ((k + 7) / 8)).length := by rw [List.length_take, hb4]; omega
 rw [hq]
 refine HO_k 11 rfl ?_
 refine HO_app (k := 0) (k2 := 2) (l2 := ((be 4 a).take ((k + 7) / 8)).map bE) rfl rfl rfl rfl rfl rfl rfl rfl ⟨_, rfl, fun _ S w h => arr_raw S w (arr_take _ S w (own_e S w h))⟩ (by simp) WfL.map rfl rfl (by simp; omega) (by simp; omega) rfl rfl rfl soA ?_
 intro A' c'
 repeat' (first | refine SW ?_ | refine SB ?_ | (refine S2 ?_; intro _) | fail)
 have eL : 1 + (List.take ((k + 7) / 8) (be 4 a)).length = (pfB a k).length := by unfold pfB; rw [List.length_cons]; omega
 have eM : [[Value.int .u8 (k : Int)]] ++ List.map bE (List.take ((k + 7) / 8) (be 4 a)) = List.map bE (pfB a k) := by unfold pfB; simp [bE]; omega
 rw [eL, eM]
 (refine SRt ?_; unfold RetQ; refine ⟨(A', c'), trivial, rfl, Keeps.skip (Keeps.cons Ent.rfl_ Keeps.nil)⟩)
@[reducible] def nlV (i : Int) (a : Nat) (n : Int) : Value := .agg #[.int .i64 i, .int .u32 a, .int .i64 n]
def oneN (paths : Bool) (i : Int) (a : Nat) (n : Int) : Bool := decide (0 ≤ i) && decide (i ≤ 4294967295) && (paths || decide (i = 0)) && okX a n
theorem rone_t (i : Int) (a : Nat) (ha : a < 4294967296) (n : Int) (paths : Bool) : Tri Tryz.prog 167 [nlV i a n, .bool paths] [] [] (fun _ : Unit => True) (fun _ => .bool (oneN paths i a n)) (fun _ => []) := by
 have hk := rchk_t a ha n
 dsimp only [pfV] at hk
 unfold oneN
 by_cases h1 : 0 ≤ i
 rotate_left
 ·rw [decide_eq_false h1, Bool.false_and, Bool.false_and, Bool.false_and]
  refine Tri_in Tryz.func167 rfl (fun w0 S0 => ?_)
  dsimp only [nlV]
  repeat' (first | refine SD ?_ | refine SB ?_ | (refine S2 ?_; intro _) | fail)
  (refine SRt ?_; refine RU ?_)
  rfl
 by_cases h2 : i ≤ 4294967295
 rotate_left
 ·rw [decide_eq_false h2, Bool.and_false, Bool.false_and, Bool.false_and]
  refine Tri_in Tryz.func167 rfl (fun w0 S0 => ?_)
  dsimp only [nlV]
  repeat' (first | refine SD ?_ | refine SB ?_ | (refine S2 ?_; intro _) | fail)
  (refine SRt ?_; refine RU ?_)
  rfl
 rw [decide_eq_true h1, decide_eq_true h2, Bool.true_and, Bool.true_and]
 cases paths
 ·by_cases h3 : i = 0
  ·rw [decide_eq_true h3, Bool.false_or, Bool.true_and]
   refine Tri_in Tryz.func167 rfl (fun w0 S0 => ?_)
   dsimp only [nlV]
   repeat' (first | refine SD ?_ | (refine KC ?_; refine HO_callq rfl rfl rfl rfl (hk) (fun _ _ => rfl) (trivial) rfl rfl sqA ?_) | refine SB ?_ | (refine S2 ?_; intro _) | fail)
   (refine SRt ?_; refine RU ?_)
   rfl
  ·rw [decide_eq_false h3, Bool.false_or, Bool.false_and]
   refine Tri_in Tryz.func167 rfl (fun w0 S0 => ?_)
   dsimp only [nlV]
   repeat' (first | refine SD ?_ | (refine KC ?_; refine HO_callq rfl rfl rfl rfl (hk) (fun _ _ => rfl) (trivial) rfl rfl sqA ?_) | refine SB ?_ | (refine S2 ?_; intro _) | fail)
   (refine SRt ?_; refine RU ?_)
   rfl
 ·rw [Bool.true_or, Bool.true_and]
  refine Tri_in Tryz.func167 rfl (fun w0 S0 => ?_)
  dsimp only [nlV]
  repeat' (first | refine SD ?_ | (refine KC ?_; refine HO_callq rfl rfl rfl rfl (hk) (fun _ _ => rfl) (trivial) rfl rfl sqA ?_) | refine SB ?_ | (refine S2 ?_; intro _) | fail)
  (refine SRt ?_; refine RU ?_)
  rfl
theorem odd_t (i : Int) (a : Nat) (ha : a < 4294967296) (n : Int) (paths : Bool) : Tri Tryz.prog 185 [nlV i a n, .bool paths] [] [] (fun _ : Unit => True) (fun _ => .bool (!oneN paths i a n)) (fun _ => []) := by
 have hk := addrCheck_t a ha n
 dsimp only [pfV] at hk
 unfold oneN
 by_cases h1 : 0 ≤ i
 rotate_left
 ·rw [decide_eq_false h1, Bool.false_and, Bool.false_and, Bool.false_and]
  cases paths
  all_goals
   refine Tri_in Tryz.func185 rfl (fun w0 S0 => ?_)
   dsimp only [nlV]
   repeat' (first | refine SD ?_ | refine SB ?_ | (refine S2 ?_; intro _) | fail)
   (refine SRt ?_; refine RU ?_)
   rfl
 by_cases h2 : i ≤ (if paths = true then 4294967295 else 0)
 rotate_left
 ·have e : (decide (0 ≤ i) && decide (i ≤ 4294967295) && (paths || decide (i = 0)) && okX a n) = false := by
   cases paths
   ·have : ¬ i = 0 := fun h => h2 (by rw [h]; decide)
    rw [decide_eq_false this, Bool.or_false, Bool.and_false, Bool.false_and]
   ·have : ¬ i ≤ 4294967295 := h2
    rw [decide_eq_false this, Bool.and_false, Bool.false_and, Bool.false_and]
  rw [e]
  cases paths
  ·have h2 : ¬ i ≤ 0 := h2
   refine Tri_in Tryz.func185 rfl (fun w0 S0 => ?_)
   dsimp only [nlV]
   repeat' (first | refine SD ?_ | refine SB ?_ | (refine S2 ?_; intro _) | fail)
   (refine SRt ?_; refine RU ?_)
   rfl
  ·have h2 : ¬ i ≤ 4294967295 := h2
   refine Tri_in Tryz.func185 rfl (fun w0 S0 => ?_)
   dsimp only [nlV]
   repeat' (first | refine SD ?_ | refine SB ?_ | (refine S2 ?_; intro _) | fail)
   (refine SRt ?_; refine RU ?_)
   rfl
 have e : (decide (0 ≤ i) && decide (i ≤ 4294967295) && (paths || decide (i = 0)) && okX a n) = okX a n := by
  cases paths
  ·have h2 : i ≤ 0 := h2
   have h0 : i = 0 := by omega
   subst h0
   rfl
  ·have h2 : i ≤ 4294967295 := h2
   rw [decide_eq_true h1, decide_eq_true h2]
   rfl
 rw [e]
 cases hx : okX a n
 all_goals
  rw [hx] at hk
  cases paths
  ·have h2 : i ≤ 0 := h2
   refine Tri_in Tryz.func185 rfl (fun w0 S0 => ?_)
   dsimp only [nlV]
   repeat' (first | refine SD ?_ | (refine KC ?_; refine HO_callq rfl rfl rfl rfl (hk) (fun _ _ => rfl) (trivial) rfl rfl sqA ?_) | refine SB ?_ | (refine S2 ?_; intro _) | fail)
   (refine SRt ?_; refine RU ?_)
   rfl
  ·have h2 : i ≤ 4294967295 := h2
   refine Tri_in Tryz.func185 rfl (fun w0 S0 => ?_)
   dsimp only [nlV]
   repeat' (first | refine SD ?_ | (refine KC ?_; refine HO_callq rfl rfl rfl rfl (hk) (fun _ _ => rfl) (trivial) rfl rfl sqA ?_) | refine SB ?_ | (refine S2 ?_; intro _) | fail)
   (refine SRt ?_; refine RU ?_)
   rfl
structure Nl where
 i : Int
 a : Nat
 n : Int
def Nl.e (x : Nl) : List Value := [.int .i64 x.i, .int .u32 x.a, .int .i64 x.n]
instance : EncOk Nl.e 3 := ⟨fun _ => ⟨rfl, rfl⟩⟩
def NlsOk (l : List Nl) : Prop := ∀ x ∈ l, x.a < 4294967296
def oneX (paths : Bool) (x : Nl) : Bool := oneN paths x.i x.a x.n
def allX (paths : Bool) (l : List Nl) : Bool := l.all (oneX paths) && decide (l.length ≤ 1024)
def idB (paths : Bool) (i : Int) : List UInt8 := if paths = true then be 4 i.toNat else []
def nlB (paths : Bool) (x : Nl) : List UInt8 := idB paths x.i ++ pfB x.a x.n.toNat
theorem allX_at {paths : Bool} {l : List Nl} (h : l.all (oneX paths) = false) : ∃ (j : Nat) (x : Nl), l[j]? = some x ∧ oneX paths x = false ∧ ∀ (k : Nat) (y : Nl), k < j → l[k]? = some y → oneX paths y = true := by
 induction l with
 | nil => cases h
 | cons x l ih =>
  cases hx : oneX paths x with
  | false => exact ⟨0, x, rfl, hx, fun k y hk => by omega⟩
  | true =>
   have : l.all (oneX paths) = false := by
    rw [List.all_cons, hx, Bool.true_and] at h
    exact h
   obtain ⟨j, y, hj, hy, hb⟩ := ih this
   refine ⟨j + 1, y, hj, hy, fun k z hk hz => ?_⟩
   cases k with
   | zero =>
    have : x = z := by simpa using hz
    rw [← this]
    exact hx
   | succ k => exact hb k z (by omega) (by simpa using hz)
theorem rnlsL_t (A : Option Addr) (c : Nat) (l : List Nl) (hl : NlsOk l) (h1 : l.length ≤ 9223372036854775807) (paths : Bool) : Tri Tryz.prog 116 [.slice A l.length c, .bool paths] [arr Nl.e 3 A l] [] (fun _ : Unit => True) (fun _ => .bool (allX paths l)) (fun _ => []) := by
 unfold allX
 cases hall : l.all (oneX paths)
 ·obtain ⟨q, z, hq, hz, hbe⟩ := allX_at hall
  have hql : q < l.length := (List.getElem?_eq_some_iff.1 hq).1
  rw [Bool.false_and]
  refine Tri_in Tryz.func116 rfl (fun w0 S0 => ?_)
  repeat' (first | refine SW ?_ | refine SB ?_ | fail)
  refine HC_loop (α := Nat) (fun j => j ≤ q) (fun j => [(5, .int .i64 j), (1, .bool paths), (0, .slice A l.length c)]) (fun _ => []) (fun j => q - j) rfl 0 (Nat.zero_le _) ⟨rfl, rfl, rfl, trivial⟩ rfl ?_
  intro j hj
  rcases Nat.lt_or_ge j q with hlt | hge
  ·obtain ⟨x, hx⟩ : ∃ x, l[j]? = some x := ⟨l[j], List.getElem?_eq_getElem (by omega)⟩
   have hone := rone_t x.i x.a (hl x (List.mem_of_getElem? hx)) x.n paths
   have : oneN paths x.i x.a x.n = true := hbe j x hlt hx
   rw [this] at hone
   dsimp only [nlV] at hone
   repeat' (first | refine SX ?_ | (refine KC ?_; refine HO_callq rfl rfl rfl rfl (hone) (fun _ _ => rfl) (trivial) rfl rfl sqA ?_) | refine SB ?_ | fail)
   exact HX_at (j + 1) ⟨hlt, by omega⟩ ⟨rfl, rfl, rfl, trivial⟩ rfl
  ·obtain rfl : j = q := by omega
   have hone := rone_t z.i z.a (hl z (List.mem_of_getElem? hq)) z.n paths
   have : oneN paths z.i z.a z.n = false := hz
   rw [this] at hone
   dsimp only [nlV] at hone
   repeat' (first | refine SX ?_ | (refine KC ?_; refine HO_callq rfl rfl rfl rfl (hone) (fun _ _ => rfl) (trivial) rfl rfl sqA ?_) | refine SB ?_ | fail)
   (refine SRt ?_; refine RU ?_)
   rfl
 ·rw [Bool.true_and]
  refine Tri_in Tryz.func116 rfl (fun w0 S0 => ?_)
  repeat' (first | refine SW ?_ | refine SB ?_ | fail)
  refine HC_loop (α := Nat) (fun j => j ≤ l.length) (fun j => [(5, .int .i64 j), (1, .bool paths), (0, .slice A l.length c)]) (fun _ => []) (fun j => l.length - j) rfl 0 (Nat.zero_le _) ⟨rfl, rfl, rfl, trivial⟩ rfl ?_
  intro j hj
  rcases Nat.lt_or_ge j l.length with hlt | hge
  ·obtain ⟨x, hx⟩ : ∃ x, l[j]? = some x := ⟨l[j], List.getElem?_eq_getElem hlt⟩
   have hone := rone_t x.i x.a (hl x (List.mem_of_getElem? hx)) x.n paths
   have : oneN paths x.i x.a x.n = true := List.all_eq_true.1 hall x (List.mem_of_getElem? hx)
   rw [this] at hone
   dsimp only [nlV] at hone
   repeat' (first | refine SX ?_ | (refine KC ?_; refine HO_callq rfl rfl rfl rfl (hone) (fun _ _ => rfl) (trivial) rfl rfl sqA ?_) | refine SB ?_ | fail)
   exact HX_at (j + 1) ⟨hlt, by omega⟩ ⟨rfl, rfl, rfl, trivial⟩ rfl
  ·obtain rfl : j = l.length := by omega
   repeat' (first | refine SX ?_ | refine SB ?_ | fail)
   (refine SRt ?_; refine RU ?_)
   refine congrArg Value.bool (decide_eq_decide.2 (by omega))
theorem rnls_t (A : Option Addr) (c : Nat) (l : List Nl) (hl : NlsOk l) (h1 : l.length ≤ 1000000) (paths : Bool) : Tri Tryz.prog 116 [.slice A l.length c, .bool paths] [arr Nl.e 3 A l] [] (fun _ : Unit => True) (fun _ => .bool (allX paths l)) (fun _ => []) := rnlsL_t A c l hl (by omega) paths
theorem one_id {paths : Bool} {i : Int} {a : Nat} {n : Int} (h : oneN paths i a n = true) : 0 ≤ i ∧ i ≤ 4294967295 ∧ okX a n = true := by
 unfold oneN at h
 simp only [Bool.and_eq_true, decide_eq_true_eq] at h
 exact ⟨h.1.1.1, h.1.1.2, h.2⟩
theorem rnlb_t (i a k : Nat) (ha : a < 4294967296) (hi : i ≤ 4294967295) (hk : k ≤ 32) (paths : Bool) : Tri Tryz.prog 74 [nlV i a k, .bool paths] [] [] (fun _ : OA => True) (fun x => .slice x.1 (nlB paths ⟨i, a, k⟩).length x.2) (fun x => [ownB x (nlB paths ⟨i, a, k⟩)]) := by
 have hp := rput_t 4 i (by decide) (by omega)
 have hb := rpput_t a ha k hk
 dsimp only [pfV] at hb
 have hbl : (pfB a k).length ≤ 5 := by unfold pfB; simp [be_length]; omega
 have hb4 := be_length 4 i
 cases paths
 ·refine Tri_in Tryz.func74 rfl (fun w0 S0 => ?_)
  dsimp only [nlV]
  repeat' (first | (refine KC ?_; refine HO_call rfl rfl rfl rfl (hb) rfl (trivial) rfl rfl soA ?_; intro ⟨x1, c1⟩ h1; dsimp only [lca, lna]) | refine SB ?_ | (refine T2 ?_; intros) | fail)
  rename_i b2 A' c'
  have eL : 0 + (pfB a k).length = (nlB false ⟨i, a, k⟩).length := by rw [Nat.zero_add]; rfl
  have eM : [] ++ List.map bE (pfB a k) = List.map bE (nlB false ⟨i, a, k⟩) := rfl
  rw [eL, eM]
  (refine SRt ?_; unfold RetQ; refine ⟨(A', c'), trivial, rfl, Keeps.cons Ent.rfl_ Keeps.nil⟩)
 ·refine Tri_in Tryz.func74 rfl (fun w0 S0 => ?_)
  dsimp only [nlV]
  repeat' (first | (refine KC ?_; refine HO_call rfl rfl rfl rfl (hp) rfl (trivial) rfl rfl soA ?_; intro ⟨y1, d1⟩ h1; dsimp only [lca, lna]) | (refine KC ?_; refine HO_call rfl rfl rfl rfl (hb) rfl (trivial) rfl rfl soA ?_; intro ⟨x1, c1⟩ h1; dsimp only [lca, lna]) | refine SB ?_ | (refine T2 ?_; intros) | fail)
  rename_i b2 A' c'
  have eL : 4 + (pfB a k).length = (nlB true ⟨i, a, k⟩).length := by
   show _ = (be 4 i ++ pfB a k).length
   rw [List.length_append, hb4]
  have eM : List.map bE (be 4 i) ++ List.map bE (pfB a k) = List.map bE (nlB true ⟨i, a, k⟩) := List.map_append.symm
  rw [eL, eM]
  (refine SRt ?_; unfold RetQ; refine ⟨(A', c'), trivial, rfl, Keeps.cons Ent.rfl_ Keeps.nil⟩)
theorem nlb_t (i a k : Nat) (ha : a < 4294967296) (hi : i ≤ 4294967295) (hx : okX a k = true) (paths : Bool) : Tri Tryz.prog 146 [nlV i a k, .bool paths] [] [] (fun _ : OA => True) (fun x => .slice x.1 (nlB paths ⟨i, a, k⟩).length x.2) (fun x => [ownB x (nlB paths ⟨i, a, k⟩)]) := by
 have hp := nput_ok 4 i (by decide) (by decide) (by omega)
 have hb := pput_t a ha k hx
 dsimp only [pfV] at hb
 have hk : k ≤ 32 := by have := (okX_len hx).2; omega
 have hbl : (pfB a k).length ≤ 5 := by unfold pfB; simp [be_length]; omega
 have hb4 := be_length 4 i
 cases paths
 ·refine Tri_in Tryz.func146 rfl (fun w0 S0 => ?_)
  dsimp only [nlV]
  repeat' (first | (refine KC ?_; refine HO_call rfl rfl rfl rfl (hb) rfl (trivial) rfl rfl soA ?_; intro ⟨x1, c1⟩ h1; dsimp only [lca, lna]) | refine SB ?_ | (refine T2 ?_; intros) | fail)
  rename_i b2 A' c'
  have eL : 0 + (pfB a k).length = (nlB false ⟨i, a, k⟩).length := by rw [Nat.zero_add]; rfl
  have eM : [] ++ List.map bE (pfB a k) = List.map bE (nlB false ⟨i, a, k⟩) := rfl
  rw [eL, eM]
  (refine SRt ?_; unfold RetQ; refine ⟨(A', c'), trivial, rfl, Keeps.cons Ent.rfl_ Keeps.nil⟩)
 ·refine Tri_in Tryz.func146 rfl (fun w0 S0 => ?_)
  dsimp only [nlV]
  repeat' (first | (refine KC ?_; refine HO_call rfl rfl rfl rfl (hp) rfl (trivial) rfl rfl soA ?_; intro ⟨y1, d1⟩ h1; dsimp only [lca, lna]) | (refine KC ?_; refine HO_call rfl rfl rfl rfl (hb) rfl (trivial) rfl rfl soA ?_; intro ⟨x1, c1⟩ h1; dsimp only [lca, lna]) | refine SB ?_ | (refine T2 ?_; intros) | fail)
  rename_i b2 A' c'
  have eL : 4 + (pfB a k).length = (nlB true ⟨i, a, k⟩).length := by
   show _ = (be 4 i ++ pfB a k).length
   rw [List.length_append, hb4]
  have eM : List.map bE (be 4 i) ++ List.map bE (pfB a k) = List.map bE (nlB true ⟨i, a, k⟩) := List.map_append.symm
  rw [eL, eM]
  (refine SRt ?_; unfold RetQ; refine ⟨(A', c'), trivial, rfl, Keeps.cons Ent.rfl_ Keeps.nil⟩)
theorem indexN_t (A : Option Addr) (n c : Nat) (l : List Nl) (hn : n = l.length) (hl : l.length ≤ 1000000) (g : Nat) [FnOk Tryz.prog g] (cap : List Value) (roC : List SL) (p : Nl → Bool)
  (hp : ∀ x ∈ l, Tri Tryz.prog g (.agg x.e.toArray :: cap) roC [] (fun _ : Unit => True) (fun _ => .bool (p x)) (fun _ => [])) :
  Tri Tryz.prog 206 [.slice A n c, .func (.func g) #[] cap.toArray] (arr Nl.e 3 A l :: roC) [] (fun _ : Unit => True) (fun _ => .int .i64 (idxF p l)) (fun _ => []) := by
 refine Tri_in Tryz.func206 rfl (fun w0 S0 => ?_)
 repeat' (first | refine SX ?_ | refine SB ?_ | (intro hb; try replace hb := simB hb; try exact kill hb))
 refine HC_loop (α := Nat) (fun j => j ≤ l.length ∧ ∀ q, q < j → ∀ b, l[q]? = some b → p b = false) (fun j => [(8, .int .i64 j), (7, .int .i64 n), (0, .slice A n c), (1, .func (.func g) #[] cap.toArray)]) (fun _ => []) (fun j => l.length - j) rfl 0 ⟨Nat.zero_le _, fun q hq => by omega⟩ ⟨rfl, rfl, rfl, rfl, trivial⟩ rfl ?_
 intro j ⟨hj, hno⟩
 rcases Nat.lt_or_ge j l.length with hlt | hge
 ·obtain ⟨a, ha⟩ : ∃ a, l[j]? = some a := ⟨l[j], List.getElem?_eq_getElem hlt⟩
  have hpa := hp a (List.mem_of_getElem? ha)
  repeat' (first | refine SX ?_ | (refine KC ?_; refine HO_callq rfl rfl rfl rfl (hpa) (fun _ _ => rfl) (AllSrc.self) rfl rfl sqA ?_) | refine SB ?_ | (intro hb; try replace hb := simB hb; try exact kill hb) | refine HC_cond rfl rfl ?_ ?_ | fail)
  ·(refine SRt ?_; refine RU ?_)
   exact congrArg (Value.int .i64) (idxF_at ha hb hno).symm
  ·exact HX_at (j + 1) ⟨⟨hlt, fun q hq b hbq => by
    rcases Nat.lt_or_ge q j with h | h
    ·exact hno q h b hbq
    ·obtain rfl : q = j := by omega
     rw [ha] at hbq
     injection hbq with hbq
     exact hbq ▸ hb⟩, by omega⟩ ⟨rfl, rfl, rfl, rfl, trivial⟩ rfl
 ·obtain rfl : j = l.length := by omega
  repeat' (first | refine SX ?_ | refine SB ?_ | (intro hb; try replace hb := simB hb; try exact kill hb))
  (refine SRt ?_; refine RU ?_)
  exact congrArg (Value.int .i64) (idxF_no hno).symm
theorem containsN_t (A : Option Addr) (n c : Nat) (l : List Nl) (hn : n = l.length) (hl : l.length ≤ 1000000) (g : Nat) [FnOk Tryz.prog g] (cap : List Value) (roC : List SL) (p : Nl → Bool)
  (hp : ∀ x ∈ l, Tri Tryz.prog g (.agg x.e.toArray :: cap) roC [] (fun _ : Unit => True) (fun _ => .bool (p x)) (fun _ => [])) :
  Tri Tryz.prog 183 [.slice A n c, .func (.func g) #[] cap.toArray] (arr Nl.e 3 A l :: roC) [] (fun _ : Unit => True) (fun _ => .bool (l.any p)) (fun _ => []) := by
 have h1 := indexN_t A n c l hn hl g cap roC p hp
 refine Tri_in Tryz.func183 rfl (fun w0 S0 => ?_)
 repeat' (first | (refine KC ?_; refine HO_callq rfl rfl rfl rfl (h1) (fun _ _ => rfl) (AllSrc.of fun f hf => ⟨f, List.mem_append.2 (.inl hf), Ent.rfl_⟩) rfl rfl sqA ?_) | refine SB ?_ | fail)
 (refine SRt ?_; refine RU ?_)
 exact congrArg Value.bool (idxF_ge p l)
theorem ncheck1_t (x : Nl) (hx : x.a < 4294967296) (paths : Bool) (b : Nat) :
  Tri Tryz.prog 184 [.agg x.e.toArray, pt b] [cel b 4 [.bool paths]] [] (fun _ : Unit => True) (fun _ => .bool (!oneX paths x)) (fun _ => []) := by
 have ho := odd_t x.i x.a hx x.n paths
 dsimp only [nlV] at ho
 refine Tri_in Tryz.func184 rfl (fun w0 S0 => ?_)
 dsimp only [pt, Nl.e]
 repeat' (first | (refine KC ?_; refine HO_callq rfl rfl rfl rfl (ho) (fun _ _ => rfl) (trivial) rfl rfl sqA ?_) | refine SB ?_ | (refine S2 ?_; intro _) | fail)
 (refine SRt ?_; refine RU ?_)
 rfl
theorem any_all {α : Type} (p : α → Bool) (l : List α) : (l.any fun x => !p x) = !l.all p := by
 induction l with
 | nil => rfl
 | cons x l ih => rw [List.any_cons, List.all_cons, ih, Bool.not_and]
theorem ncheck_t (A : Option Addr) (c : Nat) (l : List Nl) (hl : NlsOk l) (h1 : l.length ≤ 1000000) (paths : Bool) :
  Tri Tryz.prog 145 [.slice A l.length c, .bool paths] [arr Nl.e 3 A l] [] (fun _ : Unit => True) (fun _ => .int .i64 (if allX paths l = true then 0 else 60)) (fun _ => []) := by
 by_cases h2 : 1024 < l.length
 ·have e : allX paths l = false := by unfold allX; rw [decide_eq_false (by omega), Bool.and_false]
  rw [e]
  refine Tri_in Tryz.func145 rfl (fun w0 S0 => ?_)
  repeat' (first | refine SD ?_ | refine SB ?_ | (refine S2 ?_; intro _) | fail)
  (refine SRt ?_; refine RU ?_)
  rfl
 ·have e : allX paths l = l.all (oneX paths) := by unfold allX; rw [decide_eq_true (by omega), Bool.and_true]
  rw [e]
  have hc := fun b => containsN_t A l.length c l rfl h1 184 [pt b] [cel b 4 [.bool paths]] (fun x => !oneX paths x) (fun x hx => ncheck1_t x (hl x hx) paths b)
  rw [any_all] at hc
  cases hall : l.all (oneX paths)
  all_goals
   rw [hall] at hc
   refine Tri_in Tryz.func145 rfl (fun w0 S0 => ?_)
   repeat' (first | refine SD ?_ | (refine KC ?_; refine HO_callq rfl rfl rfl rfl (hc _) (fun _ _ => rfl) (srcsA) rfl rfl sqA ?_) | refine SB ?_ | (refine S2 ?_; intro _) | fail)
   (refine SRt ?_; refine RU ?_)
   rfl
def nlsB (paths : Bool) (l : List Nl) : List UInt8 := l.flatMap (nlB paths)
theorem nlB_le (paths : Bool) (x : Nl) : (nlB paths x).length ≤ 9 := by
 unfold nlB idB pfB
 cases paths <;> simp [be_length] <;> omega
theorem nlsB_le (paths : Bool) (l : List Nl) : (nlsB paths l).length ≤ 9 * l.length := by
 induction l with
 | nil => simp [nlsB]
 | cons x l ih =>
  have h := nlB_le paths x
  have e : nlsB paths (x :: l) = nlB paths x ++ nlsB paths l := rfl
  rw [e, List.length_append, List.length_cons]
  omega
theorem nlsB_snoc (paths : Bool) (l : List Nl) (x : Nl) : nlsB paths (l ++ [x]) = nlsB paths l ++ nlB paths x := by simp [nlsB]
theorem one_nat {paths : Bool} {x : Nl} (h : oneX paths x = true) : ∃ i k : Nat, x = ⟨i, x.a, k⟩ ∧ i ≤ 4294967295 ∧ k ≤ 32 ∧ okX x.a k = true := by
 obtain ⟨h1, h2, h3⟩ := one_id h
 have h4 := okX_len h3
 have e1 : ((x.i.toNat : Nat) : Int) = x.i := by omega
 have e2 : ((x.n.toNat : Nat) : Int) = x.n := by omega
 exact ⟨x.i.toNat, x.n.toNat, by rw [e1, e2], by omega, by omega, by rw [e2]; exact h3⟩
theorem rnlsput_t (A : Option Addr) (c : Nat) (l : List Nl) (hl : NlsOk l) (paths : Bool) (hall : ∀ x ∈ l, oneX paths x = true) (h1 : l.length ≤ 1024) :
  Tri Tryz.prog 47 [.slice A l.length c, .bool paths] [arr Nl.e 3 A l] [] (fun _ : OA => True) (fun x => .slice x.1 (nlsB paths l).length x.2) (fun x => [ownB x (nlsB paths l)]) := by
 refine Tri_in Tryz.func47 rfl (fun w0 S0 => ?_)
 repeat' (first | refine SW ?_ | refine SB ?_ | (refine S3 ?_; intro _ _) | fail)
 refine HC_add (e := ownB (none, 0) []) (fun w => own_nil w) ?_
 refine HC_loop (α := Nat × OA) (fun x => x.1 ≤ l.length) (fun x => [(6, .int .i64 x.1), (5, .slice x.2.1 (nlsB paths (l.take x.1)).length x.2.2), (1, .bool paths), (0, .slice A l.length c)]) (fun x => [ownB x.2 (nlsB paths (l.take x.1))]) (fun x => l.length - x.1) rfl (0, (none, 0)) (Nat.zero_le _) ⟨rfl, rfl, rfl, rfl, trivial⟩ rfl ?_
 intro ⟨j, ⟨xA, xc⟩⟩ hj
 dsimp only at hj ⊢
 rcases Nat.lt_or_ge j l.length with hlt | hge
 ·obtain ⟨x, hx⟩ : ∃ x, l[j]? = some x := ⟨l[j], List.getElem?_eq_getElem hlt⟩
  have hmem := List.mem_of_getElem? hx
  have ha := hl x hmem
  obtain ⟨i, k, e, hi, hk, hok⟩ := one_nat (hall x hmem)
  have hb := rnlb_t i x.a k ha hi hk paths
  rw [← e] at hb
  have e1 : l.take (j + 1) = l.take j ++ [x] := by rw [List.take_add_one, hx]; rfl
  have hle1 := nlB_le paths x
  have hle2 := nlsB_le paths (l.take j)
  rw [List.length_take] at hle2
  have hle3 : (nlsB paths (l.take j)).length ≤ 9216 := by omega
  obtain ⟨cur, hcur⟩ : ∃ cur, nlsB paths (l.take j) = cur := ⟨_, rfl⟩
  obtain ⟨nb, hnb⟩ : ∃ nb, nlB paths x = nb := ⟨_, rfl⟩
  have e2 : nlsB paths (l.take (j + 1)) = cur ++ nb := by rw [e1, nlsB_snoc, hcur, hnb]
  rw [hcur] at hle3 ⊢
  rw [hnb] at hle1 hb
  have ei : x.i = (i : Int) := congrArg Nl.i e
  have en : x.n = (k : Int) := congrArg Nl.n e
  rw [← ei, ← en] at hb
  dsimp only [nlV] at hb
  repeat' (first | refine SX ?_ | (refine KC ?_; refine HO_call rfl rfl rfl rfl (hb) rfl (trivial) rfl rfl soA ?_; intro ⟨y1, d1⟩ g1; dsimp only [lca, lna]) | refine SB ?_ | (refine S3 ?_; intro _ _) | fail)
  rename_i A' c'
  rw [show cur.length + nb.length = (nlsB paths (l.take (j + 1))).length by rw [e2, List.length_append], show List.map bE cur ++ List.map bE nb = List.map bE (nlsB paths (l.take (j + 1))) by rw [e2, List.map_append]]
  refine HX_keeps (rw' := [ownB (A', c') (nlsB paths (l.take (j + 1)))]) permA ?_
  exact HX_at (j + 1, (A', c')) ⟨hlt, by simp only; omega⟩ ⟨rfl, rfl, rfl, rfl, trivial⟩ rfl
 ·obtain rfl : j = l.length := by omega
  rw [List.take_length]
  repeat' (first | refine SX ?_ | refine SB ?_ | (refine S3 ?_; intro _ _) | fail)
  (refine SRt ?_; unfold RetQ; refine ⟨(xA, xc), trivial, rfl, Keeps.refl⟩)
theorem nlsput_t (A : Option Addr) (c : Nat) (l : List Nl) (hl : NlsOk l) (paths : Bool) (hall : ∀ x ∈ l, oneX paths x = true) (h1 : l.length ≤ 1024) :
  Tri Tryz.prog 101 [.slice A l.length c, .bool paths] [arr Nl.e 3 A l] [] (fun _ : OA => True) (fun x => .tuple #[.slice x.1 (nlsB paths l).length x.2, .int .i64 0]) (fun x => [ownB x (nlsB paths l)]) := by
 have hck := ncheck_t A c l hl (by omega) paths
 rw [show allX paths l = true by unfold allX; rw [List.all_eq_true.2 hall, decide_eq_true h1]; rfl] at hck
 refine Tri_in Tryz.func101 rfl (fun w0 S0 => ?_)
 repeat' (first | refine SX ?_ | (refine KC ?_; refine HO_callq rfl rfl rfl rfl (hck) (fun _ _ => rfl) (srcsA) rfl rfl sqA ?_) | refine SB ?_ | (refine T2 ?_; intros) | fail)
 refine HC_add (e := ownB (none, 0) []) (fun w => own_nil w) ?_
 refine HC_loop (α := Nat × OA) (fun x => x.1 ≤ l.length) (fun x => [(18, .int .i64 x.1), (17, .int .i64 l.length), (16, .slice A l.length c), (7, .slice x.2.1 (nlsB paths (l.take x.1)).length x.2.2), (1, .bool paths)]) (fun x => [ownB x.2 (nlsB paths (l.take x.1))]) (fun x => l.length - x.1) rfl (0, (none, 0)) (Nat.zero_le _) ⟨rfl, rfl, rfl, rfl, rfl, trivial⟩ rfl ?_
 intro ⟨j, ⟨xA, xc⟩⟩ hj
 dsimp only at hj ⊢
 rcases Nat.lt_or_ge j l.length with hlt | hge
 ·obtain ⟨x, hx⟩ : ∃ x, l[j]? = some x := ⟨l[j], List.getElem?_eq_getElem hlt⟩
  have hmem := List.mem_of_getElem? hx
  have ha := hl x hmem
  obtain ⟨i, k, e, hi, hk, hok⟩ := one_nat (hall x hmem)
  have hb := nlb_t i x.a k ha hi hok paths
  rw [← e] at hb
  have e1 : l.take (j + 1) = l.take j ++ [x] := by rw [List.take_add_one, hx]; rfl
  have hle1 := nlB_le paths x
  have hle2 := nlsB_le paths (l.take j)
  rw [List.length_take] at hle2
  have hle3 : (nlsB paths (l.take j)).length ≤ 9216 := by omega
  obtain ⟨cur, hcur⟩ : ∃ cur, nlsB paths (l.take j) = cur := ⟨_, rfl⟩
  obtain ⟨nb, hnb⟩ : ∃ nb, nlB paths x = nb := ⟨_, rfl⟩
  have e2 : nlsB paths (l.take (j + 1)) = cur ++ nb := by rw [e1, nlsB_snoc, hcur, hnb]
  rw [hcur] at hle3 ⊢
  rw [hnb] at hle1 hb
  have ei : x.i = (i : Int) := congrArg Nl.i e
  have en : x.n = (k : Int) := congrArg Nl.n e
  rw [← ei, ← en] at hb
  dsimp only [nlV] at hb
  repeat' (first | refine SX ?_ | (refine KC ?_; refine HO_call rfl rfl rfl rfl (hb) rfl (trivial) rfl rfl soA ?_; intro ⟨y1, d1⟩ g1; dsimp only [lca, lna]) | refine SB ?_ | (refine T2 ?_; intros) | fail)
  rename_i b9 A' c'
  rw [show cur.length + nb.length = (nlsB paths (l.take (j + 1))).length by rw [e2, List.length_append], show List.map bE cur ++ List.map bE nb = List.map bE (nlsB paths (l.take (j + 1))) by rw [e2, List.map_append]]
  refine HX_keeps (rw' := [ownB (A', c') (nlsB paths (l.take (j + 1)))]) permA ?_
  exact HX_at (j + 1, (A', c')) ⟨hlt, by simp only; omega⟩ ⟨rfl, rfl, rfl, rfl, rfl, trivial⟩ rfl
 ·obtain rfl : j = l.length := by omega
  rw [List.take_length]
  repeat' (first | refine SX ?_ | refine SB ?_ | (refine T2 ?_; intros) | fail)
  (refine SRt ?_; unfold RetQ; refine ⟨(xA, xc), trivial, rfl, Keeps.refl⟩)
theorem nlsput_bad (A : Option Addr) (c : Nat) (l : List Nl) (hl : NlsOk l) (paths : Bool) (hx : allX paths l = false) (h1 : l.length ≤ 1000000) :
  Tri Tryz.prog 101 [.slice A l.length c, .bool paths] [arr Nl.e 3 A l] [] (fun _ : Unit => True) (fun _ => .tuple #[.slice none 0 0, .int .i64 60]) (fun _ => []) := by
 have hck := ncheck_t A c l hl h1 paths
 rw [hx] at hck
 refine Tri_in Tryz.func101 rfl (fun w0 S0 => ?_)
 repeat' (first | refine SD ?_ | (refine KC ?_; refine HO_callq rfl rfl rfl rfl (hck) (fun _ _ => rfl) (srcsA) rfl rfl sqA ?_) | refine SB ?_ | fail)
 (refine SRt ?_; refine RU ?_)
 rfl
def nestB (P : Program) (T U : Nat) : Bool := !(P.stoodInHeld T) && !(P.eqGuardType P.depth T) && match P.underlying T with
 | some (.struct fs) => match fs.toList with
  | [f0, f1] => (f0.name != "_") && Nat.beq f0.offset 0 && tyOneB P f0.type && (kindB P f0.type == some 0) && (f1.name != "_") && Nat.beq f1.offset 1 && Nat.beq f1.type U
  | _ => false
 | _ => false
theorem nest67 : nestB Tryz.prog 157 155 = true := by decide +kernel
theorem flat65 : flatTyB Tryz.prog 155 = some [0, 0] := by decide +kernel
theorem agg65 : tyAggB Tryz.prog 155 2 = true := by decide +kernel
theorem pfx_part {P : Program} (w : World) {U : Nat} (hA : tyAggB P U 2 = true) (x y z : Value) : (part U #[x, y, z] 1).run P w = .ok (.agg #[y, z]) w := by
 simp [part, Sem.run_bind, isAgg_agg w hA, size_agg w hA]
theorem flat_eq {P : Program} {U : Nat} {d : Nat} (w : World) (hU : flatTyB P U = some [0, 0]) (k1 k2 : IntKind) (a n : Int) : (Op.equalIn (d + 2) U (.agg #[.int k1 a, .int k2 n]) (.agg #[.int k1 a, .int k2 n])).run P w = .ok true w := by
 unfold flatTyB at hU
 cases hb : (!(P.stoodInHeld U) && !(P.eqGuardType P.depth U)) with
 | false => simp [hb] at hU
 | true =>
  simp only [hb] at hU
  simp only [Bool.and_eq_true, Bool.not_eq_true'] at hb
  cases hu : P.underlying U with
  | none => simp [hu] at hU
  | some D =>
   cases D <;> simp [hu] at hU
   rename_i fs
   have hfo : P.fieldsOf U = fs := by simp [Program.fieldsOf, hu]
   rw [run_equalIn_struct w (d + 1) U _ _ (by rw [hfo]; exact hu) hb.1, hfo]
   refine eqFields_run (d := d) w fs.toList 0 [0, 0] [.int k1 a, .int k2 n] [.int k1 a, .int k2 n] _ _ true hU ?_ (fun q => by simp) (fun q => by simp)
   simp [eqC, eq1]
   cases k1 <;> cases k2 <;> rfl
theorem nest_eq {P : Program} {T U : Nat} (w : World) (hT : nestB P T U = true) (hU : flatTyB P U = some [0, 0]) (hA : tyAggB P U 2 = true) (k0 k1 k2 : IntKind) (i a n : Int) :
  (Op.equalIn 10000 T (.agg #[.int k0 i, .int k1 a, .int k2 n]) (.agg #[.int k0 i, .int k1 a, .int k2 n])).run P w = .ok true w := by
 unfold nestB at hT
 simp only [Bool.and_eq_true, Bool.not_eq_true'] at hT
 obtain ⟨⟨hb1, hb2⟩, hT⟩ := hT
 cases hu : P.underlying T with
 | none => simp [hu] at hT
 | some D =>
  cases D <;> simp only [hu] at hT <;> try (cases hT; done)
  rename_i fs
  have hfo : P.fieldsOf T = fs := by simp [Program.fieldsOf, hu]
  rw [show (10000 : Nat) = 9999 + 1 from rfl, run_equalIn_struct w 9999 T _ _ (by rw [hfo]; exact hu) hb1, hfo]
  cases hl : fs.toList with
  | nil => simp [hl] at hT
  | cons f0 r =>
   cases r with
   | nil => simp [hl] at hT
   | cons f1 r2 =>
    cases r2 with
    | cons f2 r3 => simp [hl] at hT
    | nil =>
     simp only [hl, Bool.and_eq_true, bne_iff_ne, beq_iff_eq] at hT
     obtain ⟨⟨⟨⟨⟨⟨h1, h2⟩, h3⟩, h4⟩, h5⟩, h6⟩, h7⟩ := hT
     have h2 := Nat.eq_of_beq_eq_true h2
     have h6 := Nat.eq_of_beq_eq_true h6
     have h7 : f1.type = U := Nat.eq_of_beq_eq_true h7
     have e0 : (Op.equalIn 9999 f0.type (.int k0 i) (.int k0 i)).run P w = .ok true w := eq1_run (d := 9998) w h4 (by simp [eq1]; cases k0 <;> rfl)
     have e1 : (Op.equalIn 9999 U (.agg #[.int k1 a, .int k2 n]) (.agg #[.int k1 a, .int k2 n])).run P w = .ok true w := flat_eq (d := 9997) w hU k1 k2 a n
     have p0 : (part f0.type #[.int k0 i, .int k1 a, .int k2 n] f0.offset).run P w = .ok (.int k0 i) w := part_run w h3 (by rw [h2]; rfl)
     have p1 : (part f1.type #[.int k0 i, .int k1 a, .int k2 n] f1.offset).run P w = .ok (.agg #[.int k1 a, .int k2 n]) w := by rw [h6, h7]; exact pfx_part w hA _ _ _
     rw [← h7] at e1
     simp [Op.eqFields, h1, h5, Sem.run_bind, p0, p1, e0, e1]
theorem HO_nneT {m : Md} {P : Program} {N : Nat} {w0 : World} {S0 : Foot} {ops : List Oper} {i : Nat} {lq : List Nat} {env : Env} {ro rw : List SL} {K : Act → World → Prop} {d : Nat} {ty : TypeId} {pos : String} {aft : Array Edge} {g : Option (Nat × Bool)}
  {T U V : Nat} {x y : Operand} {k0 k1 k2 : IntKind} {p q r : Int} (hT : nestB P T V = true) (hU : flatTyB P V = some [0, 0]) (hA : tyAggB P V 2 = true) (ho : ops[i]? = some ⟨some d, .binOp .neq T x y U, ty, pos, aft, g⟩)
  (hx : Env.ev env x = some (.agg #[.int k0 p, .int k1 q, .int k2 r])) (hy : Env.ev env y = some (.agg #[.int k0 p, .int k1 q, .int k2 r])) (hw : wantE ops env g = some true) (hN : Nat.blt d N = true) (hr : rdyB m ops i lq = true)
  (h : HO m P N w0 S0 ops lq ((d, .bool false) :: env) ro rw K) : HO m P N w0 S0 ops (i :: lq) env ro rw K := by
 refine HO_val ho hw rfl hN hr (fun a w ha hf => ?_) h
 have hb : P.eqGuardType P.depth T = false := by
  unfold nestB at hT
  simp only [Bool.and_eq_true, Bool.not_eq_true'] at hT
  exact hT.1.2
 simp only [execOp, Sem.run_bind, ha.ev hx, ha.ev hy]
 rw [run_eqGuard_agg w .neq T x y _ _ hb, Result.andThen_ok, run_neq_struct, nest_eq w hT hU hA]
 simp
theorem rnlsame_t (A A' : Option Addr) (c c' : Nat) (l : List Nl) (h1 : l.length ≤ 1000000) :
  Tri Tryz.prog 67 [.slice A l.length c, .slice A' l.length c'] [arr Nl.e 3 A l, arr Nl.e 3 A' l] [] (fun _ : Unit => True) (fun _ => .bool true) (fun _ => []) := by
 refine Tri_in Tryz.func67 rfl (fun w0 S0 => ?_)
 repeat' (first | refine SX ?_ | refine SB ?_ | fail)
 refine HC_loop (α := Nat) (fun j => j ≤ l.length) (fun j => [(5, .int .i64 j), (0, .slice A l.length c), (1, .slice A' l.length c')]) (fun _ => []) (fun j => l.length - j) rfl 0 (Nat.zero_le _) ⟨rfl, rfl, rfl, trivial⟩ rfl ?_
 intro j hj
 rcases Nat.lt_or_ge j l.length with hlt | hge
 ·obtain ⟨x, hx⟩ : ∃ x, l[j]? = some x := ⟨l[j], List.getElem?_eq_getElem hlt⟩
  repeat' (first | refine SX ?_ | (refine HO_k 0 rfl ?_; refine HO_nneT nest67 flat65 agg65 rfl rfl rfl rfl rfl rdA ?_) | refine SB ?_ | fail)
  exact HX_at (j + 1) ⟨hlt, by omega⟩ ⟨rfl, rfl, rfl, trivial⟩ rfl
 ·obtain rfl : j = l.length := by omega
  repeat' (first | refine SX ?_ | refine SB ?_ | fail)
  (refine SRt ?_; refine RU ?_)
  rfl
def adG (l : List UInt8) : Nat := ge (l ++ List.replicate (4 - l.length) 0)
def pfG : List UInt8 → Option (Nat × Nat)
 | [] => none
 | c :: r => if c.toNat ≤ 32 ∧ (c.toNat + 7) / 8 ≤ r.length then some (topN (adG (r.take ((c.toNat + 7) / 8))) c.toNat, c.toNat) else none
def wP (paths : Bool) : Nat := if paths = true then 4 else 0
def fstG (paths : Bool) (b : List UInt8) : Option (Nl × List UInt8) :=
 if b.length < wP paths then none else match pfG (b.drop (wP paths)) with
 | none => none
 | some (a, k) => some (⟨(ge (b.take (wP paths)) : Nat), a, k⟩, (b.drop (wP paths)).drop (1 + (k + 7) / 8))
def getN (paths : Bool) : Nat → List Nl → List UInt8 → Option (List Nl)
 | 0, _, _ => none
 | fuel + 1, acc, l => match l with
  | [] => some acc
  | c :: l' => match fstG paths (c :: l') with
   | none => none
   | some (x, r) => if acc.length < 1024 then getN paths fuel (acc ++ [x]) r else none
def getR (paths : Bool) (acc : List Nl) (l : List UInt8) : Option (List Nl) := getN paths (l.length + 1) acc l
theorem fstG_len {paths : Bool} {l : List UInt8} {x : Nl} {r : List UInt8} (hl : l ≠ []) (h : fstG paths l = some (x, r)) : r.length < l.length := by
 unfold fstG at h
 split at h
 ·cases h
 ·split at h
  ·cases h
  ·injection h with h
   injection h with h1 h2
   subst h2
   have : 0 < l.length := List.length_pos_iff.2 hl
   simp only [List.length_drop]
   omega
theorem getN_fuel (paths : Bool) : ∀ (n m : Nat) (acc : List Nl) (l : List UInt8), l.length < n → l.length < m → getN paths n acc l = getN paths m acc l := by
 intro n
 induction n with
 | zero => intro m acc l h; omega
 | succ n ih =>
  intro m acc l h1 h2
  cases m with
  | zero => omega
  | succ m =>
   cases l with
   | nil => rfl
   | cons b l =>
    simp only [getN]
    split
    ·rfl
    ·rename_i hh
     have hl := fstG_len (by simp) hh
     split
     ·exact ih m _ _ (by omega) (by omega)
     ·rfl
theorem getR_nil (paths : Bool) (acc : List Nl) : getR paths acc [] = some acc := rfl
theorem getR_cons (paths : Bool) (acc : List Nl) (l : List UInt8) (hl : l ≠ []) : getR paths acc l = match fstG paths l with
  | none => none
  | some (x, r) => if acc.length < 1024 then getR paths (acc ++ [x]) r else none := by
 cases l with
 | nil => exact absurd rfl hl
 | cons b l =>
  unfold getR
  conv => lhs; simp only [getN]
  split
  ·rfl
  ·rename_i hh
   have hl := fstG_len (by simp) hh
   split
   ·exact getN_fuel paths _ _ _ _ (by omega) (by omega)
   ·rfl
theorem getN_le (paths : Bool) : ∀ (n : Nat) (acc : List Nl) (l : List UInt8) (m : List Nl), getN paths n acc l = some m → acc.length ≤ 1024 → m.length ≤ 1024 := by
 intro n
 induction n with
 | zero => intro acc l m h; cases h
 | succ n ih =>
  intro acc l m h ha
  cases l with
  | nil => cases h; exact ha
  | cons b l =>
   simp only [getN] at h
   split at h
   ·cases h
   ·split at h
    ·exact ih _ _ _ h (by rw [List.length_append]; simp; omega)
    ·cases h
theorem getR_le {paths : Bool} {l : List UInt8} {m : List Nl} (h : getR paths [] l = some m) : m.length ≤ 1024 := getN_le paths _ _ _ _ h (by decide)
def cutU (b : List UInt8) : Option (List UInt8 × List UInt8 × List UInt8) :=
 if b.length < 2 then none else
 let n := ge (b.take 2)
 let c := b.drop 2
 if c.length < n then none else
 let d := c.drop n
 if d.length < 2 then none else
 let k := ge (d.take 2)
 let f := d.drop 2
 if f.length < k then none else some (c.take n, f.take k, f.drop k)
def pcB (l : List UInt8) : List UInt8 := be 2 l.length ++ l
def bodyB (gone said come : List UInt8) : List UInt8 := pcB gone ++ (pcB said ++ come)
theorem pcB_len (l : List UInt8) : (pcB l).length = l.length + 2 := by unfold pcB; rw [List.length_append, be_length]; omega
section
variable {m : Md} {P : Program} {N : Nat} {w0 : World} {S0 : Foot} {ops : List Oper} {i : Nat} {lq : List Nat} {env : Env} {ro rw : List SL} {K : Act → World → Prop} {d : Nat} {op : Op} {ty : TypeId} {pos : String} {aft : Array Edge} {g : Option (Nat × Bool)}
theorem HO_sla {T e sz by_ nn b : Nat} {x : Operand} (hT : P.underlying T = some (.array nn e)) [hI : TyInfo P e sz by_]
  (ho : ops[i]? = some ⟨some d, .slice T x none none none, ty, pos, aft, g⟩) (hx : Env.ev env x = some (.pointer (some ⟨b, 0, none⟩))) (hw : wantE ops env g = some true) (hN : Nat.blt d N = true) (hr : rdyB m ops i lq = true)
  (h : HO m P N w0 S0 ops lq ((d, .slice (some ⟨b, 0, none⟩) nn nn) :: env) ro rw K) : HO m P N w0 S0 ops (i :: lq) env ro rw K := by
 refine HO_val ho hw rfl hN hr (fun a w ha hf => ?_) h
 have hI := hI.h
 cases hin : P.info? e with
 | none => simp [hin] at hI
 | some inf =>
  have hsz := run_sizeOf w hin
  have hx' := ha.ev hx
  simp [execOp, Sem.run_bind, Instr.sliceAt, run_underlying hT, hx', Instr.sureAddr, Instr.sliceBounds, hsz, addr_add]
theorem HO_copy {T U e by_ n c n2 c2 b V : Nat} (k k2 : Nat) {A2 : Option Addr} {l2 : List (List Value)} {cs : List Value} {x y : Operand} {rw' : List SL} [hT : TySlice P T e] [hI : TyInfo P e 1 by_]
  (ho : ops[i]? = some ⟨some d, .call { callee := .builtin .copy, args := #[x, y], argTypes := #[T, U] }, ty, pos, aft, g⟩) (hx : Env.ev env x = some (.slice (some ⟨b, 0, none⟩) n c)) (hy : Env.ev env y = some (.slice A2 n2 c2))
  (hk : rw[k]? = some (cel b V cs)) (hn : n = cs.length) (hk2 : ∃ e, (ro ++ rw)[k2]? = some e ∧ (WfL 1 l2 → Ent e (arr idE 1 A2 l2))) (hn2 : n2 = l2.length) (hwf : WfL 1 l2) (hle : n2 ≤ n)
  (hrw : setO rw k (cel b V (l2.flatten ++ cs.drop n2)) = some rw') (hw : wantE ops env g = some true) (hN : Nat.blt d N = true) (hs : soleB m ops i lq = true)
  (h : HO (nmM m) P N w0 S0 ops lq ((d, .int .i64 (n2 : Int)) :: env) ro rw' K) : HO m P N w0 S0 ops (i :: lq) env ro rw K := by
 have hrw := setO_eq hrw
 subst hrw
 refine HO_do (α := Unit) (φ := fun _ => True) (val := fun _ => goInt n2) (rw' := fun _ => rw.set k (cel b V (l2.flatten ++ cs.drop n2))) ho hw hs (by simp only [dOk]; exact hN) (fun w1 S1 a S w nx ha hf hnx => ?_) (fun x hx => h)
 obtain ⟨e0, he0, hent⟩ := hk2
 obtain ⟨F, _, hp0⟩ := hf.see (List.mem_of_getElem? he0)
 have hsrc := hent hwf _ _ hp0
 obtain ⟨A, hA, hp, hss⟩ := set_get hk (cel b V (l2.flatten ++ cs.drop n2)) hf.star
 have hI := hI.h
 have hfl : l2.flatten.length = n2 := by
  rw [← flatMap_idE, flatMap_len (enc := idE) (sz := 1) l2 (fun x hx => (hwf x hx).1), Nat.mul_one, hn2]
 have hmin : Nat.min n2 n = n2 := Nat.min_eq_left hle
 have hone : ∀ v ∈ l2.flatten, v.oneCell' = true := fun v hv => by
  obtain ⟨x, hx, hv⟩ := List.mem_flatten.1 hv
  exact List.all_eq_true.1 (hwf x hx).2 v hv
 have hlast : l2.flatten ++ cs.drop n2 = (([] : List Value) ++ l2.flatten ++ cs.drop (0 + l2.flatten.length)) := by rw [List.nil_append, Nat.zero_add, hfl]
 obtain ⟨w', hrun, h2, h3, h4, h5, h6, h7⟩ : ∃ w', (Builtin.copy_ #[T, U] ty #[.slice (some ⟨b, 0, none⟩) n c, .slice A2 n2 c2]).run P w = .ok (goInt n2) w' ∧ w'.heap[b]? = some (.cells (l2.flatten ++ cs.drop n2).toArray V (0, 0)) ∧ (∀ k, k ≠ b → w'.heap[k]? = w.heap[k]?) ∧ w'.heap.size = w.heap.size ∧ w'.os = w.os ∧ w'.tape = w.tape ∧ w'.output = w.output := by
  cases hin : P.info? e with
  | none => simp [hin] at hI
  | some inf =>
   simp [hin] at hI
   have hsz := run_sizeOf w hin
   by_cases h0 : l2 = []
   ·subst h0
    have hz : n2 = 0 := by simpa using hn2
    subst hz
    refine ⟨w, ?_, ?_, fun _ _ => rfl, rfl, rfl, rfl, rfl⟩
    ·cases A2 <;> simp [Builtin.copy_, Sem.run_bind, run_underlying hT.h, Builtin.lenOf, Builtin.firstCells, hsz, loadCells, loadCellsFrom, storeCells]
    ·simpa using hp.2
   ·obtain ⟨ad, hA2, _, hc⟩ := hsrc h0
    subst hA2
    have hfit : 0 + l2.flatten.length ≤ cs.toArray.size := by rw [hfl, Nat.zero_add, List.size_toArray]; omega
    have hr := run_copy_row P w T U ty e b 0 n c ad n2 c2 cs.toArray V l2.flatten hT.h (by simp [hin, hI.1]) hp.2 (by rw [hfl, hmin]) (fun j v hj => by
     have hjl : j < l2.length := by
      have := (List.getElem?_eq_some_iff.1 hj).1
      omega
     obtain ⟨xr, hxr⟩ : ∃ xr, l2[j]? = some xr := ⟨l2[j], List.getElem?_eq_getElem hjl⟩
     have hxw := hwf xr (List.mem_of_getElem? hxr)
     match xr, hxr, hxw with
     | [u], hxr, hxw =>
      have h1 := hc j [u] hxr 0 u rfl
      have h9 := flatMap_at (enc := idE) (sz := 1) l2 (fun x hx => (hwf x hx).1) j [u] hxr 0 u rfl
      rw [flatMap_idE] at h9
      simp only [Nat.mul_one, Nat.add_zero] at h9 h1
      rw [hj] at h9
      injection h9 with h9
      rw [h9]
      exact h1
     | [], _, hxw => simp at hxw
     | _ :: _ :: _, _, hxw => simp at hxw) hfit hone
    rw [hfl] at hr
    refine ⟨_, hr, ?_, fun c hc => setRow_other w b c _ hc, ?_, rfl, rfl, rfl⟩
    ·rw [setRow_heap w b cs.toArray _ V (0, 0) hp.2]
     simp
    ·simp [World.setRow]
 have hst : Star (rw.set k (cel b V (l2.flatten ++ cs.drop n2))) S w' := hss w' (fun c hc hn' => by
   by_cases hcb : c = b
   ·subst hcb; exact absurd hp.1 hn'
   ·exact h3 c hcb) ⟨hp.1, h2⟩
 unfold Oper.wp
 rw [show (execOp a.eval ⟨some d, .call { callee := .builtin .copy, args := #[x, y], argTypes := #[T, U] }, ty, pos, aft, g⟩).run P w = .ok (.value (goInt n2)) w' by
  simp [execOp, resolve, invoke, builtin, Sem.run_bind, ha.ev hx, ha.ev hy, hrun], Oper.upon_value]
 refine hnx () S w' trivial ⟨⟨h5.trans hf.fr.os, h6.trans hf.fr.tape, h7.trans hf.fr.output, by have := hf.fr.size; omega, fun c hc hn' => ?_⟩, fun c hc => by have := hf.lt c hc; omega, hf.sub, hst, fun e he => ?_⟩
 ·by_cases hcb : c = b
  ·subst hcb
   exact absurd ((hf.sub c (hA c hp.1)).resolve_left hn') (by omega)
  ·exact (h3 c hcb).trans (hf.fr.block c hc hn')
 ·obtain ⟨F, hF, hpe⟩ := hf.ros e he
  refine ⟨F, fun c hc => ⟨by have := (hF c hc).1; omega, (hF c hc).2⟩, e.st F w w' (fun c hc => ?_) hpe⟩
  by_cases hcb : c = b
  ·subst hcb; exact absurd (hA c hp.1) (hF c hc).2
  ·exact h3 c hcb
theorem cel_row {b V : Nat} {l : List UInt8} {cs : List Value} (h : cs = l.flatMap bE) : Ent (cel b V cs) (arr bE 1 (some ⟨b, 0, none⟩) l) := fun S w hp hl => by
 refine ⟨⟨b, 0, none⟩, rfl, hp.1, fun q x hq k u hk => ?_⟩
 rw [addr_add, Nat.zero_add, cel_cell hp, h]
 exact flatMap_at (enc := bE) (sz := 1) l (fun _ _ => rfl) q x hq k u hk
end
theorem und199 : Tryz.prog.underlying 304 = some (.array 4 5) := by kernel_rfl
theorem zeros_drop : ∀ n, n ≤ 4 → List.drop n [Value.int .u8 0, Value.int .u8 0, Value.int .u8 0, Value.int .u8 0] = (List.replicate (4 - n) (0 : UInt8)).flatMap bE := by
 intro n h
 match n, h with
 | 0, _ => rfl
 | 1, _ => rfl
 | 2, _ => rfl
 | 3, _ => rfl
 | 4, _ => rfl
theorem four_cells (l : List UInt8) (h : l.length ≤ 4) : (l.map bE).flatten ++ List.drop l.length [Value.int .u8 0, Value.int .u8 0, Value.int .u8 0, Value.int .u8 0] = (l ++ List.replicate (4 - l.length) (0 : UInt8)).flatMap bE := by
 rw [zeros_drop _ h, List.flatMap_append]
 rfl
theorem adG_lt (l : List UInt8) (h : l.length ≤ 4) : adG l < 4294967296 := by
 have h1 := ge_lt (l ++ List.replicate (4 - l.length) 0)
 have h2 : (l ++ List.replicate (4 - l.length) (0 : UInt8)).length = 4 := by simp; omega
 rw [h2] at h1
 exact h1
theorem four_get (l : List UInt8) (h : l.length ≤ 4) : ngetR (l ++ List.replicate (4 - l.length) 0) = (((adG l : Nat) : Int), 0) := by
 have hl : (l ++ List.replicate (4 - l.length) (0 : UInt8)).length = 4 := by rw [List.length_append, List.length_replicate]; omega
 unfold ngetR adG
 rw [if_neg (by rw [hl]; omega)]
theorem clN_nat (k : Nat) (h : k ≤ 32) : clN (k : Int) = k := by
 unfold clN
 rw [if_neg (by omega), if_neg (by omega)]
 rfl
theorem pget_bad (A : Option Addr) (c : Nat) (l : List UInt8) (hb : l.length ≤ 100000) (h : pfG l = none) :
  Tri Tryz.prog 222 [.slice A l.length c] [arr bE 1 A l] [] (fun _ : Unit => True) (fun _ => .tuple #[pfV 0 0, .int .i64 0, .int .i64 20]) (fun _ => []) := by
 have hfrom := nfrom_t A l.length c l rfl (by omega)
 rcases l with _ | ⟨k, r⟩
 ·have hs := psize_t 0 (by decide)
  refine Tri_in Tryz.func222 rfl (fun w0 S0 => ?_)
  repeat' (first | refine SD ?_ | (refine HO_k 13 rfl ?_; refine HO_sla und199 rfl rfl rfl rfl rdA ?_) | (refine KC ?_; refine HO_call rfl rfl rfl rfl (hfrom) rfl (srcsA) rfl rfl soA ?_; intro ⟨rb, ⟨rA, rc⟩⟩ hr; dsimp only [rdP, pt, lca, lna]) | (refine KC ?_; refine HO_call rfl rfl rfl rfl (num0_t rb rA rc) rfl (trivial) rfl rfl soA ?_; intro ⟨xA, xc⟩ hx1; dsimp only [rdP, pt, lca, lna]) | (refine KC ?_; refine HO_callq rfl rfl rfl rfl (hs) (fun _ _ => rfl) (trivial) rfl rfl sqA ?_) | (refine KC ?_; refine HO_mv 2 rfl rfl ?_; refine HO_mv 2 rfl rfl ?_; refine HO_call rfl rfl rfl rfl (bytesB_t rb xA xc [] 0 (by simp) hx1) rfl (trivial) rfl rfl soA ?_; intro ⟨⟨uA, uc⟩, ⟨vA, vc⟩⟩ hu1; dsimp only [rdP, pt, lca, lna]) | (refine HO_k 19 rfl ?_; refine HO_copy 3 1 rfl rfl rfl rfl rfl (src_right (k := 0) rfl) rfl WfL.nil (by decide) rfl rfl rfl soA ?_) | (refine KC ?_; refine HO_callq rfl rfl rfl rfl (nbad_t _ _ _ _ _) (fun _ _ => rfl) (srcsA) rfl rfl sqA ?_) | refine SB ?_ | (refine S2 ?_; intro _) | fail)
  (refine SRt ?_; refine RU ?_)
  rfl
 have hk := k.toNat_lt
 simp only [List.length_cons] at hb
 by_cases h32 : 32 < k.toNat
 ·refine Tri_in Tryz.func222 rfl (fun w0 S0 => ?_)
  repeat' (first | refine SD ?_ | (refine KC ?_; refine HO_call rfl rfl rfl rfl (hfrom) rfl (srcsA) rfl rfl soA ?_; intro ⟨rb, ⟨rA, rc⟩⟩ hr; dsimp only [rdP, pt, lca, lna]) | (refine KC ?_; refine HO_call rfl rfl rfl rfl (num1_t rb rA rc k r (by omega) (by simpa using hr)) rfl (trivial) rfl rfl soA ?_; intro ⟨xA, xc⟩ hx1; dsimp only [rdP, pt, lca, lna]) | refine SB ?_ | (refine S2 ?_; intro _) | fail)
  (refine SRt ?_; refine RU ?_)
  rfl
 have hs := psize_t k.toNat (by omega)
 have hsh : r.length < (k.toNat + 7) / 8 := by
  simp only [pfG] at h
  split at h
  ·cases h
  ·rename_i hn
   exact Nat.lt_of_not_le fun hle => hn ⟨by omega, hle⟩
 refine Tri_in Tryz.func222 rfl (fun w0 S0 => ?_)
 repeat' (first | refine SD ?_ | (refine HO_k 13 rfl ?_; refine HO_sla und199 rfl rfl rfl rfl rdA ?_) | (refine KC ?_; refine HO_call rfl rfl rfl rfl (hfrom) rfl (srcsA) rfl rfl soA ?_; intro ⟨rb, ⟨rA, rc⟩⟩ hr; dsimp only [rdP, pt, lca, lna]) | (refine KC ?_; refine HO_call rfl rfl rfl rfl (num1_t rb rA rc k r (by omega) (by simpa using hr)) rfl (trivial) rfl rfl soA ?_; intro ⟨xA, xc⟩ hx1; dsimp only [rdP, pt, lca, lna]) | (refine KC ?_; refine HO_callq rfl rfl rfl rfl (hs) (fun _ _ => rfl) (trivial) rfl rfl sqA ?_) | (refine KC ?_; refine HO_mv 2 rfl rfl ?_; refine HO_mv 2 rfl rfl ?_; refine HO_call rfl rfl rfl rfl (bytesS_t rb xA xc r _ hsh (by omega) hx1) rfl (trivial) rfl rfl soA ?_; intro ⟨⟨uA, uc⟩, ⟨vA, vc⟩⟩ hu1; dsimp only [rdP, pt, lca, lna]) | (refine HO_k 19 rfl ?_; refine HO_copy 3 1 rfl rfl rfl rfl rfl (src_right (k := 0) rfl) rfl WfL.nil (by decide) rfl rfl rfl soA ?_) | (refine KC ?_; refine HO_callq rfl rfl rfl rfl (nbad_t _ _ _ _ _) (fun _ _ => rfl) (srcsA) rfl rfl sqA ?_) | refine SB ?_ | (refine S2 ?_; intro _) | fail)
 (refine SRt ?_; refine RU ?_)
 rfl
theorem pget_t (A : Option Addr) (c : Nat) (l : List UInt8) (hb : l.length ≤ 100000) (a q : Nat) (h : pfG l = some (a, q)) :
  Tri Tryz.prog 222 [.slice A l.length c] [arr bE 1 A l] [] (fun _ : Unit => True) (fun _ => .tuple #[pfV a q, .int .i64 ((1 + (q + 7) / 8 : Nat)), .int .i64 0]) (fun _ => []) := by
 have hfrom := nfrom_t A l.length c l rfl (by omega)
 rcases l with _ | ⟨k, r⟩
 ·cases h
 have hk := k.toNat_lt
 simp only [List.length_cons] at hb
 simp only [pfG] at h
 split at h
 rotate_left
 ·cases h
 rename_i hc
 injection h with h
 injection h with h1 h2
 subst h1 h2
 obtain ⟨h32, hsl⟩ := hc
 have hs := psize_t k.toNat h32
 obtain ⟨s, hs0⟩ : ∃ s, (k.toNat + 7) / 8 = s := ⟨_, rfl⟩
 have hs4 : s ≤ 4 := by omega
 rw [hs0] at hsl hs ⊢
 have hts : (r.take s).length = s := by rw [List.length_take]; omega
 obtain ⟨t, ht⟩ : ∃ t, r.take s = t := ⟨_, rfl⟩
 have htl : t.length = s := by rw [← ht]; exact hts
 have ht4 : t.length ≤ 4 := by omega
 have hby := fun b B cc hcc => bytesL_t b B cc r s hsl (by omega) hcc
 rw [ht] at hby ⊢
 have hcell := four_cells t ht4
 have hlt := adG_lt t ht4
 have hg := fun B c => nget_t B 4 c (t ++ List.replicate (4 - t.length) 0) (by simp; omega)
 rw [four_get t ht4] at hg
 have hmk := amake_t (adG t) hlt k.toNat
 rw [clN_nat _ h32] at hmk
 dsimp only [pfV] at hmk ⊢
 refine Tri_in Tryz.func222 rfl (fun w0 S0 => ?_)
 repeat' (first | refine SX ?_ | (refine HO_k 13 rfl ?_; refine HO_sla und199 rfl rfl rfl rfl rdA ?_) | (refine KC ?_; refine HO_call rfl rfl rfl rfl (hfrom) rfl (srcsA) rfl rfl soA ?_; intro ⟨rb, ⟨rA, rc⟩⟩ hr; dsimp only [rdP, pt, lca, lna]) | (refine KC ?_; refine HO_call rfl rfl rfl rfl (num1_t rb rA rc k r (by omega) (by simpa using hr)) rfl (trivial) rfl rfl soA ?_; intro ⟨xA, xc⟩ hx1; dsimp only [rdP, pt, lca, lna]) | (refine KC ?_; refine HO_callq rfl rfl rfl rfl (hs) (fun _ _ => rfl) (trivial) rfl rfl sqA ?_) | (refine KC ?_; refine HO_mv 2 rfl rfl ?_; refine HO_mv 2 rfl rfl ?_; refine HO_call rfl rfl rfl rfl (hby rb xA xc hx1) rfl (trivial) rfl rfl soA ?_; intro ⟨⟨uA, uc⟩, ⟨vA, vc⟩⟩ hu1; dsimp only [rdP, pt, lca, lna]) | (refine HO_k 19 rfl ?_; refine HO_copy 3 1 rfl rfl rfl rfl rfl (src_right (k := 0) rfl) (by simp) WfL.map (by omega) rfl rfl rfl soA ?_) | (refine KC ?_; refine HO_callq rfl rfl rfl rfl (nbad_t _ _ _ _ _) (fun _ _ => rfl) (srcsA) rfl rfl sqA ?_) | (refine KC ?_; refine HO_callq rfl rfl rfl rfl (hg _ _) (fun _ _ => rfl) (by first | exact AllSrc.via 1 rfl (cel_row hcell) trivial | exact AllSrc.via 2 rfl (cel_row hcell) trivial | exact AllSrc.via 3 rfl (cel_row hcell) trivial | exact AllSrc.via 4 rfl (cel_row hcell) trivial | exact AllSrc.via 5 rfl (cel_row hcell) trivial) rfl rfl sqA ?_) | (refine KC ?_; refine HO_callq rfl rfl rfl rfl (hmk) (fun _ _ => rfl) (trivial) rfl rfl sqA ?_) | refine SB ?_ | (refine S2 ?_; intro _) | fail)
 (refine SRt ?_; refine RU ?_)
 rfl
theorem pfG_len {l : List UInt8} {a k : Nat} (h : pfG l = some (a, k)) : 1 + (k + 7) / 8 ≤ l.length := by
 cases l with
 | nil => cases h
 | cons c r =>
  simp only [pfG] at h
  split at h
  ·rename_i hc
   injection h with h
   injection h with h1 h2
   subst h2
   rw [List.length_cons]
   omega
  ·cases h
@[reducible] def ownN (x : OA) (l : List Nl) : SL := own idE 157 3 x.1 l.length x.2 (l.map Nl.e)
theorem bytesAll_t (b : Nat) (A : Option Addr) (c : Nat) (l : List UInt8) (hb : l.length ≤ 100000) (hc : l.length ≤ c) :
  Tri Tryz.prog 176 [pt b, .int .i64 l.length] [] (rdP b A c false l) (fun x : OA × OA => l.length ≤ x.1.2 ∧ 0 ≤ x.2.2) (fun x => .slice x.1.1 l.length x.1.2) (fun x => ownB x.1 l :: rdP b x.2.1 x.2.2 false []) := by
 have := bytesL_t b A c l l.length (Nat.le_refl _) hb hc
 rw [List.take_length, List.drop_length] at this
 exact this
theorem first_bad (A : Option Addr) (c : Nat) (l : List UInt8) (hb : l.length ≤ 100000) (hc : l.length ≤ c) (paths : Bool) (h : fstG paths l = none) :
  Tri Tryz.prog 204 [.slice A l.length c, .bool paths] [] [arr bE 1 A l] (fun _ : Int => True) (fun i => .tuple #[nlV i 0 0, .slice none 0 0, .bool false]) (fun _ => []) := by
 cases paths
 ·have hp := fun A c => pget_bad A c l hb (by
   unfold fstG at h
   rw [if_neg (by simp [wP])] at h
   simp only [wP, Bool.false_eq_true, if_false, List.drop_zero] at h
   split at h
   ·assumption
   ·cases h)
  dsimp only [pfV] at hp
  refine Tri_in Tryz.func204 rfl (fun w0 S0 => ?_)
  repeat' (first | refine SD ?_ | (refine KC ?_; refine HO_callq rfl rfl rfl rfl (hp _ _) (fun _ _ => rfl) (srcsA) rfl rfl sqA ?_) | refine SB ?_ | (refine S2 ?_; intro _) | fail)
  (refine SRt ?_; unfold RetQ; refine ⟨(0 : Int), trivial, rfl, Keeps.nil⟩)
 ·have hfrom := nfrom_t A l.length c l rfl (by omega)
  by_cases h4 : l.length < 4
  ·refine Tri_in Tryz.func204 rfl (fun w0 S0 => ?_)
   repeat' (first | refine SD ?_ | (refine KC ?_; refine HO_call rfl rfl rfl rfl (hfrom) rfl (srcsA) rfl rfl soA ?_; intro ⟨rb, ⟨rA, rc⟩⟩ hr; dsimp only [rdP, pt, lca, lna]) | (refine KC ?_; refine HO_call rfl rfl rfl rfl (numS_t rb rA rc l 4 (by decide) h4 hr) rfl (trivial) rfl rfl soA ?_; intro ⟨xA, xc⟩ hx1; dsimp only [rdP, pt, lca, lna]) | (refine KC ?_; refine HO_callq rfl rfl rfl rfl (nbad_t _ _ _ _ _) (fun _ _ => rfl) (srcsA) rfl rfl sqA ?_) | refine SB ?_ | (refine S2 ?_; intro _) | fail)
   (refine SRt ?_; unfold RetQ; refine ⟨(0 : Int), trivial, rfl, Keeps.nil⟩)
  ·have hdl : (l.drop 4).length ≤ 100000 := by rw [List.length_drop]; omega
   have hp := fun A c => pget_bad A c (l.drop 4) hdl (by
    unfold fstG at h
    rw [if_neg (by simp [wP]; omega)] at h
    simp only [wP, if_true] at h
    split at h
    ·assumption
    ·cases h)
   dsimp only [pfV] at hp
   have hall := fun b A c hc => bytesAll_t b A c (l.drop 4) hdl hc
   have hnum := fun b A c hc => numL_t b A c l 4 (by decide) (by omega) hb hc
   obtain ⟨l4, hl4⟩ : ∃ l4, l.drop 4 = l4 := ⟨_, rfl⟩
   rw [hl4] at hp hall hdl
   simp only [hl4] at hnum
   refine Tri_in Tryz.func204 rfl (fun w0 S0 => ?_)
   repeat' (first | refine SD ?_ | (refine KC ?_; refine HO_call rfl rfl rfl rfl (hfrom) rfl (srcsA) rfl rfl soA ?_; intro ⟨rb, ⟨rA, rc⟩⟩ hr; dsimp only [rdP, pt, lca, lna]) | (refine KC ?_; refine HO_call rfl rfl rfl rfl (hnum rb rA rc hr) rfl (trivial) rfl rfl soA ?_; intro ⟨xA, xc⟩ hx1; dsimp only [rdP, pt, lca, lna]) | (refine KC ?_; refine HO_callq rfl rfl rfl rfl (nbad_t _ _ _ _ _) (fun _ _ => rfl) (srcsA) rfl rfl sqA ?_) | (refine KC ?_; refine HO_callq rfl rfl rfl rfl (nleftF_t _ _ _ _) (fun _ _ => rfl) (srcsA) rfl rfl sqA ?_) | (refine KC ?_; refine HO_call rfl rfl rfl rfl (hall rb xA xc hx1) rfl (trivial) rfl rfl soA ?_; intro ⟨⟨uA, uc⟩, ⟨vA, vc⟩⟩ hu1; dsimp only [rdP, pt, lca, lna]) | (refine KC ?_; refine HO_callq rfl rfl rfl rfl (hp _ _) (fun _ _ => rfl) (srcsA) rfl rfl sqA ?_) | refine SB ?_ | (refine S2 ?_; intro _) | fail)
   (refine SRt ?_; unfold RetQ; refine ⟨(ge (List.take 4 l) : Int), trivial, rfl, Keeps.nil⟩)
theorem first_t (A : Option Addr) (c : Nat) (l : List UInt8) (hb : l.length ≤ 100000) (hc : l.length ≤ c) (paths : Bool) (x : Nl) (r : List UInt8) (h : fstG paths l = some (x, r)) :
  Tri Tryz.prog 204 [.slice A l.length c, .bool paths] [] [arr bE 1 A l] (fun y : OA => r.length ≤ y.2) (fun y => .tuple #[nlV x.i x.a x.n, .slice y.1 r.length y.2, .bool true]) (fun y => [arr bE 1 y.1 r]) := by
 unfold fstG at h
 split at h
 ·cases h
 rename_i hw
 split at h
 ·cases h
 rename_i a k hpf
 injection h with h
 injection h with h1 h2
 subst h1 h2
 have hpl := pfG_len hpf
 cases paths
 ·simp only [wP, Bool.false_eq_true, if_false, List.drop_zero, List.take_zero] at hpf hpl ⊢
  have hp := fun A c => pget_t A c l hb a k hpf
  dsimp only [pfV] at hp
  obtain ⟨s, hs⟩ : ∃ s, 1 + (k + 7) / 8 = s := ⟨_, rfl⟩
  rw [hs] at hpl ⊢
  simp only [hs] at hp
  have er : (l.drop s).length = l.length - s := List.length_drop
  rw [er]
  refine Tri_in Tryz.func204 rfl (fun w0 S0 => ?_)
  repeat' (first | refine SD ?_ | (refine KC ?_; refine HO_callq rfl rfl rfl rfl (hp _ _) (fun _ _ => rfl) (srcsA) rfl rfl sqA ?_) | refine SB ?_ | (refine S2 ?_; intro _) | fail)
  (refine SRt ?_; unfold RetQ; refine ⟨(cutA A 1 c s, c - s), (show l.length - s ≤ c - s by omega), rfl, (by repeat (first | exact Keeps.cons (arr_drop _ _ (fun h => by omega)) Keeps.nil | refine Keeps.skip ?_))⟩)
 ·simp only [wP, if_true] at hw hpf hpl ⊢
  have hfrom := nfrom_t A l.length c l rfl (by omega)
  have hdl : (l.drop 4).length ≤ 100000 := by rw [List.length_drop]; omega
  have hp := fun A c => pget_t A c (l.drop 4) hdl a k hpf
  dsimp only [pfV] at hp
  have hall := fun b A c hc => bytesAll_t b A c (l.drop 4) hdl hc
  have hnum := fun b A c hc => numL_t b A c l 4 (by decide) (by omega) hb hc
  obtain ⟨l4, hl4⟩ : ∃ l4, l.drop 4 = l4 := ⟨_, rfl⟩
  rw [hl4] at hp hall hdl hpl ⊢
  simp only [hl4] at hnum
  obtain ⟨s, hs⟩ : ∃ s, 1 + (k + 7) / 8 = s := ⟨_, rfl⟩
  rw [hs] at hpl ⊢
  simp only [hs] at hp
  have er : (l4.drop s).length = l4.length - s := List.length_drop
  rw [er]
  refine Tri_in Tryz.func204 rfl (fun w0 S0 => ?_)
  repeat' (first | refine SD ?_ | (refine KC ?_; refine HO_call rfl rfl rfl rfl (hfrom) rfl (srcsA) rfl rfl soA ?_; intro ⟨rb, ⟨rA, rc⟩⟩ hr; dsimp only [rdP, pt, lca, lna]) | (refine KC ?_; refine HO_call rfl rfl rfl rfl (hnum rb rA rc hr) rfl (trivial) rfl rfl soA ?_; intro ⟨xA, xc⟩ hx1; dsimp only [rdP, pt, lca, lna]) | (refine KC ?_; refine HO_callq rfl rfl rfl rfl (nbad_t _ _ _ _ _) (fun _ _ => rfl) (srcsA) rfl rfl sqA ?_) | (refine KC ?_; refine HO_callq rfl rfl rfl rfl (nleftF_t _ _ _ _) (fun _ _ => rfl) (srcsA) rfl rfl sqA ?_) | (refine KC ?_; refine HO_call rfl rfl rfl rfl (hall rb xA xc hx1) rfl (trivial) rfl rfl soA ?_; intro ⟨⟨uA, uc⟩, ⟨vA, vc⟩⟩ hu1; dsimp only [rdP, pt, lca, lna]) | (refine KC ?_; refine HO_callq rfl rfl rfl rfl (hp _ _) (fun _ _ => rfl) (srcsA) rfl rfl sqA ?_) | refine SB ?_ | (refine S2 ?_; intro _) | fail)
  (refine SRt ?_; unfold RetQ; refine ⟨(cutA uA 1 uc s, uc - s), (show l4.length - s ≤ uc - s by have := hu1.1; simp only at this; omega), rfl, (by repeat (first | exact Keeps.cons (fun S w h => arr_drop _ _ (fun h => by have := hu1.1; simp only at this; omega) S w (own_byte S w h)) Keeps.nil | refine Keeps.skip ?_))⟩)
structure NgI where
 A : Option Addr
 c : Nat
 l : List UInt8
 oA : Option Addr
 oc : Nat
 out : List Nl
theorem nlg_bad (A : Option Addr) (c : Nat) (l : List UInt8) (hb : l.length ≤ 100000) (hc : l.length ≤ c) (paths : Bool) (h : getR paths [] l = none) :
  Tri Tryz.prog 181 [.slice A l.length c, .bool paths] [] [arr bE 1 A l] (fun _ : Unit => True) (fun _ => .tuple #[.slice none 0 0, .int .i64 60]) (fun _ => []) := by
 refine Tri_in Tryz.func181 rfl (fun w0 S0 => ?_)
 repeat' (first | refine SB ?_ | (refine T2 ?_; intros) | fail)
 refine HC_add (e := ownN (none, 0) []) (fun w => own_nil w) ?_
 refine HC_keeps (rw' := [arr bE 1 A l, ownN (none, 0) []]) permA ?_
 refine HC_loop (α := NgI) (fun x => x.l.length ≤ 100000 ∧ x.l.length ≤ x.c ∧ x.out.length ≤ 1024 ∧ getR paths x.out x.l = none) (fun x => [(6, .slice x.oA x.out.length x.oc), (1, .bool paths), (0, .slice x.A x.l.length x.c)])
  (fun x => [arr bE 1 x.A x.l, ownN (x.oA, x.oc) x.out]) (fun x => x.l.length) rfl ⟨A, c, l, none, 0, []⟩ ⟨hb, hc, Nat.zero_le _, h⟩ ⟨rfl, rfl, rfl, trivial⟩ rfl ?_
 clear hb hc h
 intro ⟨A, c, l, oA, oc, out⟩ ⟨hb, hc, ho, h⟩
 dsimp only [ownN] at hb hc ho h ⊢
 by_cases hl : l = []
 ·subst hl
  rw [getR_nil] at h
  cases h
 have hpos : 0 < l.length := List.length_pos_iff.2 hl
 rw [getR_cons _ _ _ hl] at h
 cases hf : fstG paths l with
 | none =>
  have hfi := first_bad A c l hb hc paths hf
  dsimp only [nlV] at hfi
  repeat' (first | refine SD ?_ | (refine KC ?_; refine HO_call rfl rfl rfl rfl (hfi) rfl (trivial) rfl rfl soA ?_; intro i hi; dsimp only [lca, lna]) | refine SB ?_ | (refine T2 ?_; intros) | fail)
  (refine SRt ?_; refine RU ?_)
  rfl
 | some xr =>
  obtain ⟨x, r⟩ := xr
  have hrl := fstG_len hl hf
  rw [hf] at h
  simp only at h
  have hfi := first_t A c l hb hc paths x r hf
  dsimp only [nlV] at hfi
  by_cases h24 : out.length < 1024
  ·rw [if_pos h24] at h
   repeat' (first | refine SD ?_ | (refine KC ?_; refine HO_call rfl rfl rfl rfl (hfi) rfl (trivial) rfl rfl soA ?_; intro ⟨yA, yc⟩ hy; dsimp only [lca, lna]) | refine SB ?_ | (refine T2 ?_; intros) | fail)
   rename_i b9 A' c'
   have eL : out.length + 1 = (out ++ [x]).length := by simp
   have eM : List.map Nl.e out ++ [[Value.int .i64 x.i, .int .u32 x.a, .int .i64 x.n]] = List.map Nl.e (out ++ [x]) := by rw [List.map_append]; rfl
   rw [eL, eM]
   refine HX_keeps (rw' := [arr bE 1 yA r, ownN (A', c') (out ++ [x])]) permA ?_
   exact HX_at ⟨yA, yc, r, A', c', out ++ [x]⟩ ⟨⟨by simp only; omega, hy, by simp only [List.length_append, List.length_cons, List.length_nil]; omega, h⟩, hrl⟩ ⟨rfl, rfl, rfl, trivial⟩ rfl
  ·repeat' (first | refine SD ?_ | (refine KC ?_; refine HO_call rfl rfl rfl rfl (hfi) rfl (trivial) rfl rfl soA ?_; intro ⟨yA, yc⟩ hy; dsimp only [lca, lna]) | refine SB ?_ | (refine T2 ?_; intros) | fail)
   (refine SRt ?_; refine RU ?_)
   rfl
theorem nlg_t (A : Option Addr) (c : Nat) (l : List UInt8) (hb : l.length ≤ 100000) (hc : l.length ≤ c) (paths : Bool) (m : List Nl) (h : getR paths [] l = some m) :
  Tri Tryz.prog 181 [.slice A l.length c, .bool paths] [] [arr bE 1 A l] (fun _ : OA => True) (fun x => .tuple #[.slice x.1 m.length x.2, .int .i64 0]) (fun x => [ownN x m]) := by
 refine Tri_in Tryz.func181 rfl (fun w0 S0 => ?_)
 repeat' (first | refine SB ?_ | (refine T2 ?_; intros) | fail)
 refine HC_add (e := ownN (none, 0) []) (fun w => own_nil w) ?_
 refine HC_keeps (rw' := [arr bE 1 A l, ownN (none, 0) []]) permA ?_
 refine HC_loop (α := NgI) (fun x => x.l.length ≤ 100000 ∧ x.l.length ≤ x.c ∧ x.out.length ≤ 1024 ∧ getR paths x.out x.l = some m) (fun x => [(6, .slice x.oA x.out.length x.oc), (1, .bool paths), (0, .slice x.A x.l.length x.c)])
  (fun x => [arr bE 1 x.A x.l, ownN (x.oA, x.oc) x.out]) (fun x => x.l.length) rfl ⟨A, c, l, none, 0, []⟩ ⟨hb, hc, Nat.zero_le _, h⟩ ⟨rfl, rfl, rfl, trivial⟩ rfl ?_
 clear hb hc h
 intro ⟨A, c, l, oA, oc, out⟩ ⟨hb, hc, ho, h⟩
 dsimp only [ownN] at hb hc ho h ⊢
 by_cases hl : l = []
 ·subst hl
  rw [getR_nil] at h
  injection h with h
  subst h
  repeat' (first | refine SD ?_ | refine SB ?_ | (refine T2 ?_; intros) | fail)
  (refine SRt ?_; unfold RetQ; refine ⟨(oA, oc), trivial, rfl, Keeps.skip (Keeps.cons Ent.rfl_ Keeps.nil)⟩)
 have hpos : 0 < l.length := List.length_pos_iff.2 hl
 rw [getR_cons _ _ _ hl] at h
 cases hf : fstG paths l with
 | none =>
  rw [hf] at h
  cases h
 | some xr =>
  obtain ⟨x, r⟩ := xr
  have hrl := fstG_len hl hf
  rw [hf] at h
  simp only at h
  have hfi := first_t A c l hb hc paths x r hf
  dsimp only [nlV] at hfi
  by_cases h24 : out.length < 1024
  ·rw [if_pos h24] at h
   repeat' (first | refine SD ?_ | (refine KC ?_; refine HO_call rfl rfl rfl rfl (hfi) rfl (trivial) rfl rfl soA ?_; intro ⟨yA, yc⟩ hy; dsimp only [lca, lna]) | refine SB ?_ | (refine T2 ?_; intros) | fail)
   rename_i b9 A' c'
   have eL : out.length + 1 = (out ++ [x]).length := by simp
   have eM : List.map Nl.e out ++ [[Value.int .i64 x.i, .int .u32 x.a, .int .i64 x.n]] = List.map Nl.e (out ++ [x]) := by rw [List.map_append]; rfl
   rw [eL, eM]
   refine HX_keeps (rw' := [arr bE 1 yA r, ownN (A', c') (out ++ [x])]) permA ?_
   exact HX_at ⟨yA, yc, r, A', c', out ++ [x]⟩ ⟨⟨by simp only; omega, hy, by simp only [List.length_append, List.length_cons, List.length_nil]; omega, h⟩, hrl⟩ ⟨rfl, rfl, rfl, trivial⟩ rfl
  ·rw [if_neg h24] at h
   cases h
end Go.Proofs.YteeogabkkblkgaaGreatDoor
