/- Part of a proof of many texts: what the theorem at its end leans on. -/
import Derived.Test.YteeogabkkblkgaaGreatDoorVAttK
namespace Go.Proofs.YteeogabkkblkgaaGreatDoor
set_option maxHeartbeats 1000000000
set_option linter.unusedVariables false
set_option linter.unusedSimpArgs false
open Go.RowKit
attribute [local irreducible] HC HX HO Tri eP adr
@[reducible] def attP (b : Nat) (a : AttS) (four : Bool) (seen : Int) : List SL := [cel b TG (rgC a four seen), ownS a.pA a.pc a.path, inn (segPs a.path), ownI a.cA a.cc a.comms]
theorem ge_one (x : UInt8) : ge [x] = x.toNat := by simp [ge]
theorem comms_bad (b : Nat) (a : AttS) (four : Bool) (seen : Int) (dA : Option Addr) (dc : Nat) (d : List UInt8) (hb : d.length = 0 ∨ d.length % 4 ≠ 0 ∨ 128 < d.length) :
  Tri Tryz.prog 234 [pt b, .slice dA d.length dc] [arr bE 1 dA d] [cel b TG (rgC a four seen)] (fun _ : Unit => True) (fun _ => .bool false) (fun _ => [cel b TG (rgC a four seen)]) := by
 have hrem : bRem (d.length : Int) 4 = ((d.length % 4 : Nat) : Int) := by unfold bRem; rw [Int.tmod_eq_emod_of_nonneg (by omega)]; rfl
 refine Tri_in Tryz.func234 rfl (fun w0 S0 => ?_)
 dsimp only [pt]
 repeat' (first | (with_reducible refine HO_rw (congrArg (Value.int .i64) hrem) ?_) | exact HO_seg rfl rfl | refine S1 ?_ | (refine S2 ?_; intro _) | (refine HO_g 2 rfl ?_; apply HO_o1 rfl) | refine S5 ?_ | (intro hb; try replace hb := simB hb; try exact kill hb))
 all_goals try exact false
 refine HC_cond rfl rfl (fun hc => ?_) (fun hc => by exfalso; simp only [Bool.or_eq_false_iff, decide_eq_false_iff_not, Bool.not_eq_false', decide_eq_true_eq] at hc; omega)
 repeat' (first | exact HO_seg rfl rfl | refine S1 ?_ | (refine S2 ?_; intro _) | (refine HO_g 2 rfl ?_; apply HO_o1 rfl) | refine S5 ?_ | (intro hb; try replace hb := simB hb; try exact kill hb))
 (refine SRt ?_; unfold RetQ; refine ⟨(), trivial, rfl, permA⟩)
theorem updN_num (k : Nat) (hk : k = 3 ∨ k = 4 ∨ k = 5) (w : Nat) (a : AttS) (d : List UInt8) :
  (setG w a.pa k d).isSome = (decide ((d.length : Int) = 4) && (!decide ((k : Int) = 3) || !decide ((ngetR d).1 = 0))) ∧ ∀ p, setG w a.pa k d = some p → (updN k a (ngetR d).1).pa = p := by
 by_cases hl : d.length = 4
 ·have hg : (ngetR d).1 = (ge d : Int) := ge4 hl
  have h4 := ge_four hl
  have hw : IntKind.u32.wrap (ge d : Int) = (ge d : Int) := by have : Value.int .u32 (IntKind.u32.wrap (ge d : Int)) = Value.int .u32 (ge d : Int) := wrap_u32 ⟨by omega, h4⟩; injection this
  have hlt : decide ((d.length : Int) = 4) = true := decide_eq_true (by omega)
  rw [hg, hlt]
  rcases hk with rfl | rfl | rfl
  ·have e : setG w a.pa 3 d = if ge d = 0 then none else some { a.pa with nxt := ge d } := by
    unfold setG
    rw [if_neg (by decide), if_neg (by decide), if_neg (by decide), if_neg (by omega), if_pos rfl]
   rw [e]
   by_cases h0 : ge d = 0
   ·rw [if_pos h0, h0]
    exact ⟨rfl, fun p hp => by cases hp⟩
   ·rw [if_neg h0]
    refine ⟨?_, fun p hp => ?_⟩
    ·have : decide ((ge d : Int) = 0) = false := decide_eq_false (by omega)
     rw [this]; rfl
    ·injection hp with hp
     rw [← hp]
     unfold updN AttS.pa
     rw [if_pos rfl, hw]
  ·have e : setG w a.pa 4 d = some { a.pa with med := ge d } := by
    unfold setG
    rw [if_neg (by decide), if_neg (by decide), if_neg (by decide), if_neg (by omega), if_neg (by decide), if_pos rfl]
   rw [e]
   exact ⟨rfl, fun p hp => by injection hp⟩
  ·have e : setG w a.pa 5 d = some { a.pa with pref := ge d } := by
    unfold setG
    rw [if_neg (by decide), if_neg (by decide), if_neg (by decide), if_neg (by omega), if_neg (by decide), if_neg (by decide)]
   rw [e]
   exact ⟨rfl, fun p hp => by injection hp⟩
 ·have e : setG w a.pa k d = none := by
   unfold setG
   rw [if_neg (by omega), if_neg (by omega), if_neg (by omega), if_pos hl]
  have hlf : decide ((d.length : Int) = 4) = false := decide_eq_false (by omega)
  rw [e, hlf]
  exact ⟨rfl, fun p hp => by cases hp⟩
theorem set_t (b : Nat) (a : AttS) (four : Bool) (seen : Int) (k : Nat) (hk : k = 1 ∨ k = 2 ∨ k = 3 ∨ k = 4 ∨ k = 5 ∨ k = 8) (dA : Option Addr) (dc : Nat) (d : List UInt8) (hd : d.length ≤ 100000) (hdc : d.length ≤ dc) (h2 : k = 2 → a.path = []) (h8 : k = 8 → a.comms = []) :
  Tri Tryz.prog 231 [pt b, .int .i64 k, .slice dA d.length dc] [arr bE 1 dA d] (attP b a four seen) (fun a' : AttS => ∀ p, setG (szF four) a.pa k d = some p → a'.pa = p) (fun _ => .bool (setG (szF four) a.pa k d).isSome)
   (fun a' => attP b a' four seen) := by
 rcases hk with rfl | rfl | hk | hk | hk | rfl
 ·-- origin
  rcases d with _ | ⟨x, _ | ⟨y, d⟩⟩
  ·have e : setG (szF four) a.pa 1 [] = none := by unfold setG; rw [if_pos rfl, if_pos (by simp)]
   rw [e]
   refine Tri_in Tryz.func231 rfl (fun w0 S0 => ?_)
   dsimp only [pt, attP]
   repeat' (first | refine SX ?_ | refine SB ?_ | fail)
   (refine SRt ?_; unfold RetQ; refine ⟨a, (fun p hp => by cases hp), rfl, Keeps.refl⟩)
  ·have hx := x.toNat_lt
   by_cases h2x : x.toNat ≤ 2
   ·have e : setG (szF four) a.pa 1 [x] = some { a.pa with org := x.toNat } := by unfold setG; rw [if_pos rfl, if_neg (by simp [ge_one]; omega), ge_one]
    rw [e]
    refine Tri_in Tryz.func231 rfl (fun w0 S0 => ?_)
    dsimp only [pt, attP]
    repeat' (first | refine SX ?_ | refine SB ?_ | fail)
    (refine SRt ?_; unfold RetQ; refine ⟨{ a with org := x.toNat }, (fun p hp => by injection hp), rfl, Keeps.refl⟩)
   ·have e : setG (szF four) a.pa 1 [x] = none := by unfold setG; rw [if_pos rfl, if_pos (by simp [ge_one]; omega)]
    rw [e]
    refine Tri_in Tryz.func231 rfl (fun w0 S0 => ?_)
    dsimp only [pt, attP]
    repeat' (first | refine SX ?_ | refine SB ?_ | fail)
    (refine SRt ?_; unfold RetQ; refine ⟨a, (fun p hp => by cases hp), rfl, Keeps.refl⟩)
  ·have e : setG (szF four) a.pa 1 (x :: y :: d) = none := by unfold setG; rw [if_pos rfl, if_pos (by simp)]
   have hne : ¬ (((x :: y :: d).length : Nat) : Int) = 1 := by simp; omega
   rw [e]
   refine Tri_in Tryz.func231 rfl (fun w0 S0 => ?_)
   dsimp only [pt, attP]
   repeat' (first | refine SX ?_ | refine SB ?_ | fail)
   (refine SRt ?_; unfold RetQ; refine ⟨a, (fun p hp => by cases hp), rfl, Keeps.refl⟩)
 ·-- path
  have hp := h2 rfl
  have hs := segs_t b a four seen dA dc d hd (by rw [hp]; simp)
  have e1 : setG (szF four) a.pa 2 d = match segsR (szF four) (spl a.path) d with
    | none => none
    | some p => some { a.pa with path := p } := by
   unfold setG segsR
   rw [if_neg (by decide), if_pos rfl, hp]
   rfl
  obtain ⟨res, hres⟩ : ∃ res, segsR (szF four) (spl a.path) d = res := ⟨_, rfl⟩
  rw [hres] at hs e1
  have e2 : (setG (szF four) a.pa 2 d).isSome = res.isSome := by rw [e1]; cases res <;> rfl
  rw [e2]
  refine Tri_in Tryz.func231 rfl (fun w0 S0 => ?_)
  dsimp only [pt, attP]
  repeat' (first | refine SX ?_ | (refine KC ?_; refine HO_call rfl rfl rfl rfl (hs) rfl (srcsA) rfl rfl soA ?_; intro ⟨⟨xA, xc⟩, xl⟩ hx; dsimp only [segP, lca, lna]) | refine SB ?_ | fail)
  refine HX_keeps (rw' := attP b { a with pA := xA, pc := xc, path := xl } four seen) permA ?_
  (refine SRt ?_; unfold RetQ; refine ⟨{ a with pA := xA, pc := xc, path := xl }, (fun p hq => by
   rw [e1] at hq
   cases res with
   | none => cases hq
   | some q =>
    injection hq with hq
    rw [← hq]
    unfold AttS.pa
    rw [hx q rfl]), rfl, Keeps.refl⟩)
 ·obtain ⟨e1, e2⟩ := updN_num k (.inl hk) (szF four) a d
  have hnum := number_t b a four seen k (.inl hk) dA dc d
  rw [e1]
  subst hk
  refine Tri_in Tryz.func231 rfl (fun w0 S0 => ?_)
  dsimp only [pt, attP]
  repeat' (first | refine SX ?_ | (refine KC ?_; refine HO_call rfl rfl rfl rfl (hnum) rfl (srcsA) rfl rfl soA ?_; intro _ _; dsimp only [lca, lna]) | refine SB ?_ | fail)
  (refine SRt ?_; unfold RetQ; refine ⟨updN 3 a (ngetR d).1, e2, rfl, Keeps.refl⟩)
 ·obtain ⟨e1, e2⟩ := updN_num k (.inr (.inl hk)) (szF four) a d
  have hnum := number_t b a four seen k (.inr (.inl hk)) dA dc d
  rw [e1]
  subst hk
  refine Tri_in Tryz.func231 rfl (fun w0 S0 => ?_)
  dsimp only [pt, attP]
  repeat' (first | refine SX ?_ | (refine KC ?_; refine HO_call rfl rfl rfl rfl (hnum) rfl (srcsA) rfl rfl soA ?_; intro _ _; dsimp only [lca, lna]) | refine SB ?_ | fail)
  (refine SRt ?_; unfold RetQ; refine ⟨updN 4 a (ngetR d).1, e2, rfl, Keeps.refl⟩)
 ·obtain ⟨e1, e2⟩ := updN_num k (.inr (.inr hk)) (szF four) a d
  have hnum := number_t b a four seen k (.inr (.inr hk)) dA dc d
  rw [e1]
  subst hk
  refine Tri_in Tryz.func231 rfl (fun w0 S0 => ?_)
  dsimp only [pt, attP]
  repeat' (first | refine SX ?_ | (refine KC ?_; refine HO_call rfl rfl rfl rfl (hnum) rfl (srcsA) rfl rfl soA ?_; intro _ _; dsimp only [lca, lna]) | refine SB ?_ | fail)
  (refine SRt ?_; unfold RetQ; refine ⟨updN 5 a (ngetR d).1, e2, rfl, Keeps.refl⟩)
 ·have h0 := h8 rfl
  by_cases hb : d.length = 0 ∨ d.length % 4 ≠ 0 ∨ 128 < d.length
  ·have e : setG (szF four) a.pa 8 d = none := by unfold setG; rw [if_neg (by decide), if_neg (by decide), if_pos rfl, if_pos hb]
   rw [e]
   refine Tri_in Tryz.func231 rfl (fun w0 S0 => ?_)
   dsimp only [pt, attP]
   repeat' (first | refine SX ?_ | (refine KC ?_; refine HO_call rfl rfl rfl rfl (comms_bad b a four seen dA dc d hb) rfl (srcsA) rfl rfl soA ?_; intro _ _; dsimp only [lca, lna]) | refine SB ?_ | fail)
   (refine SRt ?_; unfold RetQ; refine ⟨a, (fun p hp => by cases hp), rfl, Keeps.refl⟩)
  ·have e : setG (szF four) a.pa 8 d = some { a.pa with comms := numsG 4 (d.length / 4) d } := by unfold setG; rw [if_neg (by decide), if_neg (by decide), if_pos rfl, if_neg hb]
   have hcm := comms_t b a four seen dA dc d hdc (d.length / 4) (by omega) (by omega) (by omega) (by rw [h0]; simp)
   rw [h0, List.nil_append] at hcm
   rw [e]
   obtain ⟨org, pA, pc, path, nxt, med, pref, cA, cc, comms⟩ := a
   dsimp only at h0 hcm
   subst h0
   refine Tri_in Tryz.func231 rfl (fun w0 S0 => ?_)
   dsimp only [pt, attP]
   repeat' (first | refine SX ?_ | (refine KC ?_; refine HO_mv 3 rfl rfl ?_; refine HO_mv 1 rfl rfl ?_; refine HO_call rfl rfl rfl rfl (hcm) rfl (srcsA) rfl rfl soA ?_; intro ⟨xA, xc⟩ hx; dsimp only [lca, lna]) | refine SB ?_ | fail)
   (refine SRt ?_; unfold RetQ; refine ⟨⟨org, pA, pc, path, nxt, med, pref, xA, xc, numsG 4 (d.length / 4) d⟩, (fun p hp => by injection hp), rfl, permA⟩)
theorem and128 : ∀ f, f < 256 → bAnd .i64 (f : Nat) 128 = if 128 ≤ f then 128 else 0 := by decide +kernel
theorem and224 : ∀ f, f < 256 → bAnd .i64 (f : Nat) 224 = ((f / 32 * 32 : Nat) : Int) := by decide +kernel
theorem and16 : ∀ f, f < 256 → bAnd .i64 (f : Nat) 16 = ((f / 16 % 2 * 16 : Nat) : Int) := by decide +kernel
theorem quo16 : ∀ f, f < 256 → bQuo .i64 ((f / 16 % 2 * 16 : Nat) : Int) 16 = ((f / 16 % 2 : Nat) : Int) := by decide +kernel
theorem shl32 : ∀ k, k < 9 → bShl .u32 1 k = ((2 ^ k : Nat) : Int) := by decide +kernel
theorem andBit : ∀ k, k < 9 → ∀ s, s < 512 → (bAnd .u32 (s : Nat) ((2 ^ k : Nat) : Int) = 0 ↔ s.testBit k = false) := by decide +kernel
theorem orBit : ∀ k, k < 9 → ∀ s, s < 512 → bOr .u32 (s : Nat) ((2 ^ k : Nat) : Int) = ((s ||| 2 ^ k : Nat) : Int) := by decide +kernel
theorem take_t (b : Nat) (a : AttS) (four : Bool) (seen : Nat) (f k : Nat) (hf : f < 256) (hk : k < 256) (dA : Option Addr) (dc : Nat) (d : List UInt8) (hd : d.length ≤ 100000) (hdc : d.length ≤ dc) (hok : OkS (szF four) ⟨a.pa, seen⟩) :
  Tri Tryz.prog 223 [pt b, .int .i64 f, .int .i64 k, .slice dA d.length dc] [arr bE 1 dA d] (attP b a four seen) (fun x : AttS × Nat => ∀ s', takeG (szF four) f k d ⟨a.pa, seen⟩ = some s' → x.1.pa = s'.a ∧ x.2 = s'.seen)
   (fun _ => .bool (takeG (szF four) f k d ⟨a.pa, seen⟩).isSome) (fun x => attP b x.1 four x.2) := by
 have h128 := and128 f hf
 have h224 := and224 f hf
 by_cases hw : flagsI k < 0
 ·have e : takeG (szF four) f k d ⟨a.pa, seen⟩ = if 128 ≤ f then some ⟨a.pa, seen⟩ else none := by unfold takeG; rw [if_pos hw]
  rw [e]
  by_cases h1 : 128 ≤ f
  ·rw [if_pos h1] at h128 ⊢
   refine Tri_in Tryz.func223 rfl (fun w0 S0 => ?_)
   dsimp only [pt, attP]
   repeat' (first | refine SD ?_ | (with_reducible refine HO_rw (congrArg (Value.int .i64) h128) ?_) | (refine KC ?_; refine HO_callq rfl rfl rfl rfl (flags_t k) (fun _ _ => rfl) (trivial) rfl rfl sqA ?_) | refine SB ?_ | fail)
   (refine SRt ?_; unfold RetQ; refine ⟨(a, seen), (fun s hs => by cases hs; exact ⟨rfl, rfl⟩), rfl, Keeps.refl⟩)
  ·rw [if_neg h1] at h128 ⊢
   refine Tri_in Tryz.func223 rfl (fun w0 S0 => ?_)
   dsimp only [pt, attP]
   repeat' (first | refine SD ?_ | (with_reducible refine HO_rw (congrArg (Value.int .i64) h128) ?_) | (refine KC ?_; refine HO_callq rfl rfl rfl rfl (flags_t k) (fun _ _ => rfl) (trivial) rfl rfl sqA ?_) | refine SB ?_ | fail)
   (refine SRt ?_; unfold RetQ; refine ⟨(a, seen), (fun s hs => by cases hs), rfl, Keeps.refl⟩)
 have hk6 := flags_le hw
 have hsh := shl32 k (by omega)
 have hand := andBit k (by omega) seen hok.sl
 have hor := orBit k (by omega) seen hok.sl
 cases hbit : seen.testBit k
 ·have hz := hand.2 hbit
  by_cases hfk : ((f / 32 * 32 : Nat) : Int) = flagsI k
  ·have e : takeG (szF four) f k d ⟨a.pa, seen⟩ = match setG (szF four) a.pa k d with
     | none => none
     | some p => some ⟨p, seen ||| 2 ^ k⟩ := by
    unfold takeG
    rw [if_neg hw, if_neg (by simp [hbit]), if_pos hfk]
    cases setG (szF four) a.pa k d <;> rfl
   have hset := set_t b a four ((seen ||| 2 ^ k : Nat) : Int) k hk6 dA dc d hd hdc (fun h => by
    have := hok.b2 (by rw [← h]; exact hbit)
    simpa [AttS.pa, spl] using this) (fun h => by
    have := hok.b8 (by rw [← h]; exact hbit)
    simpa [AttS.pa] using this)
   obtain ⟨res, hres⟩ : ∃ res, setG (szF four) a.pa k d = res := ⟨_, rfl⟩
   rw [hres] at hset e
   have e2 : (takeG (szF four) f k d ⟨a.pa, seen⟩).isSome = res.isSome := by rw [e]; cases res <;> rfl
   rw [e2]
   refine Tri_in Tryz.func223 rfl (fun w0 S0 => ?_)
   dsimp only [pt, attP]
   repeat' (first | refine SD ?_ | (with_reducible refine HO_rw (congrArg (Value.int .i64) h224) ?_) | (with_reducible refine HO_rw (congrArg (Value.int .u32) hsh) ?_) | (with_reducible refine HO_rw (congrArg (Value.int .u32) hor) ?_) | (refine KC ?_; refine HO_callq rfl rfl rfl rfl (flags_t k) (fun _ _ => rfl) (trivial) rfl rfl sqA ?_) | (refine KC ?_; refine HO_call rfl rfl rfl rfl (hset) rfl (srcsA) rfl rfl soA ?_; intro a' ha'; dsimp only [attP, lca, lna]) | refine SB ?_ | fail)
   (refine SRt ?_; unfold RetQ; refine ⟨(a', seen ||| 2 ^ k), (fun s hs => by
    rw [e] at hs
    cases res with
    | none => cases hs
    | some q => cases hs; exact ⟨ha' q rfl, rfl⟩), rfl, Keeps.refl⟩)
  ·have e : takeG (szF four) f k d ⟨a.pa, seen⟩ = none := by
    unfold takeG
    rw [if_neg hw, if_neg (by simp [hbit]), if_neg hfk]
   rw [e]
   refine Tri_in Tryz.func223 rfl (fun w0 S0 => ?_)
   dsimp only [pt, attP]
   repeat' (first | refine SD ?_ | (with_reducible refine HO_rw (congrArg (Value.int .i64) h224) ?_) | (with_reducible refine HO_rw (congrArg (Value.int .u32) hsh) ?_) | (with_reducible refine HO_rw (congrArg (Value.int .u32) hor) ?_) | (refine KC ?_; refine HO_callq rfl rfl rfl rfl (flags_t k) (fun _ _ => rfl) (trivial) rfl rfl sqA ?_) | refine SB ?_ | fail)
   (refine SRt ?_; unfold RetQ; refine ⟨(a, seen ||| 2 ^ k), (fun s hs => by cases hs), rfl, Keeps.refl⟩)
 ·have hnz : ¬ bAnd .u32 (seen : Int) ((2 ^ k : Nat) : Int) = 0 := fun h => by rw [hand.1 h] at hbit; cases hbit
  have e : takeG (szF four) f k d ⟨a.pa, seen⟩ = some ⟨a.pa, seen⟩ := by
   unfold takeG
   rw [if_neg hw, if_pos hbit]
  rw [e]
  refine Tri_in Tryz.func223 rfl (fun w0 S0 => ?_)
  dsimp only [pt, attP]
  repeat' (first | refine SD ?_ | (with_reducible refine HO_rw (congrArg (Value.int .i64) h224) ?_) | (with_reducible refine HO_rw (congrArg (Value.int .u32) hsh) ?_) | (with_reducible refine HO_rw (congrArg (Value.int .u32) hor) ?_) | (refine KC ?_; refine HO_callq rfl rfl rfl rfl (flags_t k) (fun _ _ => rfl) (trivial) rfl rfl sqA ?_) | refine SB ?_ | fail)
  (refine SRt ?_; unfold RetQ; refine ⟨(a, seen), (fun s hs => by cases hs; exact ⟨rfl, rfl⟩), rfl, Keeps.refl⟩)
theorem rdB_short {l : List UInt8} {q : Nat} (h : l.length < q) : rdB false l (q : Int) = ([], true, l) := by
 unfold rdB
 rw [if_pos (.inr (.inr (by omega)))]
theorem rdB_long {l : List UInt8} {q : Nat} (h : q ≤ l.length) : rdB false l (q : Int) = (l.take q, false, l.drop q) := by
 unfold rdB
 rw [if_neg (by simp; omega), Int.toNat_natCast]
theorem rdB_bad (l : List UInt8) (q : Int) : rdB true l q = ([], true, l) := by
 unfold rdB
 rw [if_pos (.inl rfl)]
theorem numS_t (b : Nat) (A : Option Addr) (c : Nat) (l : List UInt8) (q : Nat) (hq : 1 ≤ q ∧ q ≤ 4) (h : l.length < q) (hc : l.length ≤ c) :
  Tri Tryz.prog 140 [pt b, .int .i64 q] [] (rdP b A c false l) (fun x : OA => l.length ≤ x.2) (fun _ => .int .i64 0) (fun x => rdP b x.1 x.2 true l) := by
 have := nnum_t b A c false l q (by omega) (by omega) hc
 rw [rdB_short h] at this
 exact this
theorem numL_t (b : Nat) (A : Option Addr) (c : Nat) (l : List UInt8) (q : Nat) (hq : 1 ≤ q ∧ q ≤ 4) (h : q ≤ l.length) (hb : l.length ≤ 100000) (hc : l.length ≤ c) :
  Tri Tryz.prog 140 [pt b, .int .i64 q] [] (rdP b A c false l) (fun x : OA => (l.drop q).length ≤ x.2) (fun _ => .int .i64 (ge (l.take q))) (fun x => rdP b x.1 x.2 false (l.drop q)) := by
 have := nnum_t b A c false l q (by omega) (by omega) hc
 have hg : (ngetR (l.take q)).1 = (ge (l.take q) : Int) := by
  have : (l.take q).length = q := by simp; omega
  unfold ngetR
  rw [if_neg (by omega)]
 rw [rdB_long h, hg] at this
 exact this
theorem numB_t (b : Nat) (A : Option Addr) (c : Nat) (l : List UInt8) (q : Nat) (hq : 1 ≤ q ∧ q ≤ 4) (hb : l.length ≤ 100000) (hc : l.length ≤ c) :
  Tri Tryz.prog 140 [pt b, .int .i64 q] [] (rdP b A c true l) (fun x : OA => l.length ≤ x.2) (fun _ => .int .i64 0) (fun x => rdP b x.1 x.2 true l) := by
 have := nnum_t b A c true l q (by omega) (by omega) hc
 rw [rdB_bad] at this
 exact this
theorem bytesB_t (b : Nat) (A : Option Addr) (c : Nat) (l : List UInt8) (n : Int) (hb : l.length ≤ 100000) (hc : l.length ≤ c) :
  Tri Tryz.prog 176 [pt b, .int .i64 n] [] (rdP b A c true l) (fun x : OA × OA => 0 ≤ x.1.2 ∧ l.length ≤ x.2.2) (fun x => .slice x.1.1 0 x.1.2) (fun x => ownB x.1 [] :: rdP b x.2.1 x.2.2 true l) := by
 have := nbytes_t b A c true l n (by omega) hc
 rw [rdB_bad] at this
 exact this
theorem bytesS_t (b : Nat) (A : Option Addr) (c : Nat) (l : List UInt8) (n : Nat) (h : l.length < n) (hb : l.length ≤ 100000) (hc : l.length ≤ c) :
  Tri Tryz.prog 176 [pt b, .int .i64 n] [] (rdP b A c false l) (fun x : OA × OA => 0 ≤ x.1.2 ∧ l.length ≤ x.2.2) (fun x => .slice x.1.1 0 x.1.2) (fun x => ownB x.1 [] :: rdP b x.2.1 x.2.2 true l) := by
 have := nbytes_t b A c false l n (by omega) hc
 rw [rdB_short h] at this
 exact this
theorem bytesL_t (b : Nat) (A : Option Addr) (c : Nat) (l : List UInt8) (n : Nat) (h : n ≤ l.length) (hb : l.length ≤ 100000) (hc : l.length ≤ c) :
  Tri Tryz.prog 176 [pt b, .int .i64 n] [] (rdP b A c false l) (fun x : OA × OA => (l.take n).length ≤ x.1.2 ∧ (l.drop n).length ≤ x.2.2) (fun x => .slice x.1.1 (l.take n).length x.1.2) (fun x => ownB x.1 (l.take n) :: rdP b x.2.1 x.2.2 false (l.drop n)) := by
 have := nbytes_t b A c false l n (by omega) hc
 rw [rdB_long h] at this
 exact this
theorem hdG_short {f k : UInt8} {r : List UInt8} (h : ¬ (1 + f.toNat / 16 % 2 ≤ r.length ∧ ge (r.take (1 + f.toNat / 16 % 2)) ≤ r.length - (1 + f.toNat / 16 % 2))) : hdG (f :: k :: r) = none := by
 simp only [hdG]
 rw [if_neg h]
theorem hdG_long {f k : UInt8} {r : List UInt8} (h : 1 + f.toNat / 16 % 2 ≤ r.length ∧ ge (r.take (1 + f.toNat / 16 % 2)) ≤ r.length - (1 + f.toNat / 16 % 2)) :
  hdG (f :: k :: r) = some (f.toNat, k.toNat, (r.drop (1 + f.toNat / 16 % 2)).take (ge (r.take (1 + f.toNat / 16 % 2))), (r.drop (1 + f.toNat / 16 % 2)).drop (ge (r.take (1 + f.toNat / 16 % 2)))) := by
 simp only [hdG]
 rw [if_pos h]
structure AlI where
 rA : Option Addr
 rc : Nat
 l : List UInt8
 a : AttS
 seen : Nat
set_option maxRecDepth 100000 in
theorem all_t (b : Nat) (a : AttS) (four : Bool) (seen : Nat) (dA : Option Addr) (dc : Nat) (d : List UInt8) (hd : d.length ≤ 100000) (hok : OkS (szF four) ⟨a.pa, seen⟩) :
  Tri Tryz.prog 205 [pt b, .slice dA d.length dc] [arr bE 1 dA d] (attP b a four seen) (fun x : AttS × Nat => ∀ s', allR (szF four) ⟨a.pa, seen⟩ d = some s' → x.1.pa = s'.a ∧ x.2 = s'.seen)
   (fun _ => .bool (allR (szF four) ⟨a.pa, seen⟩ d).isSome) (fun x => attP b x.1 four x.2) := by
 obtain ⟨res, hres⟩ : ∃ res, allR (szF four) ⟨a.pa, seen⟩ d = res := ⟨_, rfl⟩
 rw [hres]
 refine Tri_in Tryz.func205 rfl (fun w0 S0 => ?_)
 dsimp only [pt, attP]
 repeat' (first | refine SX ?_ | (refine KC ?_; refine HO_call rfl rfl rfl rfl (nfrom_t dA d.length dc d rfl (by omega)) rfl (AllSrc.at_ 0 rfl trivial) rfl rfl soA ?_; intro ⟨br, ⟨rA, rc⟩⟩ hx; dsimp only [rdP, pt, lca, lna]) | refine SB ?_ | fail)
 refine HC_loop (α := AlI) (fun x => x.l.length ≤ d.length ∧ x.l.length ≤ x.rc ∧ OkS (szF four) ⟨x.a.pa, x.seen⟩ ∧ allR (szF four) ⟨x.a.pa, x.seen⟩ x.l = res) (fun _ => [(5, pt br), (0, pt b)])
  (fun x => rdP br x.rA x.rc false x.l ++ attP b x.a four x.seen) (fun x => x.l.length) rfl ⟨rA, rc, d, a, seen⟩ ⟨Nat.le_refl _, hx, hok, hres⟩ ⟨rfl, rfl, trivial⟩ rfl ?_
 clear hok hres
 intro ⟨rA, rc, l, a, seen⟩ ⟨hld, hlc, hok, hres⟩
 dsimp only [rdP, attP, pt, lca, lna] at hld hlc hok hres ⊢
 rcases l with _ | ⟨f, l1⟩
 ·rw [allR_nil] at hres
  subst hres
  repeat' (first | refine SX ?_ | (refine KC ?_; refine HO_callq rfl rfl rfl rfl (nleftF_t _ _ _ _) (fun _ _ => rfl) (srcsA) rfl rfl sqA ?_) | refine SB ?_ | fail)
  (refine SRt ?_; unfold RetQ; refine ⟨(a, seen), (fun s hs => by cases hs; exact ⟨rfl, rfl⟩), rfl, permA⟩)
 have hf := f.toNat_lt
 simp only [List.length_cons] at hld hlc
 have hlp : 0 < (((f :: l1).length : Nat) : Int) := by simp only [List.length_cons]; omega
 rw [allR_cons _ _ _ (by simp)] at hres
 have h16 := and16 f.toNat hf
 have hq16 := quo16 f.toNat hf
 have hq : 1 ≤ 1 + f.toNat / 16 % 2 ∧ 1 + f.toNat / 16 % 2 ≤ 4 := by omega
 have e16 : (1 + ((f.toNat / 16 % 2 : Nat) : Int)) = ((1 + f.toNat / 16 % 2 : Nat) : Int) := by omega
 rcases l1 with _ | ⟨k, l2⟩
 ·have hres : none = res := hres
  subst hres
  repeat' (first | refine SX ?_ | (with_reducible refine HO_rw (congrArg (Value.int .i64) h16) ?_) | (with_reducible refine HO_rw (congrArg (Value.int .i64) hq16) ?_) | (with_reducible refine HO_rw (congrArg (Value.int .i64) e16) ?_) | (refine KC ?_; refine HO_callq rfl rfl rfl rfl (nleftF_t _ _ _ _) (fun _ _ => rfl) (srcsA) rfl rfl sqA ?_) | (refine KC ?_; refine HO_callq rfl rfl rfl rfl (nbad_t _ _ _ _ _) (fun _ _ => rfl) (srcsA) rfl rfl sqA ?_) | (refine KC ?_; refine HO_call rfl rfl rfl rfl (num1_t br rA rc f [] (by simp) (by simpa using hlc)) rfl (trivial) rfl rfl soA ?_; intro ⟨xA, xc⟩ hx1; dsimp only [rdP, pt, lca, lna]) | (refine KC ?_; refine HO_call rfl rfl rfl rfl (num0_t br xA xc) rfl (trivial) rfl rfl soA ?_; intro ⟨yA, yc⟩ hy1; dsimp only [rdP, pt, lca, lna]) | (refine KC ?_; refine HO_call rfl rfl rfl rfl (numB_t br yA yc [] _ hq (by simp) hy1) rfl (trivial) rfl rfl soA ?_; intro ⟨zA, zc⟩ hz1; dsimp only [rdP, pt, lca, lna]) | (refine KC ?_; refine HO_call rfl rfl rfl rfl (bytesB_t br zA zc [] 0 (by simp) hz1) rfl (trivial) rfl rfl soA ?_; intro ⟨⟨uA, uc⟩, ⟨vA, vc⟩⟩ hu1; dsimp only [rdP, pt, lca, lna]) | refine SB ?_ | fail)
  (refine SRt ?_; unfold RetQ; refine ⟨(a, seen), (fun s hs => by cases hs), rfl, permA⟩)
 have hk := k.toNat_lt
 simp only [List.length_cons] at hld hlc
 by_cases hs : 1 + f.toNat / 16 % 2 ≤ l2.length ∧ ge (l2.take (1 + f.toNat / 16 % 2)) ≤ l2.length - (1 + f.toNat / 16 % 2)
 rotate_left
 ·rw [hdG_short hs] at hres
  have hres : none = res := hres
  subst hres
  obtain ⟨q, hqe⟩ : ∃ q, 1 + f.toNat / 16 % 2 = q := ⟨_, rfl⟩
  rw [hqe] at hs hq e16
  by_cases hs1 : q ≤ l2.length
  ·have hs2 : (l2.drop q).length < ge (l2.take q) := by
    rw [List.length_drop]
    exact Nat.lt_of_not_le fun h => hs ⟨hs1, h⟩
   have hd3 : (l2.drop q).length ≤ 100000 := by rw [List.length_drop]; omega
   repeat' (first | refine SX ?_ | (with_reducible refine HO_rw (congrArg (Value.int .i64) h16) ?_) | (with_reducible refine HO_rw (congrArg (Value.int .i64) hq16) ?_) | (with_reducible refine HO_rw (congrArg (Value.int .i64) e16) ?_) | (refine KC ?_; refine HO_callq rfl rfl rfl rfl (nleftF_t _ _ _ _) (fun _ _ => rfl) (srcsA) rfl rfl sqA ?_) | (refine KC ?_; refine HO_callq rfl rfl rfl rfl (nbad_t _ _ _ _ _) (fun _ _ => rfl) (srcsA) rfl rfl sqA ?_) | (refine KC ?_; refine HO_call rfl rfl rfl rfl (num1_t br rA rc f (k :: l2) (by simp only [List.length_cons]; omega) (by simp only [List.length_cons]; omega)) rfl (trivial) rfl rfl soA ?_; intro ⟨xA, xc⟩ hx1; dsimp only [rdP, pt, lca, lna]) | (refine KC ?_; refine HO_call rfl rfl rfl rfl (num1_t br xA xc k l2 (by omega) hx1) rfl (trivial) rfl rfl soA ?_; intro ⟨yA, yc⟩ hy1; dsimp only [rdP, pt, lca, lna]) | (refine KC ?_; refine HO_call rfl rfl rfl rfl (numL_t br yA yc l2 q hq hs1 (by omega) hy1) rfl (trivial) rfl rfl soA ?_; intro ⟨zA, zc⟩ hz1; dsimp only [rdP, pt, lca, lna]) | (refine KC ?_; refine HO_call rfl rfl rfl rfl (bytesS_t br zA zc (l2.drop q) _ hs2 hd3 hz1) rfl (trivial) rfl rfl soA ?_; intro ⟨⟨uA, uc⟩, ⟨vA, vc⟩⟩ hu1; dsimp only [rdP, pt, lca, lna]) | refine SB ?_ | fail)
   (refine SRt ?_; unfold RetQ; refine ⟨(a, seen), (fun s hs => by cases hs), rfl, permA⟩)
  ·repeat' (first | refine SX ?_ | (with_reducible refine HO_rw (congrArg (Value.int .i64) h16) ?_) | (with_reducible refine HO_rw (congrArg (Value.int .i64) hq16) ?_) | (with_reducible refine HO_rw (congrArg (Value.int .i64) e16) ?_) | (refine KC ?_; refine HO_callq rfl rfl rfl rfl (nleftF_t _ _ _ _) (fun _ _ => rfl) (srcsA) rfl rfl sqA ?_) | (refine KC ?_; refine HO_callq rfl rfl rfl rfl (nbad_t _ _ _ _ _) (fun _ _ => rfl) (srcsA) rfl rfl sqA ?_) | (refine KC ?_; refine HO_call rfl rfl rfl rfl (num1_t br rA rc f (k :: l2) (by simp only [List.length_cons]; omega) (by simp only [List.length_cons]; omega)) rfl (trivial) rfl rfl soA ?_; intro ⟨xA, xc⟩ hx1; dsimp only [rdP, pt, lca, lna]) | (refine KC ?_; refine HO_call rfl rfl rfl rfl (num1_t br xA xc k l2 (by omega) hx1) rfl (trivial) rfl rfl soA ?_; intro ⟨yA, yc⟩ hy1; dsimp only [rdP, pt, lca, lna]) | (refine KC ?_; refine HO_call rfl rfl rfl rfl (numS_t br yA yc l2 q hq (by omega) hy1) rfl (trivial) rfl rfl soA ?_; intro ⟨zA, zc⟩ hz1; dsimp only [rdP, pt, lca, lna]) | (refine KC ?_; refine HO_call rfl rfl rfl rfl (bytesB_t br zA zc l2 0 (by omega) hz1) rfl (trivial) rfl rfl soA ?_; intro ⟨⟨uA, uc⟩, ⟨vA, vc⟩⟩ hu1; dsimp only [rdP, pt, lca, lna]) | refine SB ?_ | fail)
   (refine SRt ?_; unfold RetQ; refine ⟨(a, seen), (fun s hs => by cases hs), rfl, permA⟩)
 rw [hdG_long hs] at hres
 obtain ⟨q, hqe⟩ : ∃ q, 1 + f.toNat / 16 % 2 = q := ⟨_, rfl⟩
 rw [hqe] at hs hq e16 hres
 obtain ⟨hs1, hs2⟩ := hs
 obtain ⟨n, hn⟩ : ∃ n, ge (l2.take q) = n := ⟨_, rfl⟩
 have hnum := fun A c hc => numL_t br A c l2 q hq hs1 (by omega) hc
 rw [hn] at hs2 hres hnum
 have hd3 : (l2.drop q).length ≤ 100000 := by rw [List.length_drop]; omega
 have hn3 : n ≤ (l2.drop q).length := by rw [List.length_drop]; omega
 obtain ⟨dt, hdt⟩ : ∃ dt, (l2.drop q).take n = dt := ⟨_, rfl⟩
 obtain ⟨l4, hl4⟩ : ∃ l4, (l2.drop q).drop n = l4 := ⟨_, rfl⟩
 have hdl : dt.length ≤ 100000 := by rw [← hdt, List.length_take]; omega
 have hll4 : l4.length ≤ l2.length := by rw [← hl4, List.length_drop, List.length_drop]; omega
 have hbyt := fun A c hc => bytesL_t br A c (l2.drop q) n hn3 hd3 hc
 rw [hdt, hl4] at hres hbyt
 have htk := fun A c hc => take_t b a four seen f.toNat k.toNat hf hk A c dt hdl hc hok
 obtain ⟨tk, htk0⟩ : ∃ tk, takeG (szF four) f.toNat k.toNat dt ⟨a.pa, seen⟩ = tk := ⟨_, rfl⟩
 simp only [htk0] at hres htk
 cases tk with
 | none =>
  have hres : none = res := hres
  subst hres
  repeat' (first | refine SX ?_ | (with_reducible refine HO_rw (congrArg (Value.int .i64) h16) ?_) | (with_reducible refine HO_rw (congrArg (Value.int .i64) hq16) ?_) | (with_reducible refine HO_rw (congrArg (Value.int .i64) e16) ?_) | (refine KC ?_; refine HO_callq rfl rfl rfl rfl (nleftF_t _ _ _ _) (fun _ _ => rfl) (srcsA) rfl rfl sqA ?_) | (refine KC ?_; refine HO_callq rfl rfl rfl rfl (nbad_t _ _ _ _ _) (fun _ _ => rfl) (srcsA) rfl rfl sqA ?_) | (refine KC ?_; refine HO_call rfl rfl rfl rfl (num1_t br rA rc f (k :: l2) (by simp only [List.length_cons]; omega) (by simp only [List.length_cons]; omega)) rfl (trivial) rfl rfl soA ?_; intro ⟨xA, xc⟩ hx1; dsimp only [rdP, pt, lca, lna]) | (refine KC ?_; refine HO_call rfl rfl rfl rfl (num1_t br xA xc k l2 (by omega) hx1) rfl (trivial) rfl rfl soA ?_; intro ⟨yA, yc⟩ hy1; dsimp only [rdP, pt, lca, lna]) | (refine KC ?_; refine HO_call rfl rfl rfl rfl (hnum yA yc hy1) rfl (trivial) rfl rfl soA ?_; intro ⟨zA, zc⟩ hz1; dsimp only [rdP, pt, lca, lna]) | (refine KC ?_; refine HO_call rfl rfl rfl rfl (hbyt zA zc hz1) rfl (trivial) rfl rfl soA ?_; intro ⟨⟨uA, uc⟩, ⟨vA, vc⟩⟩ hu1; dsimp only [rdP, pt, lca, lna]) | (refine KC ?_; refine HO_mv 6 rfl rfl ?_; refine HO_mv 6 rfl rfl ?_; refine HO_mv 6 rfl rfl ?_; refine HO_mv 6 rfl rfl ?_; refine HO_call rfl rfl rfl rfl (htk uA uc hu1.1) rfl (srcsA) rfl rfl soA ?_; intro ⟨a', seen'⟩ ha'; dsimp only [attP, lca, lna]) | refine SB ?_ | fail)
  (refine SRt ?_; unfold RetQ; refine ⟨(a', seen'), (fun s hs => by cases hs), rfl, permA⟩)
 | some s' =>
  have hres : allR (szF four) s' l4 = res := hres
  have hok' := takeG_ok htk0 hok
  repeat' (first | refine SX ?_ | (with_reducible refine HO_rw (congrArg (Value.int .i64) h16) ?_) | (with_reducible refine HO_rw (congrArg (Value.int .i64) hq16) ?_) | (with_reducible refine HO_rw (congrArg (Value.int .i64) e16) ?_) | (refine KC ?_; refine HO_callq rfl rfl rfl rfl (nleftF_t _ _ _ _) (fun _ _ => rfl) (srcsA) rfl rfl sqA ?_) | (refine KC ?_; refine HO_callq rfl rfl rfl rfl (nbad_t _ _ _ _ _) (fun _ _ => rfl) (srcsA) rfl rfl sqA ?_) | (refine KC ?_; refine HO_call rfl rfl rfl rfl (num1_t br rA rc f (k :: l2) (by simp only [List.length_cons]; omega) (by simp only [List.length_cons]; omega)) rfl (trivial) rfl rfl soA ?_; intro ⟨xA, xc⟩ hx1; dsimp only [rdP, pt, lca, lna]) | (refine KC ?_; refine HO_call rfl rfl rfl rfl (num1_t br xA xc k l2 (by omega) hx1) rfl (trivial) rfl rfl soA ?_; intro ⟨yA, yc⟩ hy1; dsimp only [rdP, pt, lca, lna]) | (refine KC ?_; refine HO_call rfl rfl rfl rfl (hnum yA yc hy1) rfl (trivial) rfl rfl soA ?_; intro ⟨zA, zc⟩ hz1; dsimp only [rdP, pt, lca, lna]) | (refine KC ?_; refine HO_call rfl rfl rfl rfl (hbyt zA zc hz1) rfl (trivial) rfl rfl soA ?_; intro ⟨⟨uA, uc⟩, ⟨vA, vc⟩⟩ hu1; dsimp only [rdP, pt, lca, lna]) | (refine KC ?_; refine HO_mv 6 rfl rfl ?_; refine HO_mv 6 rfl rfl ?_; refine HO_mv 6 rfl rfl ?_; refine HO_mv 6 rfl rfl ?_; refine HO_call rfl rfl rfl rfl (htk uA uc hu1.1) rfl (srcsA) rfl rfl soA ?_; intro ⟨a', seen'⟩ ha'; dsimp only [attP, lca, lna]) | refine SB ?_ | fail)
  obtain ⟨e1, e2⟩ := ha' s' rfl
  dsimp only at e1 e2
  refine HX_keeps (rw' := rdP br vA vc false l4 ++ attP b a' four seen') permA ?_
  have es : (⟨a'.pa, seen'⟩ : GS) = s' := by rw [e1, e2]
  exact HX_at ⟨vA, vc, l4, a', seen'⟩ ⟨⟨by simp only; omega, hu1.2, by simp only [es]; exact hok', by simp only [es]; exact hres⟩, by simp only [List.length_cons]; omega⟩ ⟨rfl, rfl, trivial⟩ rfl
end Go.Proofs.YteeogabkkblkgaaGreatDoor
