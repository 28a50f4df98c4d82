/- Part of a proof of many texts: what the theorem at its end leans on. -/
import Derived.Test.YteeogabkkblkgaaGreatDoorVAttRC
import Derived.Test.YteeogabkkblkgaaGreatDoorVAttM
import Derived.Test.YteeogabkkblkgaaGreatDoorVAttQ
namespace Go.Proofs.YteeogabkkblkgaaGreatDoor
set_option maxHeartbeats 1000000000
set_option linter.unusedVariables false
set_option linter.unusedSimpArgs false
open Go.RowKit
attribute [local irreducible] HC HX HO Tri eP adr
theorem rnumS_t (b : Nat) (A : Option Addr) (c : Nat) (l : List UInt8) (q : Nat) (hq : 1 ≤ q ∧ q ≤ 4) (h : l.length < q) (hc : l.length ≤ c) :
  Tri Tryz.prog 162 [pt b, .int .i64 q] [] (rqP b A c false l) (fun x : OA => l.length ≤ x.2) (fun _ => .int .i64 0) (fun x => rqP b x.1 x.2 true l) := by
 have := rnum_t b A c false l q (by omega) (by omega) hc
 rw [rdB_short h] at this
 exact this
theorem rnumL_t (b : Nat) (A : Option Addr) (c : Nat) (l : List UInt8) (q : Nat) (hq : 1 ≤ q ∧ q ≤ 4) (h : q ≤ l.length) (hb : l.length ≤ 100000) (hc : l.length ≤ c) :
  Tri Tryz.prog 162 [pt b, .int .i64 q] [] (rqP b A c false l) (fun x : OA => (l.drop q).length ≤ x.2) (fun _ => .int .i64 (ge (l.take q))) (fun x => rqP b x.1 x.2 false (l.drop q)) := by
 have := rnum_t b A c false l q (by omega) (by omega) hc
 rw [rdB_long h] at this
 exact this
theorem rnumB_t (b : Nat) (A : Option Addr) (c : Nat) (l : List UInt8) (q : Nat) (hq : 1 ≤ q ∧ q ≤ 4) (hb : l.length ≤ 100000) (hc : l.length ≤ c) :
  Tri Tryz.prog 162 [pt b, .int .i64 q] [] (rqP b A c true l) (fun x : OA => l.length ≤ x.2) (fun _ => .int .i64 0) (fun x => rqP b x.1 x.2 true l) := by
 have := rnum_t b A c true l q (by omega) (by omega) hc
 rw [rdB_bad] at this
 exact this
theorem rbytesB_t (b : Nat) (A : Option Addr) (c : Nat) (l : List UInt8) (n : Int) (hb : l.length ≤ 100000) (hc : l.length ≤ c) :
  Tri Tryz.prog 163 [pt b, .int .i64 n] [] (rqP b A c true l) (fun x : OA × OA => 0 ≤ x.1.2 ∧ l.length ≤ x.2.2) (fun x => .slice x.1.1 0 x.1.2) (fun x => ownB x.1 [] :: rqP b x.2.1 x.2.2 true l) := by
 have := rbytes_t b A c true l n (by omega) hc
 rw [rdB_bad] at this
 exact this
theorem rbytesS_t (b : Nat) (A : Option Addr) (c : Nat) (l : List UInt8) (n : Nat) (h : l.length < n) (hb : l.length ≤ 100000) (hc : l.length ≤ c) :
  Tri Tryz.prog 163 [pt b, .int .i64 n] [] (rqP b A c false l) (fun x : OA × OA => 0 ≤ x.1.2 ∧ l.length ≤ x.2.2) (fun x => .slice x.1.1 0 x.1.2) (fun x => ownB x.1 [] :: rqP b x.2.1 x.2.2 true l) := by
 have := rbytes_t b A c false l n (by omega) hc
 rw [rdB_short h] at this
 exact this
theorem rbytesL_t (b : Nat) (A : Option Addr) (c : Nat) (l : List UInt8) (n : Nat) (h : n ≤ l.length) (hb : l.length ≤ 100000) (hc : l.length ≤ c) :
  Tri Tryz.prog 163 [pt b, .int .i64 n] [] (rqP b A c false l) (fun x : OA × OA => (l.take n).length ≤ x.1.2 ∧ (l.drop n).length ≤ x.2.2) (fun x => .slice x.1.1 (l.take n).length x.1.2) (fun x => ownB x.1 (l.take n) :: rqP b x.2.1 x.2.2 false (l.drop n)) := by
 have := rbytes_t b A c false l n (by omega) hc
 rw [rdB_long h] at this
 exact this
theorem rquo16 : ∀ f, f < 256 → bQuo .i64 (f : Nat) 16 = ((f / 16 : Nat) : Int) := by decide +kernel
theorem rquo32 : ∀ f, f < 256 → bQuo .i64 (f : Nat) 32 = ((f / 32 : Nat) : Int) := by decide +kernel
theorem rrem2 (n : Nat) : bRem ((n / 16 : Nat) : Int) 2 = ((n / 16 % 2 : Nat) : Int) := by
 unfold bRem
 rw [Int.tmod_eq_emod_of_nonneg (by omega)]
 rfl
def bL (b : Bool) : List Value := [.bool b]
instance : EncOk bL 1 := ⟨fun _ => ⟨rfl, rfl⟩⟩
@[irreducible] def bitsL (s : Nat) : List Bool := (List.range 256).map s.testBit
theorem bits_len (s : Nat) : (bitsL s).length = 256 := by unfold bitsL; simp
theorem bits_at (s k : Nat) (h : k < 256) : (bitsL s)[k]? = some (s.testBit k) := by
 unfold bitsL
 rw [List.getElem?_map, List.getElem?_range h]
 rfl
theorem bits_set (s k : Nat) (h : k < 256) : (List.map bL (bitsL s)).set k [Value.bool true] = List.map bL (bitsL (s ||| 2 ^ k)) := by
 refine List.ext_getElem? fun i => ?_
 rw [List.getElem?_set, List.getElem?_map, List.length_map, bits_len]
 by_cases hi : k = i
 ·subst hi
  rw [if_pos rfl, if_pos h, List.getElem?_map, bits_at _ _ h, Nat.testBit_or, Nat.testBit_two_pow_self, Bool.or_true]
  rfl
 ·rw [if_neg hi, List.getElem?_map]
  by_cases h2 : i < 256
  ·rw [bits_at _ _ h2, bits_at _ _ h2, Nat.testBit_or, Nat.testBit_two_pow_of_ne hi, Bool.or_false]
  ·rw [List.getElem?_eq_none (by rw [bits_len]; omega), List.getElem?_eq_none (by rw [bits_len]; omega)]
theorem bits_zero : List.replicate 256 [Value.bool false] = List.map bL (bitsL 0) := by
 refine List.ext_getElem? fun i => ?_
 rw [List.getElem?_map, List.getElem?_replicate]
 by_cases h2 : i < 256
 ·rw [bits_at _ _ h2, if_pos h2, Nat.zero_testBit]
  rfl
 ·rw [List.getElem?_eq_none (by rw [bits_len]; omega), if_neg h2]
  rfl
theorem HC_know {P : Program} {N : Nat} {w0 : World} {S0 : Foot} {c : Code} {env : Env} {ro rw : List SL} {C : Prop} {Q : Exit → Act → World → Prop} (hC : ∀ w, RoOk (ro ++ rw) w → C) (h : C → HC P N w0 S0 c env ro rw Q) : HC P N w0 S0 c env ro rw Q := by
 unfold HC at h ⊢
 exact fun a S w ha hf => h (hC w hf.roOk) a S w ha hf
def finG : Option GS → PA × Int
 | none => (pz, 3)
 | some s => if mustB s.seen = true then (s.a, 1) else (pz, 2)
set_option maxRecDepth 100000 in
theorem rget5_t (four : Bool) (dA : Option Addr) (dc : Nat) (d : List UInt8) (hd : d.length ≤ 100000) :
  Tri Tryz.prog 166 [.slice dA d.length dc, .bool four] [arr bE 1 dA d] [] (fun a : AttS => a.pa = (getG (szF four) d).1) (fun a => .tuple #[.agg a.e.toArray, .int .i64 (getG (szF four) d).2]) (fun a => a.ro) := by
 obtain ⟨res, hres⟩ : ∃ res, allR (szF four) ⟨a0.pa, 0⟩ d = res := ⟨_, rfl⟩
 have hg : getG (szF four) d = finG res := by
  have h : allR (szF four) ⟨p0, 0⟩ d = res := hres
  rw [getG_eq, h]
  cases res <;> rfl
 rw [hg]
 clear hg
 have bz := bits_zero
 refine Tri_in Tryz.func166 rfl (fun w0 S0 => ?_)
 repeat' (first | refine SX ?_ | refine SB ?_ | (refine T2 ?_; intros) | fail)
 rename_i b4 b6 b7 bs A' c' br
 rw [show 0 + d.length = d.length from Nat.zero_add _, List.nil_append, show Int.toNat 256 = 256 from rfl, bits_zero]
 refine HC_know (C := d.length ≤ c') (fun w h => own_cap 2 rfl h) (fun hc' => ?_)
 refine HC_keeps (Keeps.cons Ent.rfl_ (Keeps.cons own_e Keeps.refl)) (HC_keeps (Keeps.add (e := ownI none 0 []) (fun w => own_nil w) (Keeps.add (e := inn []) inn_nil (Keeps.add (e := ownS none 0 []) (fun w => own_nil w) Keeps.refl))) ?_)
 refine HC_keeps (rw' := rqP br A' c' false d ++ [own idE 4 1 (some ⟨b7, 0, none⟩) 256 256 (List.map bL (bitsL (0))), cel b4 53 az.e] ++ attQ b6 a0) permA ?_
 refine HC_loop (α := AlI) (fun x => x.l.length ≤ d.length ∧ x.l.length ≤ x.rc ∧ allR (szF four) ⟨x.a.pa, x.seen⟩ x.l = res) (fun _ => [(8, pt br), (7, .slice (some ⟨b7, 0, none⟩) 256 256), (6, pt b6), (4, pt b4), (1, .bool four)])
  (fun x => rqP br x.rA x.rc false x.l ++ [own idE 4 1 (some ⟨b7, 0, none⟩) 256 256 (List.map bL (bitsL (x.seen))), cel b4 53 az.e] ++ attQ b6 x.a) (fun x => x.l.length) rfl ⟨A', c', d, a0, 0⟩ ⟨Nat.le_refl _, hc', hres⟩ ⟨rfl, rfl, rfl, rfl, rfl, trivial⟩ rfl ?_
 clear hres
 intro ⟨rA, rc, l, a, seen⟩ ⟨hld, hlc, hres⟩
 dsimp only [rqP, attQ, pt, AttS.e, az, lca, lna] at hld hlc hres ⊢
 have hlen : 256 = (List.map bL (bitsL seen)).length := by rw [List.length_map, bits_len]
 rcases l with _ | ⟨f, l1⟩
 ·rw [allR_nil] at hres
  subst hres
  have hb1 := bits_at seen 1 (by decide)
  have hb2 := bits_at seen 2 (by decide)
  have hb3 := bits_at seen 3 (by decide)
  cases h1 : seen.testBit 1
  ·have hfin : finG (some ⟨a.pa, seen⟩) = (pz, 2) := by simp [finG, mustB, h1]
   rw [hfin]
   rw [h1] at hb1
   repeat' (first | refine SX ?_ | (refine KC ?_; refine HO_callq rfl rfl rfl rfl (rleftF_t _ _ _ _) (fun _ _ => rfl) (srcsA) rfl rfl sqA ?_) | refine SB ?_ | (refine T2 ?_; intros) | fail)
   (refine SRt ?_; unfold RetQ; refine ⟨az, rfl, rfl, az_keeps⟩)
  cases h2 : seen.testBit 2
  ·have hfin : finG (some ⟨a.pa, seen⟩) = (pz, 2) := by simp [finG, mustB, h1, h2]
   rw [hfin]
   rw [h1] at hb1
   rw [h2] at hb2
   repeat' (first | refine SX ?_ | (refine KC ?_; refine HO_callq rfl rfl rfl rfl (rleftF_t _ _ _ _) (fun _ _ => rfl) (srcsA) rfl rfl sqA ?_) | refine SB ?_ | (refine T2 ?_; intros) | fail)
   (refine SRt ?_; unfold RetQ; refine ⟨az, rfl, rfl, az_keeps⟩)
  cases h3 : seen.testBit 3
  ·have hfin : finG (some ⟨a.pa, seen⟩) = (pz, 2) := by simp [finG, mustB, h1, h2, h3]
   rw [hfin]
   rw [h1] at hb1
   rw [h2] at hb2
   rw [h3] at hb3
   repeat' (first | refine SX ?_ | (refine KC ?_; refine HO_callq rfl rfl rfl rfl (rleftF_t _ _ _ _) (fun _ _ => rfl) (srcsA) rfl rfl sqA ?_) | refine SB ?_ | (refine T2 ?_; intros) | fail)
   (refine SRt ?_; unfold RetQ; refine ⟨az, rfl, rfl, az_keeps⟩)
  have hfin : finG (some ⟨a.pa, seen⟩) = (a.pa, 1) := by simp [finG, mustB, h1, h2, h3]
  rw [hfin]
  rw [h1] at hb1
  rw [h2] at hb2
  rw [h3] at hb3
  repeat' (first | refine SX ?_ | (refine KC ?_; refine HO_callq rfl rfl rfl rfl (rleftF_t _ _ _ _) (fun _ _ => rfl) (srcsA) rfl rfl sqA ?_) | refine SB ?_ | (refine T2 ?_; intros) | fail)
  (refine SRt ?_; unfold RetQ; refine ⟨a, rfl, rfl, Keeps.skip (Keeps.skip (Keeps.skip (Keeps.skip (Keeps.skip (Keeps.swap (Keeps.cons Ent.rfl_ (Keeps.cons own_e (Keeps.cons own_e Keeps.nil))))))))⟩)
 have hf := f.toNat_lt
 simp only [List.length_cons] at hld hlc
 have hlp : 0 < (((f :: l1).length : Nat) : Int) := by simp only [List.length_cons]; omega
 rw [allR_cons _ _ _ (by simp)] at hres
 have h16 := rquo16 f.toNat hf
 have hr2 := rrem2 f.toNat
 have h32 := rquo32 f.toNat hf
 have hq : 1 ≤ 1 + f.toNat / 16 % 2 ∧ 1 + f.toNat / 16 % 2 ≤ 4 := by omega
 have e16 : (1 + ((f.toNat / 16 % 2 : Nat) : Int)) = ((1 + f.toNat / 16 % 2 : Nat) : Int) := by omega
 rcases l1 with _ | ⟨k, l2⟩
 ·have hres : none = res := hres
  subst hres
  repeat' (first | refine SX ?_ | (with_reducible refine HO_rw (congrArg (Value.int .i64) h16) ?_) | (with_reducible refine HO_rw (congrArg (Value.int .i64) hr2) ?_) | (with_reducible refine HO_rw (congrArg (Value.int .i64) e16) ?_) | (with_reducible refine HO_rw (congrArg (Value.int .i64) h32) ?_) | (refine KC ?_; refine HO_callq rfl rfl rfl rfl (rleftF_t _ _ _ _) (fun _ _ => rfl) (srcsA) rfl rfl sqA ?_) | (refine KC ?_; refine HO_call rfl rfl rfl rfl (rnum1_t br rA rc f [] (by simp) (by simpa using hlc)) rfl (trivial) rfl rfl soA ?_; intro ⟨xA, xc⟩ hx1; dsimp only [rqP, pt, lca, lna]) | (refine KC ?_; refine HO_call rfl rfl rfl rfl (rnum0_t br xA xc) rfl (trivial) rfl rfl soA ?_; intro ⟨yA, yc⟩ hy1; dsimp only [rqP, pt, lca, lna]) | (refine KC ?_; refine HO_call rfl rfl rfl rfl (rnumB_t br yA yc [] _ hq (by simp) hy1) rfl (trivial) rfl rfl soA ?_; intro ⟨zA, zc⟩ hz1; dsimp only [rqP, pt, lca, lna]) | (refine KC ?_; refine HO_call rfl rfl rfl rfl (rbytesB_t br zA zc [] 0 (by simp) hz1) rfl (trivial) rfl rfl soA ?_; intro ⟨⟨uA, uc⟩, ⟨vA, vc⟩⟩ hu1; dsimp only [rqP, pt, lca, lna]) | refine SB ?_ | (refine T2 ?_; intros) | fail)
  (refine SRt ?_; unfold RetQ; refine ⟨az, rfl, rfl, az_keeps⟩)
 have hk := k.toNat_lt
 simp only [List.length_cons] at hld hlc
 by_cases hs : 1 + f.toNat / 16 % 2 ≤ l2.length ∧ ge (l2.take (1 + f.toNat / 16 % 2)) ≤ l2.length - (1 + f.toNat / 16 % 2)
 rotate_left
 ·rw [hdG_short hs] at hres
  have hres : none = res := hres
  subst hres
  obtain ⟨q, hqe⟩ : ∃ q, 1 + f.toNat / 16 % 2 = q := ⟨_, rfl⟩
  rw [hqe] at hs hq e16
  by_cases hs1 : q ≤ l2.length
  ·have hs2 : (l2.drop q).length < ge (l2.take q) := by
    rw [List.length_drop]
    exact Nat.lt_of_not_le fun h => hs ⟨hs1, h⟩
   have hd3 : (l2.drop q).length ≤ 100000 := by rw [List.length_drop]; omega
   repeat' (first | refine SX ?_ | (with_reducible refine HO_rw (congrArg (Value.int .i64) h16) ?_) | (with_reducible refine HO_rw (congrArg (Value.int .i64) hr2) ?_) | (with_reducible refine HO_rw (congrArg (Value.int .i64) e16) ?_) | (with_reducible refine HO_rw (congrArg (Value.int .i64) h32) ?_) | (refine KC ?_; refine HO_callq rfl rfl rfl rfl (rleftF_t _ _ _ _) (fun _ _ => rfl) (srcsA) rfl rfl sqA ?_) | (refine KC ?_; refine HO_call rfl rfl rfl rfl (rnum1_t br rA rc f (k :: l2) (by simp only [List.length_cons]; omega) (by simp only [List.length_cons]; omega)) rfl (trivial) rfl rfl soA ?_; intro ⟨xA, xc⟩ hx1; dsimp only [rqP, pt, lca, lna]) | (refine KC ?_; refine HO_call rfl rfl rfl rfl (rnum1_t br xA xc k l2 (by omega) hx1) rfl (trivial) rfl rfl soA ?_; intro ⟨yA, yc⟩ hy1; dsimp only [rqP, pt, lca, lna]) | (refine KC ?_; refine HO_call rfl rfl rfl rfl (rnumL_t br yA yc l2 q hq hs1 (by omega) hy1) rfl (trivial) rfl rfl soA ?_; intro ⟨zA, zc⟩ hz1; dsimp only [rqP, pt, lca, lna]) | (refine KC ?_; refine HO_call rfl rfl rfl rfl (rbytesS_t br zA zc (l2.drop q) _ hs2 hd3 hz1) rfl (trivial) rfl rfl soA ?_; intro ⟨⟨uA, uc⟩, ⟨vA, vc⟩⟩ hu1; dsimp only [rqP, pt, lca, lna]) | refine SB ?_ | (refine T2 ?_; intros) | fail)
   (refine SRt ?_; unfold RetQ; refine ⟨az, rfl, rfl, az_keeps⟩)
  ·repeat' (first | refine SX ?_ | (with_reducible refine HO_rw (congrArg (Value.int .i64) h16) ?_) | (with_reducible refine HO_rw (congrArg (Value.int .i64) hr2) ?_) | (with_reducible refine HO_rw (congrArg (Value.int .i64) e16) ?_) | (with_reducible refine HO_rw (congrArg (Value.int .i64) h32) ?_) | (refine KC ?_; refine HO_callq rfl rfl rfl rfl (rleftF_t _ _ _ _) (fun _ _ => rfl) (srcsA) rfl rfl sqA ?_) | (refine KC ?_; refine HO_call rfl rfl rfl rfl (rnum1_t br rA rc f (k :: l2) (by simp only [List.length_cons]; omega) (by simp only [List.length_cons]; omega)) rfl (trivial) rfl rfl soA ?_; intro ⟨xA, xc⟩ hx1; dsimp only [rqP, pt, lca, lna]) | (refine KC ?_; refine HO_call rfl rfl rfl rfl (rnum1_t br xA xc k l2 (by omega) hx1) rfl (trivial) rfl rfl soA ?_; intro ⟨yA, yc⟩ hy1; dsimp only [rqP, pt, lca, lna]) | (refine KC ?_; refine HO_call rfl rfl rfl rfl (rnumS_t br yA yc l2 q hq (by omega) hy1) rfl (trivial) rfl rfl soA ?_; intro ⟨zA, zc⟩ hz1; dsimp only [rqP, pt, lca, lna]) | (refine KC ?_; refine HO_call rfl rfl rfl rfl (rbytesB_t br zA zc l2 0 (by omega) hz1) rfl (trivial) rfl rfl soA ?_; intro ⟨⟨uA, uc⟩, ⟨vA, vc⟩⟩ hu1; dsimp only [rqP, pt, lca, lna]) | refine SB ?_ | (refine T2 ?_; intros) | fail)
   (refine SRt ?_; unfold RetQ; refine ⟨az, rfl, rfl, az_keeps⟩)
 rw [hdG_long hs] at hres
 obtain ⟨q, hqe⟩ : ∃ q, 1 + f.toNat / 16 % 2 = q := ⟨_, rfl⟩
 rw [hqe] at hs hq e16 hres
 obtain ⟨hs1, hs2⟩ := hs
 obtain ⟨n, hn⟩ : ∃ n, ge (l2.take q) = n := ⟨_, rfl⟩
 have hnum := fun A c hc => rnumL_t br A c l2 q hq hs1 (by omega) hc
 rw [hn] at hs2 hres hnum
 have hd3 : (l2.drop q).length ≤ 100000 := by rw [List.length_drop]; omega
 have hn3 : n ≤ (l2.drop q).length := by rw [List.length_drop]; omega
 obtain ⟨dt, hdt⟩ : ∃ dt, (l2.drop q).take n = dt := ⟨_, rfl⟩
 obtain ⟨l4, hl4⟩ : ∃ l4, (l2.drop q).drop n = l4 := ⟨_, rfl⟩
 have hdl : dt.length ≤ 100000 := by rw [← hdt, List.length_take]; omega
 have hll4 : l4.length ≤ l2.length := by rw [← hl4, List.length_drop, List.length_drop]; omega
 have hbyt := fun A c hc => rbytesL_t br A c (l2.drop q) n hn3 hd3 hc
 rw [hdt, hl4] at hres hbyt
 have hfl := rflags_t k.toNat
 have hbk := bits_at seen k.toNat hk
 by_cases hw : flagsI k.toNat < 0
 ·by_cases h128 : f.toNat < 128
  ·have e : takeG (szF four) f.toNat k.toNat dt ⟨a.pa, seen⟩ = none := by unfold takeG; rw [if_pos hw, if_neg (by omega)]
   simp only [e] at hres
   have hres : none = res := hres
   subst hres
   obtain ⟨wt, hwt⟩ : ∃ wt, flagsI k.toNat = wt := ⟨_, rfl⟩
   rw [hwt] at hw hfl
   repeat' (first | refine SX ?_ | (with_reducible refine HO_rw (congrArg (Value.int .i64) h16) ?_) | (with_reducible refine HO_rw (congrArg (Value.int .i64) hr2) ?_) | (with_reducible refine HO_rw (congrArg (Value.int .i64) e16) ?_) | (with_reducible refine HO_rw (congrArg (Value.int .i64) h32) ?_) | (refine KC ?_; refine HO_callq rfl rfl rfl rfl (rleftF_t _ _ _ _) (fun _ _ => rfl) (srcsA) rfl rfl sqA ?_) | (refine KC ?_; refine HO_callq rfl rfl rfl rfl (hfl) (fun _ _ => rfl) (trivial) rfl rfl sqA ?_) | (refine KC ?_; refine HO_call rfl rfl rfl rfl (rnum1_t br rA rc f (k :: l2) (by simp only [List.length_cons]; omega) (by simp only [List.length_cons]; omega)) rfl (trivial) rfl rfl soA ?_; intro ⟨xA, xc⟩ hx1; dsimp only [rqP, pt, lca, lna]) | (refine KC ?_; refine HO_call rfl rfl rfl rfl (rnum1_t br xA xc k l2 (by omega) hx1) rfl (trivial) rfl rfl soA ?_; intro ⟨yA, yc⟩ hy1; dsimp only [rqP, pt, lca, lna]) | (refine KC ?_; refine HO_call rfl rfl rfl rfl (hnum yA yc hy1) rfl (trivial) rfl rfl soA ?_; intro ⟨zA, zc⟩ hz1; dsimp only [rqP, pt, lca, lna]) | (refine KC ?_; refine HO_call rfl rfl rfl rfl (hbyt zA zc hz1) rfl (trivial) rfl rfl soA ?_; intro ⟨⟨uA, uc⟩, ⟨vA, vc⟩⟩ hu1; dsimp only [rqP, pt, lca, lna]) | refine SB ?_ | (refine T2 ?_; intros) | fail)
   (refine SRt ?_; unfold RetQ; refine ⟨az, rfl, rfl, az_keeps⟩)
  ·have e : takeG (szF four) f.toNat k.toNat dt ⟨a.pa, seen⟩ = some ⟨a.pa, seen⟩ := by unfold takeG; rw [if_pos hw, if_pos (by omega)]
   simp only [e] at hres
   have hres : allR (szF four) ⟨a.pa, seen⟩ l4 = res := hres
   obtain ⟨wt, hwt⟩ : ∃ wt, flagsI k.toNat = wt := ⟨_, rfl⟩
   rw [hwt] at hw hfl
   repeat' (first | refine SX ?_ | (with_reducible refine HO_rw (congrArg (Value.int .i64) h16) ?_) | (with_reducible refine HO_rw (congrArg (Value.int .i64) hr2) ?_) | (with_reducible refine HO_rw (congrArg (Value.int .i64) e16) ?_) | (with_reducible refine HO_rw (congrArg (Value.int .i64) h32) ?_) | (refine KC ?_; refine HO_callq rfl rfl rfl rfl (rleftF_t _ _ _ _) (fun _ _ => rfl) (srcsA) rfl rfl sqA ?_) | (refine KC ?_; refine HO_callq rfl rfl rfl rfl (hfl) (fun _ _ => rfl) (trivial) rfl rfl sqA ?_) | (refine KC ?_; refine HO_call rfl rfl rfl rfl (rnum1_t br rA rc f (k :: l2) (by simp only [List.length_cons]; omega) (by simp only [List.length_cons]; omega)) rfl (trivial) rfl rfl soA ?_; intro ⟨xA, xc⟩ hx1; dsimp only [rqP, pt, lca, lna]) | (refine KC ?_; refine HO_call rfl rfl rfl rfl (rnum1_t br xA xc k l2 (by omega) hx1) rfl (trivial) rfl rfl soA ?_; intro ⟨yA, yc⟩ hy1; dsimp only [rqP, pt, lca, lna]) | (refine KC ?_; refine HO_call rfl rfl rfl rfl (hnum yA yc hy1) rfl (trivial) rfl rfl soA ?_; intro ⟨zA, zc⟩ hz1; dsimp only [rqP, pt, lca, lna]) | (refine KC ?_; refine HO_call rfl rfl rfl rfl (hbyt zA zc hz1) rfl (trivial) rfl rfl soA ?_; intro ⟨⟨uA, uc⟩, ⟨vA, vc⟩⟩ hu1; dsimp only [rqP, pt, lca, lna]) | refine SB ?_ | (refine T2 ?_; intros) | fail)
   refine HX_keeps (rw' := rqP br vA vc false l4 ++ [own idE 4 1 (some ⟨b7, 0, none⟩) 256 256 (List.map bL (bitsL (seen))), cel b4 53 az.e] ++ attQ b6 a) permA ?_
   exact HX_at ⟨vA, vc, l4, a, seen⟩ ⟨⟨by simp only; omega, hu1.2, hres⟩, by simp only [List.length_cons]; omega⟩ ⟨rfl, rfl, rfl, rfl, rfl, trivial⟩ rfl
 have hk6 := flags_le hw
 cases hbit : seen.testBit k.toNat
 rotate_left
 ·have e : takeG (szF four) f.toNat k.toNat dt ⟨a.pa, seen⟩ = some ⟨a.pa, seen⟩ := by unfold takeG; rw [if_neg hw, if_pos hbit]
  simp only [e] at hres
  have hres : allR (szF four) ⟨a.pa, seen⟩ l4 = res := hres
  rw [hbit] at hbk
  obtain ⟨wt, hwt⟩ : ∃ wt, flagsI k.toNat = wt := ⟨_, rfl⟩
  rw [hwt] at hw hfl
  repeat' (first | refine SX ?_ | (with_reducible refine HO_rw (congrArg (Value.int .i64) h16) ?_) | (with_reducible refine HO_rw (congrArg (Value.int .i64) hr2) ?_) | (with_reducible refine HO_rw (congrArg (Value.int .i64) e16) ?_) | (with_reducible refine HO_rw (congrArg (Value.int .i64) h32) ?_) | (refine KC ?_; refine HO_callq rfl rfl rfl rfl (rleftF_t _ _ _ _) (fun _ _ => rfl) (srcsA) rfl rfl sqA ?_) | (refine KC ?_; refine HO_callq rfl rfl rfl rfl (hfl) (fun _ _ => rfl) (trivial) rfl rfl sqA ?_) | (refine KC ?_; refine HO_call rfl rfl rfl rfl (rnum1_t br rA rc f (k :: l2) (by simp only [List.length_cons]; omega) (by simp only [List.length_cons]; omega)) rfl (trivial) rfl rfl soA ?_; intro ⟨xA, xc⟩ hx1; dsimp only [rqP, pt, lca, lna]) | (refine KC ?_; refine HO_call rfl rfl rfl rfl (rnum1_t br xA xc k l2 (by omega) hx1) rfl (trivial) rfl rfl soA ?_; intro ⟨yA, yc⟩ hy1; dsimp only [rqP, pt, lca, lna]) | (refine KC ?_; refine HO_call rfl rfl rfl rfl (hnum yA yc hy1) rfl (trivial) rfl rfl soA ?_; intro ⟨zA, zc⟩ hz1; dsimp only [rqP, pt, lca, lna]) | (refine KC ?_; refine HO_call rfl rfl rfl rfl (hbyt zA zc hz1) rfl (trivial) rfl rfl soA ?_; intro ⟨⟨uA, uc⟩, ⟨vA, vc⟩⟩ hu1; dsimp only [rqP, pt, lca, lna]) | refine SB ?_ | (refine T2 ?_; intros) | fail)
  refine HX_keeps (rw' := rqP br vA vc false l4 ++ [own idE 4 1 (some ⟨b7, 0, none⟩) 256 256 (List.map bL (bitsL (seen))), cel b4 53 az.e] ++ attQ b6 a) permA ?_
  exact HX_at ⟨vA, vc, l4, a, seen⟩ ⟨⟨by simp only; omega, hu1.2, hres⟩, by simp only [List.length_cons]; omega⟩ ⟨rfl, rfl, rfl, rfl, rfl, trivial⟩ rfl
 rw [hbit] at hbk
 have hset := fun A c hc => rset_t b6 a four k.toNat hk6 A c dt hdl hc
 have hbs := bits_set seen k.toNat hk
 by_cases hfk : ((f.toNat / 32 * 32 : Nat) : Int) = flagsI k.toNat
 rotate_left
 ·have e : takeG (szF four) f.toNat k.toNat dt ⟨a.pa, seen⟩ = none := by unfold takeG; rw [if_neg hw, if_neg (by simp [hbit]), if_neg hfk]
  simp only [e] at hres
  have hres : none = res := hres
  subst hres
  obtain ⟨wt, hwt⟩ : ∃ wt, flagsI k.toNat = wt := ⟨_, rfl⟩
  rw [hwt] at hw hfl hfk
  have hfk2 : ¬ ((f.toNat / 32 : Nat) : Int) * 32 = wt := by omega
  repeat' (first | refine SX ?_ | (with_reducible refine HO_rw (congrArg (Value.int .i64) h16) ?_) | (with_reducible refine HO_rw (congrArg (Value.int .i64) hr2) ?_) | (with_reducible refine HO_rw (congrArg (Value.int .i64) e16) ?_) | (with_reducible refine HO_rw (congrArg (Value.int .i64) h32) ?_) | (refine KC ?_; refine HO_callq rfl rfl rfl rfl (rleftF_t _ _ _ _) (fun _ _ => rfl) (srcsA) rfl rfl sqA ?_) | (refine KC ?_; refine HO_callq rfl rfl rfl rfl (hfl) (fun _ _ => rfl) (trivial) rfl rfl sqA ?_) | (refine KC ?_; refine HO_call rfl rfl rfl rfl (rnum1_t br rA rc f (k :: l2) (by simp only [List.length_cons]; omega) (by simp only [List.length_cons]; omega)) rfl (trivial) rfl rfl soA ?_; intro ⟨xA, xc⟩ hx1; dsimp only [rqP, pt, lca, lna]) | (refine KC ?_; refine HO_call rfl rfl rfl rfl (rnum1_t br xA xc k l2 (by omega) hx1) rfl (trivial) rfl rfl soA ?_; intro ⟨yA, yc⟩ hy1; dsimp only [rqP, pt, lca, lna]) | (refine KC ?_; refine HO_call rfl rfl rfl rfl (hnum yA yc hy1) rfl (trivial) rfl rfl soA ?_; intro ⟨zA, zc⟩ hz1; dsimp only [rqP, pt, lca, lna]) | (refine KC ?_; refine HO_call rfl rfl rfl rfl (hbyt zA zc hz1) rfl (trivial) rfl rfl soA ?_; intro ⟨⟨uA, uc⟩, ⟨vA, vc⟩⟩ hu1; dsimp only [rqP, pt, lca, lna]) | refine SB ?_ | (refine T2 ?_; intros) | fail)
  (refine SRt ?_; unfold RetQ; refine ⟨az, rfl, rfl, az_keeps⟩)
 have e : takeG (szF four) f.toNat k.toNat dt ⟨a.pa, seen⟩ = match setG (szF four) a.pa k.toNat dt with
   | none => none
   | some p => some ⟨p, seen ||| 2 ^ k.toNat⟩ := by
  unfold takeG
  rw [if_neg hw, if_neg (by simp [hbit]), if_pos hfk]
  cases setG (szF four) a.pa k.toNat dt <;> rfl
 obtain ⟨sr, hsr⟩ : ∃ sr, setG (szF four) a.pa k.toNat dt = sr := ⟨_, rfl⟩
 rw [hsr] at e
 simp only [hsr] at hset
 obtain ⟨wt, hwt⟩ : ∃ wt, flagsI k.toNat = wt := ⟨_, rfl⟩
 rw [hwt] at hw hfl hfk
 have hfk2 : ((f.toNat / 32 : Nat) : Int) * 32 = wt := by omega
 cases sr with
 | none =>
  simp only [e] at hres
  have hres : none = res := hres
  subst hres
  repeat' (first | refine SX ?_ | (with_reducible refine HO_rw (congrArg (Value.int .i64) h16) ?_) | (with_reducible refine HO_rw (congrArg (Value.int .i64) hr2) ?_) | (with_reducible refine HO_rw (congrArg (Value.int .i64) e16) ?_) | (with_reducible refine HO_rw (congrArg (Value.int .i64) h32) ?_) | (refine KC ?_; refine HO_callq rfl rfl rfl rfl (rleftF_t _ _ _ _) (fun _ _ => rfl) (srcsA) rfl rfl sqA ?_) | (refine KC ?_; refine HO_callq rfl rfl rfl rfl (hfl) (fun _ _ => rfl) (trivial) rfl rfl sqA ?_) | (refine KC ?_; refine HO_call rfl rfl rfl rfl (rnum1_t br rA rc f (k :: l2) (by simp only [List.length_cons]; omega) (by simp only [List.length_cons]; omega)) rfl (trivial) rfl rfl soA ?_; intro ⟨xA, xc⟩ hx1; dsimp only [rqP, pt, lca, lna]) | (refine KC ?_; refine HO_call rfl rfl rfl rfl (rnum1_t br xA xc k l2 (by omega) hx1) rfl (trivial) rfl rfl soA ?_; intro ⟨yA, yc⟩ hy1; dsimp only [rqP, pt, lca, lna]) | (refine KC ?_; refine HO_call rfl rfl rfl rfl (hnum yA yc hy1) rfl (trivial) rfl rfl soA ?_; intro ⟨zA, zc⟩ hz1; dsimp only [rqP, pt, lca, lna]) | (refine KC ?_; refine HO_call rfl rfl rfl rfl (hbyt zA zc hz1) rfl (trivial) rfl rfl soA ?_; intro ⟨⟨uA, uc⟩, ⟨vA, vc⟩⟩ hu1; dsimp only [rqP, pt, lca, lna]) | (refine KC ?_; refine HO_mv 8 rfl rfl ?_; refine HO_mv 8 rfl rfl ?_; refine HO_mv 8 rfl rfl ?_; refine HO_mv 8 rfl rfl ?_; refine HO_mv 4 rfl rfl ?_; refine HO_keeps (Keeps.cons own_byte Keeps.refl) ?_; refine HO_call rfl rfl rfl rfl (hset uA uc hu1.1) rfl (trivial) rfl rfl soA ?_; intro a' ha'; dsimp only [attQ, AttS.e, lca, lna]) | refine SB ?_ | (refine T2 ?_; intros) | fail)
  (refine SRt ?_; unfold RetQ; refine ⟨az, rfl, rfl, az_keeps⟩)
 | some p =>
  simp only [e] at hres
  have hres : allR (szF four) ⟨p, seen ||| 2 ^ k.toNat⟩ l4 = res := hres
  repeat' (first | refine SX ?_ | (with_reducible refine HO_rw (congrArg (Value.int .i64) h16) ?_) | (with_reducible refine HO_rw (congrArg (Value.int .i64) hr2) ?_) | (with_reducible refine HO_rw (congrArg (Value.int .i64) e16) ?_) | (with_reducible refine HO_rw (congrArg (Value.int .i64) h32) ?_) | (refine KC ?_; refine HO_callq rfl rfl rfl rfl (rleftF_t _ _ _ _) (fun _ _ => rfl) (srcsA) rfl rfl sqA ?_) | (refine KC ?_; refine HO_callq rfl rfl rfl rfl (hfl) (fun _ _ => rfl) (trivial) rfl rfl sqA ?_) | (refine KC ?_; refine HO_call rfl rfl rfl rfl (rnum1_t br rA rc f (k :: l2) (by simp only [List.length_cons]; omega) (by simp only [List.length_cons]; omega)) rfl (trivial) rfl rfl soA ?_; intro ⟨xA, xc⟩ hx1; dsimp only [rqP, pt, lca, lna]) | (refine KC ?_; refine HO_call rfl rfl rfl rfl (rnum1_t br xA xc k l2 (by omega) hx1) rfl (trivial) rfl rfl soA ?_; intro ⟨yA, yc⟩ hy1; dsimp only [rqP, pt, lca, lna]) | (refine KC ?_; refine HO_call rfl rfl rfl rfl (hnum yA yc hy1) rfl (trivial) rfl rfl soA ?_; intro ⟨zA, zc⟩ hz1; dsimp only [rqP, pt, lca, lna]) | (refine KC ?_; refine HO_call rfl rfl rfl rfl (hbyt zA zc hz1) rfl (trivial) rfl rfl soA ?_; intro ⟨⟨uA, uc⟩, ⟨vA, vc⟩⟩ hu1; dsimp only [rqP, pt, lca, lna]) | (refine KC ?_; refine HO_mv 8 rfl rfl ?_; refine HO_mv 8 rfl rfl ?_; refine HO_mv 8 rfl rfl ?_; refine HO_mv 8 rfl rfl ?_; refine HO_mv 4 rfl rfl ?_; refine HO_keeps (Keeps.cons own_byte Keeps.refl) ?_; refine HO_call rfl rfl rfl rfl (hset uA uc hu1.1) rfl (trivial) rfl rfl soA ?_; intro a' ha'; dsimp only [attQ, AttS.e, lca, lna]) | refine SB ?_ | (refine T2 ?_; intros) | fail)
  have ea := ha' p rfl
  have hbs' : (List.map bL (bitsL seen)).set (Int.toNat (k.toNat : Int)) [Value.bool true] = List.map bL (bitsL (seen ||| 2 ^ k.toNat)) := hbs
  rw [hbs']
  refine HX_keeps (rw' := rqP br vA vc false l4 ++ [own idE 4 1 (some ⟨b7, 0, none⟩) 256 256 (List.map bL (bitsL (seen ||| 2 ^ k.toNat))), cel b4 53 az.e] ++ attQ b6 a') permA ?_
  exact HX_at ⟨vA, vc, l4, a', seen ||| 2 ^ k.toNat⟩ ⟨⟨by simp only; omega, hu1.2, by simp only [ea]; exact hres⟩, by simp only [List.length_cons]; omega⟩ ⟨rfl, rfl, rfl, rfl, rfl, trivial⟩ rfl
end Go.Proofs.YteeogabkkblkgaaGreatDoor
