/- Part of a proof of many texts: what the theorem at its end leans on. -/
import Derived.Test.YteeogabkkblkgaaGreatDoorVAttRB
import Derived.Test.YteeogabkkblkgaaGreatDoorVAttM
namespace Go.Proofs.YteeogabkkblkgaaGreatDoor
set_option maxHeartbeats 1000000000
set_option linter.unusedVariables false
set_option linter.unusedSimpArgs false
open Go.RowKit
attribute [local irreducible] HC HX HO Tri eP adr
theorem rcomms_bad (dA : Option Addr) (dc : Nat) (d : List UInt8) (hb : d.length = 0 ∨ d.length % 4 ≠ 0 ∨ 128 < d.length) :
  Tri Tryz.prog 219 [.slice dA d.length dc] [] [] (fun _ : Unit => True) (fun _ => .tuple #[.slice none 0 0, .bool false]) (fun _ => []) := by
 have hrem : bRem (d.length : Int) 4 = ((d.length % 4 : Nat) : Int) := by unfold bRem; rw [Int.tmod_eq_emod_of_nonneg (by omega)]; rfl
 refine Tri_in Tryz.func219 rfl (fun w0 S0 => ?_)
 repeat' (first | (with_reducible refine HO_rw (congrArg (Value.int .i64) hrem) ?_) | exact HO_seg rfl rfl | refine S1 ?_ | (refine HO_g 2 rfl ?_; apply HO_o1 rfl) | refine S5 ?_ | (intro hb; try replace hb := simB hb; try exact kill hb))
 all_goals try exact false
 refine HC_cond rfl rfl (fun hc => ?_) (fun hc => by exfalso; simp only [Bool.or_eq_false_iff, decide_eq_false_iff_not, Bool.not_eq_false', decide_eq_true_eq] at hc; omega)
 repeat' (first | exact HO_seg rfl rfl | refine S1 ?_ | (refine HO_g 2 rfl ?_; apply HO_o1 rfl) | refine S5 ?_ | (intro hb; try replace hb := simB hb; try exact kill hb))
 (refine SRt ?_; refine RU ?_)
 rfl
theorem rcomms_ok (dA : Option Addr) (dc : Nat) (d : List UInt8) (hc : d.length ≤ dc) (m : Nat) (hm : d.length = 4 * m) (h1 : 1 ≤ m) (h32 : m ≤ 32) :
  Tri Tryz.prog 219 [.slice dA d.length dc] [arr bE 1 dA d] [] (fun _ : OA => True) (fun x => .tuple #[.slice x.1 (numsG 4 m d).length x.2, .bool true]) (fun x => [ownI x.1 x.2 (numsG 4 m d)]) := by
 have hrem : bRem (d.length : Int) 4 = 0 := by unfold bRem; rw [hm, Int.tmod_eq_emod_of_nonneg (by omega)]; omega
 refine Tri_in Tryz.func219 rfl (fun w0 S0 => ?_)
 repeat' (first | refine SX ?_ | refine SB ?_ | (refine T2 ?_; intros) | fail)
 refine HC_add (e := ownI none 0 []) (fun w => own_nil w) ?_
 refine HC_loop (α := Nat × OA) (fun x => x.1 ≤ m) (fun x => [(5, .int .i64 ((4 * x.1 : Nat) : Int)), (4, .slice x.2.1 (numsG 4 x.1 d).length x.2.2), (0, .slice dA d.length dc)]) (fun x => [ownI x.2.1 x.2.2 (numsG 4 x.1 d)]) (fun x => m - x.1) rfl (0, (none, 0)) (Nat.zero_le _) ⟨rfl, rfl, rfl, trivial⟩ rfl ?_
 intro ⟨j, ⟨xA, xc⟩⟩ hj
 dsimp only at hj ⊢
 have hnl := numsG_length 4 j d
 rcases Nat.lt_or_ge j m with hlt | hge
 ·have h4 : 4 = ((d.drop (4 * j)).take 4).length := by simp; omega
  repeat' (first | refine SX ?_ | (refine KC ?_; refine HO_callq rfl rfl rfl rfl (rget_t (cutA dA 1 dc (4 * j)) _ _ ((d.drop (4 * j)).take 4) (by simp; omega) (by omega)) (fun _ _ => rfl) (AllSrc.via 0 rfl (arr_cut _ _ _ (fun h => by omega)) trivial) rfl rfl sqA ?_) | refine SB ?_ | (refine T2 ?_; intros) | fail)
  rename_i b9 A' c'
  have eL : (numsG 4 j d).length + 1 = (numsG 4 (j + 1) d).length := by rw [numsG_length, numsG_length]
  have eM : List.map iE (numsG 4 j d) ++ [[Value.int .i64 (ge (List.take 4 (List.drop (4 * j) d)))]] = List.map iE (numsG 4 (j + 1) d) := by
   rw [numsG_snoc, List.map_append, Nat.mul_comm j 4]
   rfl
  have eJ : ((4 * j : Nat) : Int) + 4 = ((4 * (j + 1) : Nat) : Int) := by omega
  rw [eL, eM, eJ]
  refine HX_keeps (rw' := [ownI A' c' (numsG 4 (j + 1) d)]) permA ?_
  exact HX_at (j + 1, (A', c')) ⟨hlt, by simp only; omega⟩ ⟨rfl, rfl, rfl, trivial⟩ rfl
 ·obtain rfl : j = m := by omega
  repeat' (first | refine SX ?_ | refine SB ?_ | (refine T2 ?_; intros) | fail)
  (refine SRt ?_; unfold RetQ; refine ⟨(xA, xc), trivial, rfl, permA⟩)
@[reducible] def attQ (b : Nat) (a : AttS) : List SL := [cel b 53 a.e, ownS a.pA a.pc a.path, inn (segPs a.path), ownI a.cA a.cc a.comms]
theorem rset_t (b : Nat) (a : AttS) (four : Bool) (k : Nat) (hk : k = 1 ∨ k = 2 ∨ k = 3 ∨ k = 4 ∨ k = 5 ∨ k = 8) (dA : Option Addr) (dc : Nat) (d : List UInt8) (hd : d.length ≤ 100000) (hdc : d.length ≤ dc) :
  Tri Tryz.prog 200 [pt b, .int .i64 k, .slice dA d.length dc, .bool four] [] (arr bE 1 dA d :: attQ b a) (fun a' : AttS => ∀ p, setG (szF four) a.pa k d = some p → a'.pa = p) (fun _ => .bool (setG (szF four) a.pa k d).isSome)
   (fun a' => attQ b a') := by
 rcases hk with rfl | rfl | hk | hk | hk | rfl
 ·rcases d with _ | ⟨x, _ | ⟨y, d⟩⟩
  ·have e : setG (szF four) a.pa 1 [] = none := by unfold setG; rw [if_pos rfl, if_pos (by simp)]
   rw [e]
   refine Tri_in Tryz.func200 rfl (fun w0 S0 => ?_)
   dsimp only [pt, attQ, AttS.e]
   repeat' (first | refine SX ?_ | refine SB ?_ | fail)
   (refine SRt ?_; unfold RetQ; refine ⟨a, (fun p hp => by cases hp), rfl, permA⟩)
  ·have hx := x.toNat_lt
   by_cases h2x : x.toNat ≤ 2
   ·have e : setG (szF four) a.pa 1 [x] = some { a.pa with org := x.toNat } := by unfold setG; rw [if_pos rfl, if_neg (by simp [ge_one]; omega), ge_one]
    rw [e]
    refine Tri_in Tryz.func200 rfl (fun w0 S0 => ?_)
    dsimp only [pt, attQ, AttS.e]
    repeat' (first | refine SX ?_ | refine SB ?_ | fail)
    (refine SRt ?_; unfold RetQ; refine ⟨{ a with org := x.toNat }, (fun p hp => by injection hp), rfl, permA⟩)
   ·have e : setG (szF four) a.pa 1 [x] = none := by unfold setG; rw [if_pos rfl, if_pos (by simp [ge_one]; omega)]
    rw [e]
    refine Tri_in Tryz.func200 rfl (fun w0 S0 => ?_)
    dsimp only [pt, attQ, AttS.e]
    repeat' (first | refine SX ?_ | refine SB ?_ | fail)
    (refine SRt ?_; unfold RetQ; refine ⟨a, (fun p hp => by cases hp), rfl, permA⟩)
  ·have e : setG (szF four) a.pa 1 (x :: y :: d) = none := by unfold setG; rw [if_pos rfl, if_pos (by simp)]
   have hne : ¬ (((x :: y :: d).length : Nat) : Int) = 1 := by simp; omega
   rw [e]
   refine Tri_in Tryz.func200 rfl (fun w0 S0 => ?_)
   dsimp only [pt, attQ, AttS.e]
   repeat' (first | refine SX ?_ | refine SB ?_ | fail)
   (refine SRt ?_; unfold RetQ; refine ⟨a, (fun p hp => by cases hp), rfl, permA⟩)
 ·have hs := rpath_t four dA dc d hd hdc
  have e1 : setG (szF four) a.pa 2 d = match segsR (szF four) [] d with
    | none => none
    | some p => some { a.pa with path := p } := by
   unfold setG segsR
   rw [if_neg (by decide), if_pos rfl]
   rfl
  obtain ⟨res, hres⟩ : ∃ res, segsR (szF four) [] d = res := ⟨_, rfl⟩
  rw [hres] at hs e1
  have e2 : (setG (szF four) a.pa 2 d).isSome = res.isSome := by rw [e1]; cases res <;> rfl
  rw [e2]
  refine Tri_in Tryz.func200 rfl (fun w0 S0 => ?_)
  dsimp only [pt, attQ, AttS.e]
  repeat' (first | refine SX ?_ | (refine KC ?_; refine HO_call rfl rfl rfl rfl (hs) rfl (trivial) rfl rfl soA ?_; intro ⟨⟨xA, xc⟩, xl⟩ hx; dsimp only [segQ, lca, lna]) | refine SB ?_ | fail)
  (refine SRt ?_; unfold RetQ; refine ⟨{ a with pA := xA, pc := xc, path := xl }, (fun p hq => by
   rw [e1] at hq
   cases res with
   | none => cases hq
   | some q =>
    injection hq with hq
    rw [← hq]
    unfold AttS.pa
    rw [hx q rfl]), rfl, permA⟩)
 ·by_cases hl : d.length = 4
  ·have h4 := ge_four hl
   by_cases h0 : ge d = 0
   ·have e : setG (szF four) a.pa k d = none := by
     unfold setG
     rw [if_neg (by omega), if_neg (by omega), if_neg (by omega), if_neg (by omega), if_pos hk, if_pos h0]
    rw [e]
    subst hk
    have hz : (ge d : Int) = 0 := by omega
    refine Tri_in Tryz.func200 rfl (fun w0 S0 => ?_)
    dsimp only [pt, attQ, AttS.e]
    repeat' (first | refine SX ?_ | (refine KC ?_; refine HO_callq rfl rfl rfl rfl (rget_t dA d.length dc d rfl (by omega)) (fun _ _ => rfl) (srcsA) rfl rfl sqA ?_) | refine SB ?_ | fail)
    (refine SRt ?_; unfold RetQ; refine ⟨{ a with nxt := ge d }, (fun p hp => by cases hp), rfl, permA⟩)
   ·have e : setG (szF four) a.pa k d = some { a.pa with nxt := ge d } := by
     unfold setG
     rw [if_neg (by omega), if_neg (by omega), if_neg (by omega), if_neg (by omega), if_pos hk, if_neg h0]
    rw [e]
    subst hk
    have hz : ¬ (ge d : Int) = 0 := by omega
    refine Tri_in Tryz.func200 rfl (fun w0 S0 => ?_)
    dsimp only [pt, attQ, AttS.e]
    repeat' (first | refine SX ?_ | (refine KC ?_; refine HO_callq rfl rfl rfl rfl (rget_t dA d.length dc d rfl (by omega)) (fun _ _ => rfl) (srcsA) rfl rfl sqA ?_) | refine SB ?_ | fail)
    (refine SRt ?_; unfold RetQ; refine ⟨{ a with nxt := ge d }, (fun p hp => by injection hp), rfl, permA⟩)
  ·have e : setG (szF four) a.pa k d = none := by
    unfold setG
    rw [if_neg (by omega), if_neg (by omega), if_neg (by omega), if_pos hl]
   rw [e]
   subst hk
   refine Tri_in Tryz.func200 rfl (fun w0 S0 => ?_)
   dsimp only [pt, attQ, AttS.e]
   repeat' (first | refine SX ?_ | refine SB ?_ | fail)
   (refine SRt ?_; unfold RetQ; refine ⟨a, (fun p hp => by cases hp), rfl, permA⟩)
 ·by_cases hl : d.length = 4
  ·have h4 := ge_four hl
   have e : setG (szF four) a.pa k d = some { a.pa with med := ge d } := by
    unfold setG
    rw [if_neg (by omega), if_neg (by omega), if_neg (by omega), if_neg (by omega), if_neg (by omega), if_pos hk]
   rw [e]
   subst hk
   refine Tri_in Tryz.func200 rfl (fun w0 S0 => ?_)
   dsimp only [pt, attQ, AttS.e]
   repeat' (first | refine SX ?_ | (refine KC ?_; refine HO_callq rfl rfl rfl rfl (rget_t dA d.length dc d rfl (by omega)) (fun _ _ => rfl) (srcsA) rfl rfl sqA ?_) | refine SB ?_ | fail)
   (refine SRt ?_; unfold RetQ; refine ⟨{ a with med := ge d }, (fun p hp => by injection hp), rfl, permA⟩)
  ·have e : setG (szF four) a.pa k d = none := by
    unfold setG
    rw [if_neg (by omega), if_neg (by omega), if_neg (by omega), if_pos hl]
   rw [e]
   subst hk
   refine Tri_in Tryz.func200 rfl (fun w0 S0 => ?_)
   dsimp only [pt, attQ, AttS.e]
   repeat' (first | refine SX ?_ | refine SB ?_ | fail)
   (refine SRt ?_; unfold RetQ; refine ⟨a, (fun p hp => by cases hp), rfl, permA⟩)
 ·by_cases hl : d.length = 4
  ·have h4 := ge_four hl
   have e : setG (szF four) a.pa k d = some { a.pa with pref := ge d } := by
    unfold setG
    rw [if_neg (by omega), if_neg (by omega), if_neg (by omega), if_neg (by omega), if_neg (by omega), if_neg (by omega)]
   rw [e]
   subst hk
   refine Tri_in Tryz.func200 rfl (fun w0 S0 => ?_)
   dsimp only [pt, attQ, AttS.e]
   repeat' (first | refine SX ?_ | (refine KC ?_; refine HO_callq rfl rfl rfl rfl (rget_t dA d.length dc d rfl (by omega)) (fun _ _ => rfl) (srcsA) rfl rfl sqA ?_) | refine SB ?_ | fail)
   (refine SRt ?_; unfold RetQ; refine ⟨{ a with pref := ge d }, (fun p hp => by injection hp), rfl, permA⟩)
  ·have e : setG (szF four) a.pa k d = none := by
    unfold setG
    rw [if_neg (by omega), if_neg (by omega), if_neg (by omega), if_pos hl]
   rw [e]
   subst hk
   refine Tri_in Tryz.func200 rfl (fun w0 S0 => ?_)
   dsimp only [pt, attQ, AttS.e]
   repeat' (first | refine SX ?_ | refine SB ?_ | fail)
   (refine SRt ?_; unfold RetQ; refine ⟨a, (fun p hp => by cases hp), rfl, permA⟩)
 ·by_cases hb : d.length = 0 ∨ d.length % 4 ≠ 0 ∨ 128 < d.length
  ·have e : setG (szF four) a.pa 8 d = none := by unfold setG; rw [if_neg (by decide), if_neg (by decide), if_pos rfl, if_pos hb]
   rw [e]
   refine Tri_in Tryz.func200 rfl (fun w0 S0 => ?_)
   dsimp only [pt, attQ, AttS.e]
   repeat' (first | refine SX ?_ | (refine KC ?_; refine HO_callq rfl rfl rfl rfl (rcomms_bad dA dc d hb) (fun _ _ => rfl) (trivial) rfl rfl sqA ?_) | refine SB ?_ | fail)
   refine HX_keeps (Keeps.add (e := ownI none 0 []) (fun w => own_nil w) Keeps.refl) ?_
   (refine SRt ?_; unfold RetQ; refine ⟨{ a with cA := none, cc := 0, comms := [] }, (fun p hp => by cases hp), rfl, permA⟩)
  ·have e : setG (szF four) a.pa 8 d = some { a.pa with comms := numsG 4 (d.length / 4) d } := by unfold setG; rw [if_neg (by decide), if_neg (by decide), if_pos rfl, if_neg hb]
   have hcm := rcomms_ok dA dc d hdc (d.length / 4) (by omega) (by omega) (by omega)
   rw [e]
   refine Tri_in Tryz.func200 rfl (fun w0 S0 => ?_)
   dsimp only [pt, attQ, AttS.e]
   repeat' (first | refine SX ?_ | (refine KC ?_; refine HO_call rfl rfl rfl rfl (hcm) rfl (srcsA) rfl rfl soA ?_; intro ⟨xA, xc⟩ hx; dsimp only [lca, lna]) | refine SB ?_ | fail)
   (refine SRt ?_; unfold RetQ; refine ⟨{ a with cA := xA, cc := xc, comms := numsG 4 (d.length / 4) d }, (fun p hp => by injection hp), rfl, permA⟩)
end Go.Proofs.YteeogabkkblkgaaGreatDoor
