/- Part of a proof of many texts: what the theorem at its end leans on. -/
import Derived.Test.YteeogabkkblkgaaGreatDoorVLpA
namespace Go.Proofs.YteeogabkkblkgaaGreatDoor
set_option maxHeartbeats 1000000000
set_option linter.unusedVariables false
set_option linter.unusedSimpArgs false
open Go.RowKit
attribute [local irreducible] HC HX HO Tri eP adr
def fd : PrQ × RsQ UpP := inM updM 0 bg2.1 theirB
theorem fd_up : fd.2.up = true := by decide +kernel
theorem fd_ph : fd.1.st.ph = 5 := by decide +kernel
theorem ok_fd : PrOk fd.1 := ⟨by decide +kernel, by decide +kernel, by decide +kernel, by decide +kernel, by decide +kernel, by decide +kernel, by decide +kernel, by decide +kernel, by decide +kernel⟩
theorem hap_end {now : Int} {p : PrQ} {e : EvQ} {code sub : Int} {d : List UInt8} (hs : stepR p.lo p.st e.s = fallR p.lo p.st code sub d) (h5 : p.st.ph = 5) (hc : code ≠ 0) (hk : ntOk ⟨code, sub, d⟩ = true) :
  (hapM now p (rs0 : RsQ UpP) e).2 = ⟨[], false, true, frB 3 (ntB ⟨code, sub, d⟩), false, true⟩ ∧ (hapM now p (rs0 : RsQ UpP) e).1.q = [] ∧ (hapM now p (rs0 : RsQ UpP) e).1.st.ph = 2 := by
 have h1 : acsR (stepR p.lo p.st e.s) = endQ p.st.ph p.lo.retry code sub d := by rw [hs]; exact acsR_fall _ _ _ _ _
 have ea := end_acts now { p with st := (stepR p.lo p.st e.s).t } (rs0 : RsQ UpP) p.st.ph p.lo.retry code sub d
 rw [← h1] at ea
 have hst := (onceM_st now p (rs0 : RsQ UpP) e).1
 have hh : hapM now p (rs0 : RsQ UpP) e = ((onceM now p (rs0 : RsQ UpP) e).1, (onceM now p (rs0 : RsQ UpP) e).2.1) := if_pos ea.1
 have e1 : (onceM now p (rs0 : RsQ UpP) e).1 = _ := ea.2.1
 have e2 : (onceM now p (rs0 : RsQ UpP) e).2.1 = _ := ea.2.2
 rw [hh]
 refine ⟨?_, ?_, ?_⟩
 ·show (onceM now p (rs0 : RsQ UpP) e).2.1 = _
  rw [e2, if_pos ⟨hc, hk⟩, if_pos h5]
  rfl
 ·show (onceM now p (rs0 : RsQ UpP) e).1.q = _
  rw [e1]
  have tq : ∀ (p : PrQ) (k n now : Int), (timeM p k n now).q = p.q := fun p k n now => by
   unfold timeM
   split <;> rfl
  rw [tq, tq, tq]
 ·show (onceM now p (rs0 : RsQ UpP) e).1.st.ph = _
  rw [hst, hs]
  rfl
theorem step_10 (l : Loc) (s : Sta) (hl : locOk l.asn l.hold l.id l.paths l.retry l.four = true) (h : s.ph = 5) : stepR l s (⟨10, op0, nt0⟩ : EvQ).s = fallR l s 4 0 [] := by
 unfold stepR
 rw [if_pos ⟨hl, by omega, by omega⟩, if_neg (by show ¬ (10 : Int) = 2; decide), if_neg (by omega), if_neg (by omega)]
 rfl
theorem do_10 {now : Int} (h0 : 0 ≤ now) {p : PrQ} (hp : PrOk p) (h5 : p.st.ph = 5) :
  (doM now p 10 : PrQ × RsQ UpP).2 = ⟨[], false, true, frB 3 (ntB ⟨4, 0, []⟩), false, true⟩ ∧ (doM now p 10 : PrQ × RsQ UpP).1.q = [] ∧ (doM now p 10 : PrQ × RsQ UpP).1.st.ph = 2 := by
 have e : (doM now p 10 : PrQ × RsQ UpP) = hapM now p rs0 ⟨10, op0, nt0⟩ := if_pos ⟨by decide, h0⟩
 rw [e]
 exact hap_end (step_10 _ _ hp.lo h5) h5 (by decide) (by decide +kernel)
theorem close_end {now : Int} (h0 : 0 ≤ now) {p : PrQ} (hp : PrOk p) (h5 : p.st.ph = 5) (n : NtQ) (hc : n.c ≠ 0) (hk : ntOk n = true) :
  (closeM now p n : PrQ × RsQ UpP).2 = ⟨[], false, true, frB 3 (ntB n), false, true⟩ ∧ (closeM now p n : PrQ × RsQ UpP).1.q = [] ∧ (closeM now p n : PrQ × RsQ UpP).1.st.ph = 2 := by
 have e : (closeM now p n : PrQ × RsQ UpP) = hapM now p rs0 (badQ n) := if_pos h0
 rw [e]
 exact hap_end (step_bad _ _ n hp.lo ⟨by omega, by omega⟩) h5 hc hk
theorem frB_nt (n : NtQ) : (frB 3 (ntB n)).length = 21 + n.d.length ∧ (frB 3 (ntB n))[19]? = some (UInt8.ofNat n.c.toNat) ∧ (frB 3 (ntB n))[20]? = some (UInt8.ofNat n.s.toNat) := by
 have hl := frB_len 3 (ntB n)
 have hn : (ntB n).length = 2 + n.d.length := by simp [ntB]; omega
 refine ⟨by rw [hl, hn]; omega, ?_, ?_⟩
 ·rfl
 ·rfl
end Go.Proofs.YteeogabkkblkgaaGreatDoor
