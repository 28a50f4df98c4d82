/- Part of a proof of many texts: what the theorem at its end leans on. -/
import Derived.Test.YteeogabkkblkgaaGreatDoorXPLpE
import Derived.Test.YteeogabkkblkgaaGreatDoorVPeQ
namespace Go.Proofs.YteeogabkkblkgaaGreatDoor
set_option maxHeartbeats 1000000000
set_option linter.unusedVariables false
set_option linter.unusedSimpArgs false
section
variable {m : Md} {P : Program} {N : Nat} {w0 : World} {S0 : Foot} {ops : List Oper} {i : Nat} {lq : List Nat} {env : Env} {ro rw : List SL} {K : Act → World → Prop}
theorem HO_4p {ro0 : List SL} {l l1 l2 l3 l4 : List Nat} (i1 i2 i3 i4 : Nat) (hr : Region.ready .any ops.toArray (dlist ops l) = [i1, i2, i3, i4]) (p1 : pullN i1 l = some l1) (p2 : pullN i2 l = some l2) (p3 : pullN i3 l = some l3) (p4 : pullN i4 l = some l4) (ok : pickOk ops l i1 l1 ∧ pickOk ops l i2 l2 ∧ pickOk ops l i3 l3 ∧ pickOk ops l i4 l4)
  (g1 : HO (.pick ro0) P N w0 S0 ops (i1 :: l1) env ro rw K) (g2 : HO (.pick ro0) P N w0 S0 ops (i2 :: l2) env ro rw K) (g3 : HO (.pick ro0) P N w0 S0 ops (i3 :: l3) env ro rw K) (g4 : HO (.pick ro0) P N w0 S0 ops (i4 :: l4) env ro rw K) : HO (.lex ro0) P N w0 S0 ops l env ro rw K :=
 HO_many hr rfl fun q hq => by
  simp only [List.mem_cons, List.not_mem_nil, or_false] at hq
  rcases hq with rfl | rfl | rfl | rfl
  ·exact ⟨l1, ok.1, g1⟩
  ·exact ⟨l2, ok.2.1, g2⟩
  ·exact ⟨l3, ok.2.2.1, g3⟩
  ·exact ⟨l4, ok.2.2.2, g4⟩
end
section
variable {υ : Type}
def radd (a b : RsQ υ) : RsQ υ := ⟨a.ups ++ b.ups, a.con || b.con, a.clo || b.clo, a.last ++ b.last, a.up || b.up, a.dn || b.dn⟩
theorem radd_0 (a : RsQ υ) : radd a (rs0 : RsQ υ) = a := by simp [radd, rs0]
theorem radd_assoc (a b c : RsQ υ) : radd (radd a b) c = radd a (radd b c) := by simp [radd, Bool.or_assoc]
theorem sendM_app (p : PrQ) (c : List UInt8) (k : Int) (b : List UInt8) : sendM (pApp p c) k b = (pApp (sendM p k b).1 c, (sendM p k b).2) := by
 unfold sendM pApp
 dsimp only
 split <;> rfl
theorem timeM_app (p : PrQ) (c : List UInt8) (k n now : Int) : timeM (pApp p c) k n now = pApp (timeM p k n now) c := by
 unfold timeM pApp
 dsimp only
 split <;> rfl
theorem actM_app (now : Int) (p : PrQ) (r : RsQ υ) (a : AcQ) (h : mild a = true) (c : List UInt8) : actM now (pApp p c) r a = (pApp (actM now p r a).1 c, (actM now p r a).2) := by
 simp only [mild, Bool.and_eq_true, decide_eq_true_eq] at h
 unfold actM
 rw [sendM_app, sendM_app, timeM_app, timeM_app, timeM_app, if_neg h.1, if_neg h.2, if_neg h.1, if_neg h.2]
 repeat' split
 all_goals rfl
theorem actsM_app (now : Int) (c : List UInt8) : ∀ (l : List AcQ) (p : PrQ) (r : RsQ υ), l.all mild = true → actsM now (pApp p c) r l = (pApp (actsM now p r l).1 c, (actsM now p r l).2)
 | [], p, r, _ => rfl
 | a :: l, p, r, h => by
  simp only [List.all_cons, Bool.and_eq_true] at h
  unfold actsM
  rw [actM_app now p r a h.1 c]
  dsimp only
  split
  ·exact actsM_app now c l _ _ h.2
  ·rfl
theorem hap_app (now : Int) (p : PrQ) (r : RsQ υ) (e : EvQ) (c : List UInt8) (hl : locOk p.lo.asn p.lo.hold p.lo.id p.lo.paths p.lo.retry p.lo.four = true) (h : 3 ≤ p.st.ph ∧ p.st.ph ≤ 5) :
  hapM now (pApp p c) r e = if (hapM now p r e).1.st.ph < 3 then hapM now p r e else (pApp (hapM now p r e).1 c, (hapM now p r e).2) := by
 rcases talk_cases p.lo p.st e hl h with ⟨h1, h2⟩ | ⟨h1, retry, code, sub, d, h2⟩
 ·have e1 : onceM now (pApp p c) r e = (pApp (onceM now p r e).1 c, (onceM now p r e).2) := actsM_app now c _ { p with st := (stepR p.lo p.st e.s).t } r h2
  have hst := onceM_st now p r e
  by_cases h3 : (onceM now p r e).2.2 = true
  ·have e2 : hapM now p r e = ((onceM now p r e).1, (onceM now p r e).2.1) := if_pos h3
   have e3 : hapM now (pApp p c) r e = (pApp (onceM now p r e).1 c, (onceM now p r e).2.1) := by
    unfold hapM
    rw [e1]
    exact if_pos h3
   rw [e3, e2, if_neg (by dsimp only; rw [hst.1]; omega)]
  ·have h5 := step_ph p.lo p.st e.s (by omega)
   have e2 : hapM now p r e = ((onceM now (onceM now p r e).1 (onceM now p r e).2.1 fullQ).1, (onceM now (onceM now p r e).1 (onceM now p r e).2.1 fullQ).2.1) := if_neg h3
   obtain ⟨b1, b2, b3⟩ := once_bad now (onceM now p r e).1 (onceM now p r e).2.1 ⟨6, 8, []⟩ (by rw [hst.2.1]; exact hl) (by rw [hst.1]; exact ⟨h1, h5.2⟩)
   have e3 : hapM now (pApp p c) r e = ((onceM now (onceM now p r e).1 (onceM now p r e).2.1 fullQ).1, (onceM now (onceM now p r e).1 (onceM now p r e).2.1 fullQ).2.1) := by
    unfold hapM
    rw [e1]
    dsimp only
    rw [if_neg h3]
    unfold fullQ
    rw [b3]
   rw [e3, e2]
   unfold fullQ
   rw [if_pos (by dsimp only; rw [b2]; decide)]
 ·have e1 : onceM now (pApp p c) r e = onceM now p r e := by
   unfold onceM
   show actsM now (pApp { p with st := (stepR p.lo p.st e.s).t } c) r (acsR (stepR p.lo p.st e.s)) = _
   rw [h2]
   exact end_app now _ r c _ _ _ _ _
  have h3 : (onceM now p r e).2.2 = true := by
   unfold onceM
   rw [h2]
   exact (end_acts now _ r _ _ _ _ _).1
  have e2 : hapM now p r e = ((onceM now p r e).1, (onceM now p r e).2.1) := if_pos h3
  have e3 : hapM now (pApp p c) r e = ((onceM now p r e).1, (onceM now p r e).2.1) := by
   unfold hapM
   rw [e1]
   exact if_pos h3
  rw [e3, e2, if_pos (by dsimp only; rw [(onceM_st now p r e).1]; exact h1)]
theorem actM_add (now : Int) (p : PrQ) (r : RsQ υ) (a : AcQ) (h : mild a = true) : actM now p r a = ((actM now p (rs0 : RsQ υ) a).1, radd r (actM now p (rs0 : RsQ υ) a).2.1, (actM now p (rs0 : RsQ υ) a).2.2) ∧ (actM now p (rs0 : RsQ υ) a).2.1.last = [] ∧ (actM now p (rs0 : RsQ υ) a).2.1.ups = [] := by
 simp only [mild, Bool.and_eq_true, decide_eq_true_eq] at h
 unfold actM
 rw [if_neg h.1, if_neg h.2, if_neg h.1, if_neg h.2]
 repeat' split
 all_goals (refine ⟨?_, rfl, rfl⟩; simp [radd, rs0])
theorem actsM_add (now : Int) : ∀ (l : List AcQ) (p : PrQ) (r : RsQ υ), l.all mild = true → actsM now p r l = ((actsM now p (rs0 : RsQ υ) l).1, radd r (actsM now p (rs0 : RsQ υ) l).2.1, (actsM now p (rs0 : RsQ υ) l).2.2) ∧ (actsM now p (rs0 : RsQ υ) l).2.1.last = [] ∧ (actsM now p (rs0 : RsQ υ) l).2.1.ups = []
 | [], p, r, _ => ⟨by unfold actsM; rw [radd_0], rfl, rfl⟩
 | a :: l, p, r, h => by
  simp only [List.all_cons, Bool.and_eq_true] at h
  obtain ⟨h1, h2, h2u⟩ := actM_add now p r a h.1
  unfold actsM
  rw [h1]
  dsimp only
  obtain ⟨h3, h4, h4u⟩ := actsM_add now l (actM now p (rs0 : RsQ υ) a).1 (radd r (actM now p (rs0 : RsQ υ) a).2.1) h.2
  obtain ⟨h5, h6, h6u⟩ := actsM_add now l (actM now p (rs0 : RsQ υ) a).1 (actM now p (rs0 : RsQ υ) a).2.1 h.2
  by_cases hc : (actM now p (rs0 : RsQ υ) a).2.2 = true
  ·rw [if_pos hc, if_pos hc, h3, h5]
   dsimp only
   refine ⟨by rw [radd_assoc], ?_, ?_⟩
   ·unfold radd
    dsimp only
    rw [h2, h4]
    rfl
   ·unfold radd
    dsimp only
    rw [h2u, h4u]
    rfl
  ·rw [if_neg hc, if_neg hc]
   exact ⟨rfl, h2, h2u⟩
theorem end_add (now : Int) (p : PrQ) (r : RsQ υ) (hr : r.last = []) (ph retry code sub : Int) (d : List UInt8) :
  actsM now p r (endQ ph retry code sub d) = ((actsM now p (rs0 : RsQ υ) (endQ ph retry code sub d)).1, radd r (actsM now p (rs0 : RsQ υ) (endQ ph retry code sub d)).2.1, (actsM now p (rs0 : RsQ υ) (endQ ph retry code sub d)).2.2) ∧ (actsM now p (rs0 : RsQ υ) (endQ ph retry code sub d)).2.1.ups = [] := by
 have h1 := end_acts now p r ph retry code sub d
 have h2 := end_acts now p (rs0 : RsQ υ) ph retry code sub d
 refine ⟨Prod.ext ?_ (Prod.ext ?_ ?_), ?_⟩
 ·rw [h1.2.1, h2.2.1]
 ·dsimp only
  rw [h1.2.2, h2.2.2]
  unfold radd rs0
  dsimp only
  rw [hr]
  congr 1
  ·simp
  ·simp
  ·simp
  ·simp
  ·split <;> simp
 ·dsimp only
  rw [h1.1, h2.1]
 ·rw [h2.2.2]
  rfl
theorem hap_add (now : Int) (p : PrQ) (r : RsQ υ) (hr : r.last = []) (e : EvQ) (hl : locOk p.lo.asn p.lo.hold p.lo.id p.lo.paths p.lo.retry p.lo.four = true) (h : 3 ≤ p.st.ph ∧ p.st.ph ≤ 5) :
  hapM now p r e = ((hapM now p (rs0 : RsQ υ) e).1, radd r (hapM now p (rs0 : RsQ υ) e).2) ∧ (3 ≤ (hapM now p (rs0 : RsQ υ) e).1.st.ph → (hapM now p (rs0 : RsQ υ) e).2.last = []) ∧ (hapM now p (rs0 : RsQ υ) e).2.ups = [] := by
 rcases talk_cases p.lo p.st e hl h with ⟨h1, h2⟩ | ⟨h1, retry, code, sub, d, h2⟩
 ·obtain ⟨e1, e1l, e1u⟩ : onceM now p r e = ((onceM now p (rs0 : RsQ υ) e).1, radd r (onceM now p (rs0 : RsQ υ) e).2.1, (onceM now p (rs0 : RsQ υ) e).2.2) ∧ (onceM now p (rs0 : RsQ υ) e).2.1.last = [] ∧ (onceM now p (rs0 : RsQ υ) e).2.1.ups = [] := actsM_add now _ { p with st := (stepR p.lo p.st e.s).t } r h2
  have hst := onceM_st now p (rs0 : RsQ υ) e
  have h5 := step_ph p.lo p.st e.s (by omega)
  by_cases h3 : (onceM now p (rs0 : RsQ υ) e).2.2 = true
  ·unfold hapM
   rw [e1]
   dsimp only
   rw [if_pos h3, if_pos h3]
   exact ⟨rfl, fun _ => e1l, e1u⟩
  ·have hp : 3 ≤ (onceM now p (rs0 : RsQ υ) e).1.st.ph ∧ (onceM now p (rs0 : RsQ υ) e).1.st.ph ≤ 5 := by rw [hst.1]; exact ⟨h1, h5.2⟩
   have hlo : locOk (onceM now p (rs0 : RsQ υ) e).1.lo.asn (onceM now p (rs0 : RsQ υ) e).1.lo.hold (onceM now p (rs0 : RsQ υ) e).1.lo.id (onceM now p (rs0 : RsQ υ) e).1.lo.paths (onceM now p (rs0 : RsQ υ) e).1.lo.retry (onceM now p (rs0 : RsQ υ) e).1.lo.four = true := by rw [hst.2.1]; exact hl
   unfold hapM
   rw [e1]
   dsimp only
   rw [if_neg h3, if_neg h3]
   have hq : acsR (stepR (onceM now p (rs0 : RsQ υ) e).1.lo (onceM now p (rs0 : RsQ υ) e).1.st fullQ.s) = endQ (onceM now p (rs0 : RsQ υ) e).1.st.ph (onceM now p (rs0 : RsQ υ) e).1.lo.retry 6 8 [] := by
    unfold fullQ
    rw [step_bad _ _ _ hlo hp]
    exact acsR_fall _ _ _ _ _
   have b1 := end_add now { (onceM now p (rs0 : RsQ υ) e).1 with st := (stepR (onceM now p (rs0 : RsQ υ) e).1.lo (onceM now p (rs0 : RsQ υ) e).1.st fullQ.s).t } (radd r (onceM now p (rs0 : RsQ υ) e).2.1) (by unfold radd; dsimp only; rw [hr, e1l]; rfl) (onceM now p (rs0 : RsQ υ) e).1.st.ph (onceM now p (rs0 : RsQ υ) e).1.lo.retry 6 8 []
   have b2 := end_add now { (onceM now p (rs0 : RsQ υ) e).1 with st := (stepR (onceM now p (rs0 : RsQ υ) e).1.lo (onceM now p (rs0 : RsQ υ) e).1.st fullQ.s).t } (onceM now p (rs0 : RsQ υ) e).2.1 e1l (onceM now p (rs0 : RsQ υ) e).1.st.ph (onceM now p (rs0 : RsQ υ) e).1.lo.retry 6 8 []
   rw [← hq] at b1 b2
   have c1 : onceM now (onceM now p (rs0 : RsQ υ) e).1 (radd r (onceM now p (rs0 : RsQ υ) e).2.1) fullQ = _ := b1.1
   have c2 : onceM now (onceM now p (rs0 : RsQ υ) e).1 (onceM now p (rs0 : RsQ υ) e).2.1 fullQ = _ := b2.1
   rw [c1, c2]
   dsimp only
   refine ⟨by rw [radd_assoc], fun hh => ?_, ?_⟩
   ·exfalso
    rw [(actsM_st now _ _ _).1] at hh
    dsimp only at hh
    unfold fullQ at hh
    rw [step_bad _ _ _ hlo hp] at hh
    revert hh
    show ¬ (3 : Int) ≤ 2
    decide
   ·unfold radd
    dsimp only
    rw [e1u, b2.2]
    rfl
 ·have b1 := end_add now { p with st := (stepR p.lo p.st e.s).t } r hr p.st.ph retry code sub d
  rw [← h2] at b1
  have c1 : onceM now p r e = _ := b1.1
  have h3 : (onceM now p (rs0 : RsQ υ) e).2.2 = true := by
   unfold onceM
   rw [h2]
   exact (end_acts now _ _ _ _ _ _ _).1
  unfold hapM
  rw [c1]
  have h4 : (actsM now { p with st := (stepR p.lo p.st e.s).t } (rs0 : RsQ υ) (acsR (stepR p.lo p.st e.s))).2.2 = true := h3
  dsimp only
  rw [if_pos h4, if_pos h3]
  refine ⟨rfl, fun hh => ?_, b1.2⟩
  exfalso
  dsimp only at hh
  rw [(onceM_st now p (rs0 : RsQ υ) e).1] at hh
  omega
end
section
variable {υ : Type} (upd : Bool → Bool → List UInt8 → Option υ × NtQ) (now : Int)
theorem msgM_add (p : PrQ) (r : RsQ υ) (k : Int) (b : List UInt8) : msgM upd p r k b = (radd r (msgM upd p (rs0 : RsQ υ) k b).1, (msgM upd p (rs0 : RsQ υ) k b).2) ∧ (msgM upd p (rs0 : RsQ υ) k b).1.last = [] := by
 unfold msgM
 split
 ·exact ⟨by rw [radd_0], rfl⟩
 split
 ·exact ⟨by rw [radd_0], rfl⟩
 split
 ·split
  ·split
   ·exact ⟨by rw [radd_0], rfl⟩
   ·exact ⟨by simp [radd, rs0], rfl⟩
  ·exact ⟨by rw [radd_0], rfl⟩
 ·exact ⟨by rw [radd_0], rfl⟩
theorem one_add {p : PrQ} (r : RsQ υ) (hr : r.last = []) (h : Talk p) {m : Int × List UInt8} (hm : (nextM p.s).2.1 = some m) :
  oneM upd now p r m = ((oneM upd now p (rs0 : RsQ υ) m).1, radd r (oneM upd now p (rs0 : RsQ υ) m).2) ∧ (3 ≤ (oneM upd now p (rs0 : RsQ υ) m).1.st.ph → (oneM upd now p (rs0 : RsQ υ) m).2.last = []) := by
 obtain ⟨a1, a2⟩ := msgM_add upd p r m.1 m.2
 unfold oneM
 rw [a1]
 dsimp only
 have b1 := hap_add now { p with s := (nextM p.s).1 } (radd r (msgM upd p (rs0 : RsQ υ) m.1 m.2).1) (by unfold radd; dsimp only; rw [hr, a2]; rfl) (msgM upd p (rs0 : RsQ υ) m.1 m.2).2 h.ok.lo h.pp
 have b2 := hap_add now { p with s := (nextM p.s).1 } (msgM upd p (rs0 : RsQ υ) m.1 m.2).1 a2 (msgM upd p (rs0 : RsQ υ) m.1 m.2).2 h.ok.lo h.pp
 rw [b1.1, b2.1]
 dsimp only
 refine ⟨by rw [radd_assoc], fun hh => ?_⟩
 unfold radd
 dsimp only
 rw [a2, b1.2.1 hh]
 rfl
theorem one_app {p : PrQ} (r : RsQ υ) (h : Talk p) {m : Int × List UInt8} (hm : (nextM p.s).2.1 = some m) (c : List UInt8) :
  oneM upd now (pApp p c) r m = if (oneM upd now p r m).1.st.ph < 3 then oneM upd now p r m else (pApp (oneM upd now p r m).1 c, (oneM upd now p r m).2) := by
 have hnc : p.s.n.c = 0 := by rw [h.n]; rfl
 have h4 := next_some hnc hm c
 have h5 : nextM (pApp p c).s = (stApp (nextM p.s).1 c, some m, nt0) := h4.1
 unfold oneM
 rw [h5]
 exact hap_app now { p with s := (nextM p.s).1 } _ _ c h.ok.lo h.pp
theorem drain_fuel : ∀ (k k' : Nat) (p : PrQ) (r : RsQ υ), Talk p → p.s.b.length + 2 ≤ k → p.s.b.length + 2 ≤ k' → drainM upd now k p r = drainM upd now k' p r
 | 0, _, p, r, _, h, _ => by omega
 | _, 0, p, r, _, _, h => by omega
 | k + 1, k' + 1, p, r, hT, h1, h2 => by
  rcases step_of upd now r hT with ⟨_, _, e⟩ | ⟨_, p', r', _, e, _⟩ | ⟨m, hm⟩
  ·rw [e, e]
  ·rw [e, e]
  ·rw [drain_some upd now r hT hm, drain_some upd now r hT hm]
   have ho := one_ok upd now r hT hm
   by_cases h3 : (oneM upd now p r m).1.st.ph < 3
   ·rw [drain_lo upd now h3, drain_lo upd now h3]
   ·exact drain_fuel k k' _ _ (Talk.of ho.1 ho.2.1 h3) (by omega) (by omega)
theorem drain_add : ∀ (k : Nat) (p : PrQ) (r : RsQ υ), Talk p → r.last = [] → p.s.b.length + 2 ≤ k →
  drainM upd now k p r = ((drainM upd now k p (rs0 : RsQ υ)).1, radd r (drainM upd now k p (rs0 : RsQ υ)).2) ∧ (3 ≤ (drainM upd now k p (rs0 : RsQ υ)).1.st.ph → (drainM upd now k p (rs0 : RsQ υ)).2.last = [])
 | 0, p, r, _, _, h => by omega
 | k + 1, p, r, hT, hr, h1 => by
  by_cases hs : ∃ m, (nextM p.s).2.1 = some m
  ·obtain ⟨m, hm⟩ := hs
   rw [drain_some upd now r hT hm, drain_some upd now (rs0 : RsQ υ) hT hm]
   have ho := one_ok upd now (rs0 : RsQ υ) hT hm
   have ha := one_add upd now r hr hT hm
   rw [ha.1]
   dsimp only
   by_cases h3 : (oneM upd now p (rs0 : RsQ υ) m).1.st.ph < 3
   ·rw [drain_lo upd now h3, drain_lo upd now h3]
    exact ⟨rfl, fun hh => by dsimp only at hh; omega⟩
   ·have hl := ha.2 (by omega)
    have hT2 := Talk.of ho.1 ho.2.1 h3
    have d1 := drain_add k (oneM upd now p (rs0 : RsQ υ) m).1 (radd r (oneM upd now p (rs0 : RsQ υ) m).2) hT2 (by unfold radd; dsimp only; rw [hr, hl]; rfl) (by omega)
    have d2 := drain_add k (oneM upd now p (rs0 : RsQ υ) m).1 (oneM upd now p (rs0 : RsQ υ) m).2 hT2 hl (by omega)
    rw [d1.1, d2.1]
    dsimp only
    refine ⟨by rw [radd_assoc], fun hh => ?_⟩
    unfold radd
    dsimp only
    rw [hl, d1.2 hh]
    rfl
  ·rcases step_of upd now r hT with ⟨_, _, e⟩ | ⟨hb, _, _, _, _, _⟩ | ⟨m, hm⟩
   ·rcases step_of upd now (rs0 : RsQ υ) hT with ⟨_, _, e2⟩ | ⟨hb, _, _, _, _, _⟩ | ⟨m, hm⟩
    ·rw [e, e2]
     exact ⟨by rw [radd_0], fun _ => rfl⟩
    ·exact absurd (by assumption) hb
    ·exact absurd ⟨m, hm⟩ hs
   ·have hb2 := hap_add now { p with s := (nextM p.s).1 } r hr (badQ (nextM p.s).2.2) hT.ok.lo hT.pp
    have hb3 := hap_bad now { p with s := (nextM p.s).1 } (rs0 : RsQ υ) (nextM p.s).2.2 hT.ok.lo hT.pp
    have e1 : ∀ r : RsQ υ, (hapM now { p with s := (nextM p.s).1 } r (badQ (nextM p.s).2.2)).1.st.ph < 3 → drainM upd now (k + 1) p r = hapM now { p with s := (nextM p.s).1 } r (badQ (nextM p.s).2.2) := fun r h => by
     conv => lhs; unfold drainM
     rw [if_neg (by have := hT.ph; omega), if_pos hb]
     exact drain_lo upd now h k
    rw [e1 r (by rw [hb2.1]; dsimp only; rw [hb3.1]; decide), e1 (rs0 : RsQ υ) (by rw [hb3.1]; decide)]
    exact ⟨hb2.1, fun hh => by rw [hb3.1] at hh; omega⟩
   ·exact absurd ⟨m, hm⟩ hs
theorem drain_app (c : List UInt8) : ∀ (k k' k2 : Nat) (p : PrQ) (r : RsQ υ), Talk p → p.s.b.length + c.length ≤ 65536 → p.s.b.length + 2 ≤ k → p.s.b.length + c.length + 2 ≤ k' → p.s.b.length + c.length + 2 ≤ k2 →
  drainM upd now k' (pApp p c) r = if (drainM upd now k p r).1.st.ph < 3 then drainM upd now k p r else drainM upd now k2 (pApp (drainM upd now k p r).1 c) (drainM upd now k p r).2
 | 0, _, _, p, r, _, _, h, _, _ => by omega
 | _, 0, _, p, r, _, _, _, h, _ => by omega
 | k + 1, k' + 1, k2, p, r, hT, hc, h1, h2, h3 => by
  have hnc : p.s.n.c = 0 := by rw [hT.n]; rfl
  have tapp : ∀ {q : PrQ}, Talk q → q.s.b.length + c.length ≤ 65536 → Talk (pApp q c) := fun {q} hq hl => hq.app hl
  rcases step_of upd now r hT with ⟨_, _, e⟩ | ⟨hb, p', r', hp, e, ea⟩ | ⟨m, hm⟩
  ·rw [e, if_neg (by have := hT.ph; dsimp only; omega)]
   exact drain_fuel upd now _ _ _ _ (tapp hT hc) (by show (p.s.b ++ c).length + 2 ≤ _; rw [List.length_append]; omega) (by show (p.s.b ++ c).length + 2 ≤ _; rw [List.length_append]; omega)
  ·rw [e, ea, if_pos (by dsimp only; rw [hp]; decide)]
  ·have hmc : (nextM (pApp p c).s).2.1 = some m := by
    have h5 : nextM (pApp p c).s = (stApp (nextM p.s).1 c, some m, nt0) := (next_some hnc hm c).1
    rw [h5]
   rw [drain_some upd now r hT hm, drain_some upd now r (tapp hT hc) hmc, one_app upd now r hT hm c]
   have ho := one_ok upd now r hT hm
   by_cases h4 : (oneM upd now p r m).1.st.ph < 3
   ·rw [if_pos h4, drain_lo upd now h4, drain_lo upd now h4, if_pos h4]
   ·rw [if_neg h4]
    exact drain_app c k k' k2 (oneM upd now p r m).1 (oneM upd now p r m).2 (Talk.of ho.1 ho.2.1 h4) (by omega) (by omega) (by omega) (by omega)
theorem inM_lo {p : PrQ} (h : p.st.ph < 3) (b : List UInt8) : inM upd now p b = (p, (rs0 : RsQ υ)) := if_pos (.inr (.inr h))
theorem inM_talk {p : PrQ} (h : Talk p) (hn : 0 ≤ now) (b : List UInt8) (hb : p.s.b.length + b.length ≤ 65536) : inM upd now p b = drainM upd now (p.s.b.length + b.length + 2) (pApp p b) rs0 := by
 have hf : feedM p.s b = (⟨p.s.b ++ b, p.s.n⟩, 0) := by
  unfold feedM
  rw [if_neg (by rw [h.n]; decide), if_neg (by omega)]
 unfold inM
 rw [if_neg (by have := h.ph; omega), hf, if_neg (by show ¬ (0 : Int) ≠ 0; decide)]
 dsimp only
 rw [List.length_append]
 rfl
theorem inM_ok {p : PrQ} (h : Talk p) (hn : 0 ≤ now) (b : List UInt8) (hb : p.s.b.length + b.length ≤ 65536) :
  PrOk (inM upd now p b).1 ∧ (inM upd now p b).1.s.n = nt0 ∧ (inM upd now p b).1.s.b.length ≤ p.s.b.length + b.length ∧ (3 ≤ (inM upd now p b).1.st.ph → (inM upd now p b).2.last = []) := by
 rw [inM_talk upd now h hn b hb]
 have hl : (pApp p b).s.b.length = p.s.b.length + b.length := List.length_append
 have h1 := drain_ok upd now (p.s.b.length + b.length + 2) (pApp p b) (rs0 : RsQ υ) (h.app hb) (by rw [hl]; exact Nat.le_refl _)
 exact ⟨h1.1, h1.2.1, by have := h1.2.2; rw [hl] at this; exact this, (drain_add upd now _ _ (rs0 : RsQ υ) (h.app hb) rfl (by rw [hl]; exact Nat.le_refl _)).2⟩
theorem inM_app {p : PrQ} (h : Talk p) (hn : 0 ≤ now) (b c : List UInt8) (hb : p.s.b.length + b.length + c.length ≤ 65536) :
  inM upd now p (b ++ c) = ((inM upd now (inM upd now p b).1 c).1, radd (inM upd now p b).2 (inM upd now (inM upd now p b).1 c).2) := by
 have ho := inM_ok upd now h hn b (by omega)
 have hT := h.app (b := b) (by omega)
 have hl : (pApp p b).s.b.length = p.s.b.length + b.length := List.length_append
 have e1 : inM upd now p (b ++ c) = drainM upd now (p.s.b.length + b.length + c.length + 2) (pApp (pApp p b) c) rs0 := by
  rw [inM_talk upd now h hn (b ++ c) (by rw [List.length_append]; omega), List.length_append, ← Nat.add_assoc]
  show drainM upd now _ { p with s := ⟨p.s.b ++ (b ++ c), p.s.n⟩ } rs0 = drainM upd now _ { p with s := ⟨p.s.b ++ b ++ c, p.s.n⟩ } rs0
  rw [List.append_assoc]
 rw [e1, drain_app upd now c (p.s.b.length + b.length + 2) _ (p.s.b.length + b.length + c.length + 2) (pApp p b) (rs0 : RsQ υ) hT (by rw [hl]; exact hb) (by rw [hl]; exact Nat.le_refl _) (by rw [hl]; exact Nat.le_refl _) (by rw [hl]; exact Nat.le_refl _),
  ← inM_talk upd now h hn b (by omega)]
 by_cases h3 : (inM upd now p b).1.st.ph < 3
 ·rw [if_pos h3, inM_lo upd now h3 c, radd_0]
 ·rw [if_neg h3]
  have hT2 := Talk.of ho.1 ho.2.1 h3
  rw [inM_talk upd now hT2 hn c (by omega)]
  have hl2 : (pApp (inM upd now p b).1 c).s.b.length = (inM upd now p b).1.s.b.length + c.length := List.length_append
  have hT3 := hT2.app (b := c) (by omega)
  rw [drain_fuel upd now _ ((inM upd now p b).1.s.b.length + c.length + 2) _ _ hT3 (by rw [hl2]; omega) (by rw [hl2]; exact Nat.le_refl _)]
  exact (drain_add upd now _ _ _ hT3 (ho.2.2.2 (by omega)) (by rw [hl2]; exact Nat.le_refl _)).1
end
theorem ph_bg2 : bg2.1.st.ph = 3 := by decide +kernel
theorem talk_bg2 : Talk bg2.1 := ⟨ok_bg2, by rw [ph_bg2]; decide, by kernel_rfl⟩
theorem sb_bg2 : bg2.1.s.b.length = 0 := by decide +kernel
theorem ho_bg2 : HoOk bg2.1.st := by
 have : bg2.1.st.hold = 0 := by decide +kernel
 rw [HoOk, this]
 decide
theorem pd_bg2 : PdI locL 1 65536 bg2.1 := ⟨ok_bg2, ho_bg2, by kernel_rfl, by kernel_rfl, by kernel_rfl, by kernel_rfl⟩
def pcM (b : List UInt8) (i : Nat) : PrQ × RsQ UpP := inM updM 5 bg2.1 (b.take i)
theorem pc_0 (b : List UInt8) : pcM b 0 = (bg2.1, rs0) := by
 show inM updM 5 bg2.1 [] = _
 kernel_rfl
theorem pc_all (b : List UInt8) : pcM b b.length = inM updM 5 bg2.1 b := by
 unfold pcM
 rw [List.take_length]
theorem pc_step (b : List UInt8) (hb : b.length ≤ 5000) (i k : Nat) (h : i + k ≤ b.length) :
  pcM b (i + k) = ((inM updM 5 (pcM b i).1 ((b.drop i).take k)).1, radd (pcM b i).2 (inM updM 5 (pcM b i).1 ((b.drop i).take k)).2) := by
 have h1 := sb_bg2
 have h2 := inM_app updM 5 talk_bg2 (by decide) (b.take i) ((b.drop i).take k) (by rw [h1, List.length_take, List.length_take, List.length_drop]; omega)
 unfold pcM
 rw [← h2]
 congr 1
 rw [List.take_add]
theorem pc_i (b : List UInt8) (i : Nat) : PdI locL 1 65536 (pcM b i).1 ∧ RsI (pcM b i).2 := pd_bg2.in 5 _
end Go.Proofs.YteeogabkkblkgaaGreatDoor
