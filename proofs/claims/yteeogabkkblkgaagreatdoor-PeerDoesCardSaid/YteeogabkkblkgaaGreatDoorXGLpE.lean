/- Part of a proof. -/
import Derived.Test.YteeogabkkblkgaaGreatDoorXGLpC
namespace Go.Proofs.YteeogabkkblkgaaGreatDoor
set_option maxHeartbeats 1000000000
set_option linter.unusedVariables false
set_option linter.unusedSimpArgs false
structure Hk (l : Loc) (n : Int) (room : Nat) (p : PrQ) (r : RsQ UpP) : Prop where
 lo : p.lo = l
 n : p.n = n
 room : p.room = room
 last : r.last.length ≤ 4096
theorem frB_last {n : NtQ} (h : ntOk n = true) : (frB 3 (ntB n)).length ≤ 4096 := by
 simp only [ntOk, Bool.and_eq_true, decide_eq_true_eq] at h
 rw [frB_len]
 simp only [ntB, List.length_cons]
 omega
theorem act_hk {l : Loc} {n : Int} {room : Nat} {p : PrQ} {r : RsQ UpP} (h : Hk l n room p r) (now : Int) (a : AcQ) : Hk l n room (actM now p r a).1 (actM now p r a).2.1 := by
 have hs : ∀ k b, Hk l n room (sendM p k b).1 r := fun k b => by
  unfold sendM
  split
  ·exact ⟨h.lo, h.n, h.room, h.last⟩
  ·exact h
 have ht : ∀ k m, Hk l n room (timeM p k m now) r := fun k m => by
  unfold timeM
  split
  ·exact ⟨h.lo, h.n, h.room, h.last⟩
  ·exact ⟨h.lo, h.n, h.room, h.last⟩
 unfold actM
 split
 ·exact ⟨h.lo, h.n, h.room, h.last⟩
 split
 ·exact hs _ _
 split
 ·exact hs _ _
 split
 ·refine ⟨h.lo, h.n, h.room, ?_⟩
  dsimp only
  split
  ·rename_i hk
   exact frB_last hk
  ·exact h.last
 split
 ·exact ⟨h.lo, h.n, h.room, h.last⟩
 split
 ·exact ht _ _
 split
 ·exact ht _ _
 split
 ·exact ht _ _
 split
 ·exact ⟨h.lo, h.n, h.room, h.last⟩
 split
 ·exact ⟨h.lo, h.n, h.room, h.last⟩
 ·exact h
theorem acts_hk {l : Loc} {n : Int} {room : Nat} (now : Int) : ∀ (qs : List AcQ) (p : PrQ) (r : RsQ UpP), Hk l n room p r → Hk l n room (actsM now p r qs).1 (actsM now p r qs).2.1
 | [], p, r, h => h
 | a :: qs, p, r, h => by
  unfold actsM
  split
  ·exact acts_hk now qs _ _ (act_hk h now a)
  ·exact act_hk h now a
theorem once_hk {l : Loc} {n : Int} {room : Nat} {p : PrQ} {r : RsQ UpP} (h : Hk l n room p r) (now : Int) (e : EvQ) : Hk l n room (onceM now p r e).1 (onceM now p r e).2.1 := acts_hk now _ _ _ ⟨h.lo, h.n, h.room, h.last⟩
theorem hap_hk {l : Loc} {n : Int} {room : Nat} {p : PrQ} {r : RsQ UpP} (h : Hk l n room p r) (now : Int) (e : EvQ) : Hk l n room (hapM now p r e).1 (hapM now p r e).2 := by
 unfold hapM
 split
 ·exact once_hk h now e
 ·exact once_hk (once_hk h now e) now fullQ
theorem msg_last (x : PrQ) (r : RsQ UpP) (k : Int) (b : List UInt8) : (msgM updM x r k b).1.last = r.last := by
 unfold msgM
 repeat' split
 all_goals rfl
theorem drain_hk {l : Loc} {n : Int} {room : Nat} (now : Int) : ∀ (k : Nat) (p : PrQ) (r : RsQ UpP), Hk l n room p r → Hk l n room (drainM updM now k p r).1 (drainM updM now k p r).2
 | 0, p, r, h => h
 | k + 1, p, r, h => by
  unfold drainM
  split
  ·exact h
  split
  ·exact drain_hk now k _ _ (hap_hk (p := { p with s := (nextM p.s).1 }) ⟨h.lo, h.n, h.room, h.last⟩ now _)
  split
  ·exact ⟨h.lo, h.n, h.room, h.last⟩
  ·rename_i t b _
   exact drain_hk now k _ _ (hap_hk (p := { p with s := (nextM p.s).1 }) (r := (msgM updM p r t b).1) ⟨h.lo, h.n, h.room, by rw [msg_last]; exact h.last⟩ now _)
theorem drain_ups (now : Int) : ∀ (k : Nat) (p : PrQ) (r : RsQ UpP), (drainM updM now k p r).2.ups.length ≤ r.ups.length + k
 | 0, p, r => Nat.le_refl _
 | k + 1, p, r => by
  unfold drainM
  split
  ·exact Nat.le_add_right _ _
  split
  ·have := drain_ups now k (hapM now { p with s := (nextM p.s).1 } r (badQ (nextM p.s).2.2)).1 (hapM now { p with s := (nextM p.s).1 } r (badQ (nextM p.s).2.2)).2
   rw [hap_ups] at this
   omega
  split
  ·exact Nat.le_add_right _ _
  ·rename_i t b _
   have := drain_ups now k (hapM now { p with s := (nextM p.s).1 } (msgM updM p r t b).1 (msgM updM p r t b).2).1 (hapM now { p with s := (nextM p.s).1 } (msgM updM p r t b).1 (msgM updM p r t b).2).2
   rw [hap_ups] at this
   have := msg_ups updM p r t b
   omega
theorem drain_ho (now : Int) : ∀ (k : Nat) (p : PrQ) (r : RsQ UpP), locOk p.lo.asn p.lo.hold p.lo.id p.lo.paths p.lo.retry p.lo.four = true → HoOk p.st → HoOk (drainM updM now k p r).1.st
 | 0, p, r, hl, h => h
 | k + 1, p, r, hl, h => by
  unfold drainM
  split
  ·exact h
  split
  ·exact drain_ho now k _ _ (by rw [hapM_lo]; exact hl) (hap_hold (p := { p with s := (nextM p.s).1 }) hl h (evh0 _ _))
  split
  ·exact h
  ·exact drain_ho now k _ _ (by rw [hapM_lo]; exact hl) (hap_hold (p := { p with s := (nextM p.s).1 }) hl h (msg_hold _ _ _ _))
structure PdI (l : Loc) (n : Int) (room : Nat) (p : PrQ) : Prop where
 ok : PrOk p
 ho : HoOk p.st
 s : p.s.n = nt0
 lo : p.lo = l
 n : p.n = n
 room : p.room = room
structure RsI (r : RsQ UpP) : Prop where
 u : r.ups.length ≤ 1000000
 l : r.last.length ≤ 1000000
theorem rs0_i : RsI (rs0 : RsQ UpP) := ⟨Nat.zero_le _, Nat.zero_le _⟩
theorem PdI.hk {l : Loc} {n : Int} {room : Nat} {p : PrQ} (h : PdI l n room p) : Hk l n room p (rs0 : RsQ UpP) := ⟨h.lo, h.n, h.room, Nat.zero_le _⟩
theorem PdI.hap {l : Loc} {n : Int} {room : Nat} {p : PrQ} (h : PdI l n room p) (now : Int) (e : EvQ) (he : EvH e) : PdI l n room (hapM now p (rs0 : RsQ UpP) e).1 ∧ RsI (hapM now p (rs0 : RsQ UpP) e).2 := by
 have h1 := hap_hk h.hk now e
 refine ⟨⟨hapM_ok h.ok now _ e, hap_hold h.ok.lo h.ho he, ?_, h1.lo, h1.n, h1.room⟩, ⟨by rw [hap_ups]; exact Nat.zero_le _, by have := h1.last; omega⟩⟩
 rcases hapM_s now p (rs0 : RsQ UpP) e with e1 | e1
 ·rw [e1]; exact h.s
 ·rw [e1]; rfl
theorem PdI.do {l : Loc} {n : Int} {room : Nat} {p : PrQ} (h : PdI l n room p) (now k : Int) : PdI l n room (doM now p k : PrQ × RsQ UpP).1 ∧ RsI (doM now p k : PrQ × RsQ UpP).2 := by
 unfold doM
 split
 ·exact h.hap now _ (evh0 _ _)
 ·exact ⟨h, rs0_i⟩
theorem PdI.close {l : Loc} {n : Int} {room : Nat} {p : PrQ} (h : PdI l n room p) (now : Int) (m : NtQ) : PdI l n room (closeM now p m : PrQ × RsQ UpP).1 ∧ RsI (closeM now p m : PrQ × RsQ UpP).2 := by
 unfold closeM
 split
 ·exact h.hap now _ (evh0 _ _)
 ·exact ⟨h, rs0_i⟩
theorem PdI.in {l : Loc} {n : Int} {room : Nat} {p : PrQ} (h : PdI l n room p) (now : Int) (b : List UInt8) : PdI l n room (inM updM now p b).1 ∧ RsI (inM updM now p b).2 := by
 unfold inM
 split
 ·exact ⟨h, rs0_i⟩
 split
 ·exact h.hap now _ (evh0 _ _)
 ·rename_i h1 h2
  have hf : feedM p.s b = (⟨p.s.b ++ b, p.s.n⟩, 0) ∧ p.s.b.length + b.length ≤ 65536 := by
   unfold feedM at h2 ⊢
   rw [if_neg (by rw [h.s]; decide)] at h2 ⊢
   split
   ·rename_i h3
    rw [if_pos h3] at h2
    exact absurd (by show (2 : Int) ≠ 0; decide) h2
   ·exact ⟨rfl, by omega⟩
  rw [hf.1]
  dsimp only
  have hT : Talk (pApp p b) := (Talk.app ⟨h.ok, by omega, h.s⟩ hf.2)
  have k1 := drain_ok updM now ((p.s.b ++ b).length + 2) (pApp p b) (rs0 : RsQ UpP) hT (Nat.le_refl _)
  have k2 := drain_hk (l := l) (n := n) (room := room) now ((p.s.b ++ b).length + 2) (pApp p b) (rs0 : RsQ UpP) ⟨h.lo, h.n, h.room, Nat.zero_le _⟩
  have k3 := drain_ho now ((p.s.b ++ b).length + 2) (pApp p b) (rs0 : RsQ UpP) h.ok.lo h.ho
  have k4 := drain_ups now ((p.s.b ++ b).length + 2) (pApp p b) (rs0 : RsQ UpP)
  have k5 : (p.s.b ++ b).length + 2 ≤ 65538 := by rw [List.length_append]; omega
  have k6 : (rs0 : RsQ UpP).ups.length = 0 := rfl
  exact ⟨⟨k1.1, k3, k1.2.1, k2.lo, k2.n, k2.room⟩, ⟨by show (drainM updM now ((p.s.b ++ b).length + 2) (pApp p b) (rs0 : RsQ UpP)).2.ups.length ≤ _; omega, by have := k2.last; show (drainM updM now ((p.s.b ++ b).length + 2) (pApp p b) (rs0 : RsQ UpP)).2.last.length ≤ _; omega⟩⟩
theorem PdI.put {l : Loc} {n : Int} {room : Nat} {p : PrQ} (h : PdI l n room p) (ok : Bool) (b : List UInt8) : PdI l n room (putM p ok b).1 := by
 unfold putM
 split
 ·exact h
 split
 ·exact h
 ·dsimp only
  have h1 := sendM_ok h.ok 2 b
  have h2 : (sendM p 2 b).1.st = p.st ∧ (sendM p 2 b).1.lo = p.lo ∧ (sendM p 2 b).1.s = p.s ∧ (sendM p 2 b).1.n = p.n ∧ (sendM p 2 b).1.room = p.room := by
   unfold sendM
   split <;> exact ⟨rfl, rfl, rfl, rfl, rfl⟩
  obtain ⟨e1, e2, e3, e4, e5⟩ := h2
  exact ⟨h1, by rw [e1]; exact h.ho, by rw [e3]; exact h.s, by rw [e2]; exact h.lo, by rw [e4]; exact h.n, by rw [e5]; exact h.room⟩
theorem PdI.take {l : Loc} {n : Int} {room : Nat} {p : PrQ} (h : PdI l n room p) (k : Nat) : PdI l n room { p with q := p.q.drop k } :=
 ⟨{ h.ok with q := by have := h.ok.q; show (p.q.drop k).length ≤ p.room; rw [List.length_drop]; omega }, h.ho, h.s, h.lo, h.n, h.room⟩
theorem roomOk_n {room : Nat} (h : roomOk room = true) : room ≤ 65536 := by
 simp only [roomOk, Bool.and_eq_true, decide_eq_true_eq] at h
 omega
theorem PdI.new {l : Loc} {n : Int} {room : Nat} (hl : locOk l.asn l.hold l.id l.paths l.retry l.four = true) (hr : roomOk room = true) : PdI l n room (newP n l room []) :=
 ⟨⟨hl, ph1, Nat.zero_le _, roomOk_n hr, Nat.zero_le _, Nat.zero_le _, .inl rfl, Nat.zero_le _, List.nodup_nil⟩, (by decide : (0 : Int) ≤ 0 ∧ (0 : Int) ≤ 65535), rfl, rfl, rfl, rfl⟩
open Go.RowKit
attribute [local irreducible] HC HX HO Tri eP adr
structure UpV (u : UpS) : Prop where
 g : NlsOk u.gone
 r : NlsOk u.routes
 n : 0 ≤ u.a.nxt ∧ u.a.nxt ≤ 4294967295
theorem UpV.w {u : UpS} (h : UpV u) (hb : bigU u = false) : UpW u := by
 unfold bigU at hb
 simp only [Bool.or_eq_false_iff, decide_eq_false_iff_not] at hb
 exact ⟨h.g, h.r, h.n, lim_of hb.2, by omega, by omega⟩
theorem bigO_p {o : DoS} (h : bigO o = false) : o.b.length ≤ 5000 ∧ bigU o.u = false ∧ o.d.length ≤ 5000 := by
 unfold bigO at h
 simp only [Bool.or_eq_false_iff, decide_eq_false_iff_not] at h
 exact ⟨by omega, h.1.2, by omega⟩
def doO (y : PrQ) (o : DoS) : PrQ :=
 if o.k = 1 then (doM o.now y o.n : PrQ × RsQ UpP).1
 else if o.k = 2 then (inM updM o.now y o.b).1
 else if o.k = 3 then (putM y (upOk y.st.four false o.u) (upB y.st.four false o.u)).1
 else if o.k = 4 then { y with q := y.q.drop (tkN o.n y.q.length) }
 else if o.k = 5 then (closeM o.now y ⟨o.c, o.s, o.d⟩ : PrQ × RsQ UpP).1
 else y
theorem PdI.o {l : Loc} {n : Int} {room : Nat} {y : PrQ} (h : PdI l n room y) (o : DoS) : PdI l n room (doO y o) := by
 unfold doO
 split
 ·exact (h.do _ _).1
 split
 ·exact (h.in _ _).1
 split
 ·exact h.put _ _
 split
 ·exact h.take _
 split
 ·exact (h.close _ _).1
 ·exact h
theorem rs_src {src : List SL} {r s : RsQ UpP} {z y : RsZ} (k1 k2 k3 k4 k5 k6 : Nat)
  (h1 : src[k1]? = some (own idE 55 9 z.u.1 z.us.length z.u.2 (z.us.map UpS.e)))
  (h2 : src[k2]? = some (inn (upsL z.us)))
  (h3 : src[k3]? = some (ownB z.l r.last))
  (h4 : src[k4]? = some (own idE 55 9 y.u.1 y.us.length y.u.2 (y.us.map UpS.e)))
  (h5 : src[k5]? = some (inn (upsL y.us)))
  (h6 : src[k6]? = some (ownB y.l s.last)) :
  AllSrc src [arr UpS.e 9 z.u.1 z.us, inn (upsL z.us), arr bE 1 z.l.1 r.last, arr UpS.e 9 y.u.1 y.us, inn (upsL y.us), arr bE 1 y.l.1 s.last] :=
 AllSrc.own k1 h1 rfl (AllSrc.at_ k2 h2 (AllSrc.via k3 h3 own_byte (AllSrc.own k4 h4 rfl (AllSrc.at_ k5 h5 (AllSrc.via k6 h6 own_byte trivial)))))
theorem both_t (p t x u : Nat) (l : Loc) (n : Int) (room : Nat) (y : PrQ) (hI : PdI l n room y) (hid : 0 ≤ l.id ∧ l.id ≤ 4294967295) (o : DoS) (hb : bigO o = false) (hv : UpV o.u) :
  Tri Tryz.prog 30 [pt p, pt x, .agg o.e.toArray] (leW :: o.ro) [peP p t y, rpP x u y] (fun _ : Unit => True) (fun _ => .bool true) (fun _ => [peP p t (doO y o), rpP x u (doO y o)]) := by
 obtain ⟨b1, b2, b3⟩ := bigO_p hb
 have hidy : 0 ≤ y.lo.id ∧ y.lo.id ≤ 4294967295 := by rw [hI.lo]; exact hid
 unfold doO
 dsimp only [DoS.e, DoS.ro, UpS.e, UpS.ro, lca, lna]
 by_cases h1 : o.k = 1
 ·rw [if_pos h1, h1]
  have c1 := pdo_t p t o.n o.now y hI.ok hidy
  have c2 := rpdo_t x u o.n o.now y hI.ok hI.ho hidy
  have hr := (hI.do o.now o.n).2
  have c3 := fun z w hz hw => rpsame_t (doM o.now y o.n : PrQ × RsQ UpP).2 z w hz hw hr.u hr.l
  obtain ⟨⟨y2, R⟩, hR⟩ : ∃ R, (doM o.now y o.n : PrQ × RsQ UpP) = R := ⟨_, rfl⟩
  rw [hR] at c1 c2 c3 ⊢
  dsimp only [rsV, rsC, rsP, lca, lna] at c1 c2 c3 ⊢
  refine Tri_in Tryz.func30 rfl (fun w0 S0 => ?_)
  repeat' (first | refine SD ?_ | (refine HC_lex rfl rfl (by decide +kernel) rfl rfl ?_) | (refine KC ?_; refine HO_callP rfl rfl rfl rfl (c1) findA (srcsA) rfl rfl soA ?_; intro z hz; dsimp only [lca, lna]) | (refine KC ?_; refine HO_callP rfl rfl rfl rfl (c2) findA (srcsA) rfl rfl soA ?_; intro w hw; dsimp only [lca, lna]) | (refine KC ?_; refine HO_callq rfl rfl rfl rfl (c3 z w hz hw) (fun _ _ => rfl) ((rs_src 13 14 15 9 10 11 rfl rfl rfl rfl rfl rfl)) rfl rfl sqA ?_) | refine SB ?_ | (refine S2 ?_; intro _) | fail)
  (refine SRt ?_; unfold RetQ; refine ⟨(), trivial, rfl, permA⟩)
 rw [if_neg h1]
 by_cases h2 : o.k = 2
 ·rw [if_pos h2, h2]
  have c1 := pfeed_t p t o.now y hI.ok hidy hI.s o.bA o.bc o.b (by omega)
  have c2 := rpfeed_t x u o.now y hI.ok hI.ho hidy hI.s o.bA o.bc o.b (by omega)
  have hr := (hI.in o.now o.b).2
  have c3 := fun z w hz hw => rpsame_t (inM updM o.now y o.b).2 z w hz hw hr.u hr.l
  obtain ⟨⟨y2, R⟩, hR⟩ : ∃ R, inM updM o.now y o.b = R := ⟨_, rfl⟩
  rw [hR] at c1 c2 c3 ⊢
  dsimp only [rsV, rsC, rsP, lca, lna] at c1 c2 c3 ⊢
  refine Tri_in Tryz.func30 rfl (fun w0 S0 => ?_)
  repeat' (first | refine SD ?_ | (refine HC_lex rfl rfl (by decide +kernel) rfl rfl ?_) | (refine KC ?_; refine HO_callP rfl rfl rfl rfl (c1) findA (srcsA) rfl rfl soA ?_; intro z hz; dsimp only [lca, lna]) | (refine KC ?_; refine HO_callP rfl rfl rfl rfl (c2) findA (srcsA) rfl rfl soA ?_; intro w hw; dsimp only [lca, lna]) | (refine KC ?_; refine HO_callq rfl rfl rfl rfl (c3 z w hz hw) (fun _ _ => rfl) ((rs_src 13 14 15 9 10 11 rfl rfl rfl rfl rfl rfl)) rfl rfl sqA ?_) | refine SB ?_ | (refine S2 ?_; intro _) | fail)
  (refine SRt ?_; unfold RetQ; refine ⟨(), trivial, rfl, permA⟩)
 rw [if_neg h2]
 by_cases h3 : o.k = 3
 ·rw [if_pos h3, h3]
  have c1 := pputu_t p t y hI.ok o.u (hv.w b2)
  have c2 := rpputu_t x u y hI.ok o.u (hv.w b2)
  obtain ⟨⟨y2, K⟩, hR⟩ : ∃ R, putM y (upOk y.st.four false o.u) (upB y.st.four false o.u) = R := ⟨_, rfl⟩
  rw [hR] at c1 c2 ⊢
  have hK : decide (K = K) = true := decide_eq_true rfl
  dsimp only [UpS.e, UpS.ro, lca, lna] at c1 c2 ⊢
  refine Tri_in Tryz.func30 rfl (fun w0 S0 => ?_)
  repeat' (first | refine SD ?_ | (refine HC_lex rfl rfl (by decide +kernel) rfl rfl ?_) | (refine KC ?_; refine HO_callP rfl rfl rfl rfl (c1) findA (srcsA) rfl rfl soA ?_; intro z hz; dsimp only [lca, lna]) | (refine KC ?_; refine HO_callP rfl rfl rfl rfl (c2) findA (srcsA) rfl rfl soA ?_; intro w hw; dsimp only [lca, lna]) | (with_reducible refine HO_rw (congrArg Value.bool hK) ?_) | refine SB ?_ | (refine S2 ?_; intro _) | fail)
  (refine SRt ?_; unfold RetQ; refine ⟨(), trivial, rfl, permA⟩)
 rw [if_neg h3]
 by_cases h4 : o.k = 4
 ·rw [if_pos h4, h4]
  have hq := hI.ok.q
  have hrm := hI.ok.room
  have c1 := pout_t p t y hI.ok o.n
  have c2 := fun q => rqtake_t q y.room y.q (by omega) o.n
  refine Tri_keeps (rw' := [rpP x u y, peP p t y]) permA (Tri_open (fun z hz => ?_))
  obtain ⟨k, hk⟩ : ∃ k, tkN o.n y.q.length = k := ⟨_, rfl⟩
  rw [hk] at c1 c2 ⊢
  obtain ⟨T, hT⟩ : ∃ T, y.q.take k = T := ⟨_, rfl⟩
  rw [hT] at c1 c2
  have hstr : (ByteArray.toList ⟨T.toArray⟩ == ByteArray.toList ⟨T.toArray⟩) = true := beq_self_eq_true _
  dsimp only [rpF, rpC, lca, lna]
  refine Tri_in Tryz.func30 rfl (fun w0 S0 => ?_)
  repeat' (first | refine SD ?_ | (refine HC_lex rfl rfl (by decide +kernel) rfl rfl ?_) | (refine HO_k 7 rfl ?_; (first | (refine HO_holdA 0 rfl rfl ?_; refine HO_b2sr (l := T) 0 rfl rfl rfl rfl rfl rfl rfl rdA ?_) | (refine HO_holdA 1 rfl rfl ?_; refine HO_b2sr (l := T) 0 rfl rfl rfl rfl rfl rfl rfl rdA ?_) | (refine HO_holdA 2 rfl rfl ?_; refine HO_b2sr (l := T) 0 rfl rfl rfl rfl rfl rfl rfl rdA ?_) | (refine HO_holdA 3 rfl rfl ?_; refine HO_b2sr (l := T) 0 rfl rfl rfl rfl rfl rfl rfl rdA ?_) | (refine HO_holdA 4 rfl rfl ?_; refine HO_b2sr (l := T) 0 rfl rfl rfl rfl rfl rfl rfl rdA ?_) | (refine HO_holdA 5 rfl rfl ?_; refine HO_b2sr (l := T) 0 rfl rfl rfl rfl rfl rfl rfl rdA ?_) | (refine HO_holdA 6 rfl rfl ?_; refine HO_b2sr (l := T) 0 rfl rfl rfl rfl rfl rfl rfl rdA ?_) | (refine HO_holdA 7 rfl rfl ?_; refine HO_b2sr (l := T) 0 rfl rfl rfl rfl rfl rfl rfl rdA ?_) | (refine HO_holdA 8 rfl rfl ?_; refine HO_b2sr (l := T) 0 rfl rfl rfl rfl rfl rfl rfl rdA ?_) | (refine HO_holdA 9 rfl rfl ?_; refine HO_b2sr (l := T) 0 rfl rfl rfl rfl rfl rfl rfl rdA ?_) | (refine HO_holdA 10 rfl rfl ?_; refine HO_b2sr (l := T) 0 rfl rfl rfl rfl rfl rfl rfl rdA ?_) | (refine HO_holdA 11 rfl rfl ?_; refine HO_b2sr (l := T) 0 rfl rfl rfl rfl rfl rfl rfl rdA ?_))) | (refine KC ?_; refine HO_callP rfl rfl rfl rfl (c1) findA (srcsA) rfl rfl soA ?_; intro ⟨v1, v2⟩ hv1; dsimp only [lca, lna]) | (refine KC ?_; refine HO_callP rfl rfl rfl rfl (c2 _) findA (srcsA) rfl rfl soA ?_; intro ⟨w1, w2⟩ hw1; dsimp only [lca, lna]) | (with_reducible refine HO_rw (congrArg Value.bool hstr) ?_) | refine SB ?_ | (refine S2 ?_; intro _) | fail)
  (refine SRt ?_; unfold RetQ; refine ⟨(), trivial, rfl, (Keeps.comp (Keeps.close (φ := fun _ : RpZ => True) (f := rpF x u { y with q := y.q.drop k }) z trivial findA) permA)⟩)
 rw [if_neg h4]
 by_cases h5 : o.k = 5
 ·rw [if_pos h5, h5]
  have c1 := pclo_t p t o.now y hI.ok hidy ⟨o.c, o.s, o.d⟩ o.dA o.dc (by show o.d.length ≤ 1000000; omega)
  have c2 := rpclo_t x u o.now y hI.ok hI.ho hidy ⟨o.c, o.s, o.d⟩ o.dA o.dc (by show o.d.length ≤ 1000000; omega)
  have hr := (hI.close o.now ⟨o.c, o.s, o.d⟩).2
  have c3 := fun z w hz hw => rpsame_t (closeM o.now y ⟨o.c, o.s, o.d⟩ : PrQ × RsQ UpP).2 z w hz hw hr.u hr.l
  obtain ⟨⟨y2, R⟩, hR⟩ : ∃ R, (closeM o.now y ⟨o.c, o.s, o.d⟩ : PrQ × RsQ UpP) = R := ⟨_, rfl⟩
  rw [hR] at c1 c2 c3 ⊢
  dsimp only [noV, rsV, rsC, rsP, lca, lna] at c1 c2 c3 ⊢
  refine Tri_in Tryz.func30 rfl (fun w0 S0 => ?_)
  repeat' (first | refine SD ?_ | (refine HC_lex rfl rfl (by decide +kernel) rfl rfl ?_) | (refine KC ?_; refine HO_callP rfl rfl rfl rfl (c1) findA (srcsA) rfl rfl soA ?_; intro z hz; dsimp only [lca, lna]) | (refine KC ?_; refine HO_callP rfl rfl rfl rfl (c2) findA (srcsA) rfl rfl soA ?_; intro w hw; dsimp only [lca, lna]) | (refine KC ?_; refine HO_callq rfl rfl rfl rfl (c3 z w hz hw) (fun _ _ => rfl) ((rs_src 13 14 15 9 10 11 rfl rfl rfl rfl rfl rfl)) rfl rfl sqA ?_) | refine SB ?_ | (refine S2 ?_; intro _) | fail)
  (refine SRt ?_; unfold RetQ; refine ⟨(), trivial, rfl, permA⟩)
 rw [if_neg h5]
 refine Tri_in Tryz.func30 rfl (fun w0 S0 => ?_)
 repeat' (first | refine SD ?_ | refine SB ?_ | (refine S2 ?_; intro _) | fail)
 (refine SRt ?_; unfold RetQ; refine ⟨(), trivial, rfl, permA⟩)
end Go.Proofs.YteeogabkkblkgaaGreatDoor
