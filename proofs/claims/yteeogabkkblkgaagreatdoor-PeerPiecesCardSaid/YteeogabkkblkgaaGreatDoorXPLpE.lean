/- Part of a proof of many texts: what the theorem at its end leans on. -/
import Derived.Test.YteeogabkkblkgaaGreatDoorXPLpC
namespace Go.Proofs.YteeogabkkblkgaaGreatDoor
set_option maxHeartbeats 1000000000
set_option linter.unusedVariables false
set_option linter.unusedSimpArgs false
structure Hk (l : Loc) (n : Int) (room : Nat) (p : PrQ) (r : RsQ UpP) : Prop where
 lo : p.lo = l
 n : p.n = n
 room : p.room = room
 last : r.last.length ≤ 4096
theorem frB_last {n : NtQ} (h : ntOk n = true) : (frB 3 (ntB n)).length ≤ 4096 := by
 simp only [ntOk, Bool.and_eq_true, decide_eq_true_eq] at h
 rw [frB_len]
 simp only [ntB, List.length_cons]
 omega
theorem act_hk {l : Loc} {n : Int} {room : Nat} {p : PrQ} {r : RsQ UpP} (h : Hk l n room p r) (now : Int) (a : AcQ) : Hk l n room (actM now p r a).1 (actM now p r a).2.1 := by
 have hs : ∀ k b, Hk l n room (sendM p k b).1 r := fun k b => by
  unfold sendM
  split
  ·exact ⟨h.lo, h.n, h.room, h.last⟩
  ·exact h
 have ht : ∀ k m, Hk l n room (timeM p k m now) r := fun k m => by
  unfold timeM
  split
  ·exact ⟨h.lo, h.n, h.room, h.last⟩
  ·exact ⟨h.lo, h.n, h.room, h.last⟩
 unfold actM
 split
 ·exact ⟨h.lo, h.n, h.room, h.last⟩
 split
 ·exact hs _ _
 split
 ·exact hs _ _
 split
 ·refine ⟨h.lo, h.n, h.room, ?_⟩
  dsimp only
  split
  ·rename_i hk
   exact frB_last hk
  ·exact h.last
 split
 ·exact ⟨h.lo, h.n, h.room, h.last⟩
 split
 ·exact ht _ _
 split
 ·exact ht _ _
 split
 ·exact ht _ _
 split
 ·exact ⟨h.lo, h.n, h.room, h.last⟩
 split
 ·exact ⟨h.lo, h.n, h.room, h.last⟩
 ·exact h
theorem acts_hk {l : Loc} {n : Int} {room : Nat} (now : Int) : ∀ (qs : List AcQ) (p : PrQ) (r : RsQ UpP), Hk l n room p r → Hk l n room (actsM now p r qs).1 (actsM now p r qs).2.1
 | [], p, r, h => h
 | a :: qs, p, r, h => by
  unfold actsM
  split
  ·exact acts_hk now qs _ _ (act_hk h now a)
  ·exact act_hk h now a
theorem once_hk {l : Loc} {n : Int} {room : Nat} {p : PrQ} {r : RsQ UpP} (h : Hk l n room p r) (now : Int) (e : EvQ) : Hk l n room (onceM now p r e).1 (onceM now p r e).2.1 := acts_hk now _ _ _ ⟨h.lo, h.n, h.room, h.last⟩
theorem hap_hk {l : Loc} {n : Int} {room : Nat} {p : PrQ} {r : RsQ UpP} (h : Hk l n room p r) (now : Int) (e : EvQ) : Hk l n room (hapM now p r e).1 (hapM now p r e).2 := by
 unfold hapM
 split
 ·exact once_hk h now e
 ·exact once_hk (once_hk h now e) now fullQ
theorem msg_last (x : PrQ) (r : RsQ UpP) (k : Int) (b : List UInt8) : (msgM updM x r k b).1.last = r.last := by
 unfold msgM
 repeat' split
 all_goals rfl
theorem drain_hk {l : Loc} {n : Int} {room : Nat} (now : Int) : ∀ (k : Nat) (p : PrQ) (r : RsQ UpP), Hk l n room p r → Hk l n room (drainM updM now k p r).1 (drainM updM now k p r).2
 | 0, p, r, h => h
 | k + 1, p, r, h => by
  unfold drainM
  split
  ·exact h
  split
  ·exact drain_hk now k _ _ (hap_hk (p := { p with s := (nextM p.s).1 }) ⟨h.lo, h.n, h.room, h.last⟩ now _)
  split
  ·exact ⟨h.lo, h.n, h.room, h.last⟩
  ·rename_i t b _
   exact drain_hk now k _ _ (hap_hk (p := { p with s := (nextM p.s).1 }) (r := (msgM updM p r t b).1) ⟨h.lo, h.n, h.room, by rw [msg_last]; exact h.last⟩ now _)
theorem drain_ups (now : Int) : ∀ (k : Nat) (p : PrQ) (r : RsQ UpP), (drainM updM now k p r).2.ups.length ≤ r.ups.length + k
 | 0, p, r => Nat.le_refl _
 | k + 1, p, r => by
  unfold drainM
  split
  ·exact Nat.le_add_right _ _
  split
  ·have := drain_ups now k (hapM now { p with s := (nextM p.s).1 } r (badQ (nextM p.s).2.2)).1 (hapM now { p with s := (nextM p.s).1 } r (badQ (nextM p.s).2.2)).2
   rw [hap_ups] at this
   omega
  split
  ·exact Nat.le_add_right _ _
  ·rename_i t b _
   have := drain_ups now k (hapM now { p with s := (nextM p.s).1 } (msgM updM p r t b).1 (msgM updM p r t b).2).1 (hapM now { p with s := (nextM p.s).1 } (msgM updM p r t b).1 (msgM updM p r t b).2).2
   rw [hap_ups] at this
   have := msg_ups updM p r t b
   omega
theorem drain_ho (now : Int) : ∀ (k : Nat) (p : PrQ) (r : RsQ UpP), locOk p.lo.asn p.lo.hold p.lo.id p.lo.paths p.lo.retry p.lo.four = true → HoOk p.st → HoOk (drainM updM now k p r).1.st
 | 0, p, r, hl, h => h
 | k + 1, p, r, hl, h => by
  unfold drainM
  split
  ·exact h
  split
  ·exact drain_ho now k _ _ (by rw [hapM_lo]; exact hl) (hap_hold (p := { p with s := (nextM p.s).1 }) hl h (evh0 _ _))
  split
  ·exact h
  ·exact drain_ho now k _ _ (by rw [hapM_lo]; exact hl) (hap_hold (p := { p with s := (nextM p.s).1 }) hl h (msg_hold _ _ _ _))
structure PdI (l : Loc) (n : Int) (room : Nat) (p : PrQ) : Prop where
 ok : PrOk p
 ho : HoOk p.st
 s : p.s.n = nt0
 lo : p.lo = l
 n : p.n = n
 room : p.room = room
structure RsI (r : RsQ UpP) : Prop where
 u : r.ups.length ≤ 1000000
 l : r.last.length ≤ 1000000
theorem rs0_i : RsI (rs0 : RsQ UpP) := ⟨Nat.zero_le _, Nat.zero_le _⟩
theorem PdI.hk {l : Loc} {n : Int} {room : Nat} {p : PrQ} (h : PdI l n room p) : Hk l n room p (rs0 : RsQ UpP) := ⟨h.lo, h.n, h.room, Nat.zero_le _⟩
theorem PdI.hap {l : Loc} {n : Int} {room : Nat} {p : PrQ} (h : PdI l n room p) (now : Int) (e : EvQ) (he : EvH e) : PdI l n room (hapM now p (rs0 : RsQ UpP) e).1 ∧ RsI (hapM now p (rs0 : RsQ UpP) e).2 := by
 have h1 := hap_hk h.hk now e
 refine ⟨⟨hapM_ok h.ok now _ e, hap_hold h.ok.lo h.ho he, ?_, h1.lo, h1.n, h1.room⟩, ⟨by rw [hap_ups]; exact Nat.zero_le _, by have := h1.last; omega⟩⟩
 rcases hapM_s now p (rs0 : RsQ UpP) e with e1 | e1
 ·rw [e1]; exact h.s
 ·rw [e1]; rfl
theorem PdI.in {l : Loc} {n : Int} {room : Nat} {p : PrQ} (h : PdI l n room p) (now : Int) (b : List UInt8) : PdI l n room (inM updM now p b).1 ∧ RsI (inM updM now p b).2 := by
 unfold inM
 split
 ·exact ⟨h, rs0_i⟩
 split
 ·exact h.hap now _ (evh0 _ _)
 ·rename_i h1 h2
  have hf : feedM p.s b = (⟨p.s.b ++ b, p.s.n⟩, 0) ∧ p.s.b.length + b.length ≤ 65536 := by
   unfold feedM at h2 ⊢
   rw [if_neg (by rw [h.s]; decide)] at h2 ⊢
   split
   ·rename_i h3
    rw [if_pos h3] at h2
    exact absurd (by show (2 : Int) ≠ 0; decide) h2
   ·exact ⟨rfl, by omega⟩
  rw [hf.1]
  dsimp only
  have hT : Talk (pApp p b) := (Talk.app ⟨h.ok, by omega, h.s⟩ hf.2)
  have k1 := drain_ok updM now ((p.s.b ++ b).length + 2) (pApp p b) (rs0 : RsQ UpP) hT (Nat.le_refl _)
  have k2 := drain_hk (l := l) (n := n) (room := room) now ((p.s.b ++ b).length + 2) (pApp p b) (rs0 : RsQ UpP) ⟨h.lo, h.n, h.room, Nat.zero_le _⟩
  have k3 := drain_ho now ((p.s.b ++ b).length + 2) (pApp p b) (rs0 : RsQ UpP) h.ok.lo h.ho
  have k4 := drain_ups now ((p.s.b ++ b).length + 2) (pApp p b) (rs0 : RsQ UpP)
  have k5 : (p.s.b ++ b).length + 2 ≤ 65538 := by rw [List.length_append]; omega
  have k6 : (rs0 : RsQ UpP).ups.length = 0 := rfl
  exact ⟨⟨k1.1, k3, k1.2.1, k2.lo, k2.n, k2.room⟩, ⟨by show (drainM updM now ((p.s.b ++ b).length + 2) (pApp p b) (rs0 : RsQ UpP)).2.ups.length ≤ _; omega, by have := k2.last; show (drainM updM now ((p.s.b ++ b).length + 2) (pApp p b) (rs0 : RsQ UpP)).2.last.length ≤ _; omega⟩⟩
open Go.RowKit
attribute [local irreducible] HC HX HO Tri eP adr
theorem rs_src {src : List SL} {r s : RsQ UpP} {z y : RsZ} (k1 k2 k3 k4 k5 k6 : Nat)
  (h1 : src[k1]? = some (own idE 55 9 z.u.1 z.us.length z.u.2 (z.us.map UpS.e)))
  (h2 : src[k2]? = some (inn (upsL z.us)))
  (h3 : src[k3]? = some (ownB z.l r.last))
  (h4 : src[k4]? = some (own idE 55 9 y.u.1 y.us.length y.u.2 (y.us.map UpS.e)))
  (h5 : src[k5]? = some (inn (upsL y.us)))
  (h6 : src[k6]? = some (ownB y.l s.last)) :
  AllSrc src [arr UpS.e 9 z.u.1 z.us, inn (upsL z.us), arr bE 1 z.l.1 r.last, arr UpS.e 9 y.u.1 y.us, inn (upsL y.us), arr bE 1 y.l.1 s.last] :=
 AllSrc.own k1 h1 rfl (AllSrc.at_ k2 h2 (AllSrc.via k3 h3 own_byte (AllSrc.own k4 h4 rfl (AllSrc.at_ k5 h5 (AllSrc.via k6 h6 own_byte trivial)))))
end Go.Proofs.YteeogabkkblkgaaGreatDoor
