/- Part of a proof of many texts: what the theorem at its end leans on. -/
import Derived.Test.YteeogabkkblkgaaGreatDoorXTLpA
namespace Go.Proofs.YteeogabkkblkgaaGreatDoor
set_option maxHeartbeats 1000000000
set_option linter.unusedVariables false
set_option linter.unusedSimpArgs false
structure Hk (l : Loc) (n : Int) (room : Nat) (p : PrQ) (r : RsQ UpP) : Prop where
 lo : p.lo = l
 n : p.n = n
 room : p.room = room
 last : r.last.length ≤ 4096
theorem frB_last {n : NtQ} (h : ntOk n = true) : (frB 3 (ntB n)).length ≤ 4096 := by
 simp only [ntOk, Bool.and_eq_true, decide_eq_true_eq] at h
 rw [frB_len]
 simp only [ntB, List.length_cons]
 omega
theorem act_hk {l : Loc} {n : Int} {room : Nat} {p : PrQ} {r : RsQ UpP} (h : Hk l n room p r) (now : Int) (a : AcQ) : Hk l n room (actM now p r a).1 (actM now p r a).2.1 := by
 have hs : ∀ k b, Hk l n room (sendM p k b).1 r := fun k b => by
  unfold sendM
  split
  ·exact ⟨h.lo, h.n, h.room, h.last⟩
  ·exact h
 have ht : ∀ k m, Hk l n room (timeM p k m now) r := fun k m => by
  unfold timeM
  split
  ·exact ⟨h.lo, h.n, h.room, h.last⟩
  ·exact ⟨h.lo, h.n, h.room, h.last⟩
 unfold actM
 split
 ·exact ⟨h.lo, h.n, h.room, h.last⟩
 split
 ·exact hs _ _
 split
 ·exact hs _ _
 split
 ·refine ⟨h.lo, h.n, h.room, ?_⟩
  dsimp only
  split
  ·rename_i hk
   exact frB_last hk
  ·exact h.last
 split
 ·exact ⟨h.lo, h.n, h.room, h.last⟩
 split
 ·exact ht _ _
 split
 ·exact ht _ _
 split
 ·exact ht _ _
 split
 ·exact ⟨h.lo, h.n, h.room, h.last⟩
 split
 ·exact ⟨h.lo, h.n, h.room, h.last⟩
 ·exact h
theorem acts_hk {l : Loc} {n : Int} {room : Nat} (now : Int) : ∀ (qs : List AcQ) (p : PrQ) (r : RsQ UpP), Hk l n room p r → Hk l n room (actsM now p r qs).1 (actsM now p r qs).2.1
 | [], p, r, h => h
 | a :: qs, p, r, h => by
  unfold actsM
  split
  ·exact acts_hk now qs _ _ (act_hk h now a)
  ·exact act_hk h now a
theorem once_hk {l : Loc} {n : Int} {room : Nat} {p : PrQ} {r : RsQ UpP} (h : Hk l n room p r) (now : Int) (e : EvQ) : Hk l n room (onceM now p r e).1 (onceM now p r e).2.1 := acts_hk now _ _ _ ⟨h.lo, h.n, h.room, h.last⟩
theorem hap_hk {l : Loc} {n : Int} {room : Nat} {p : PrQ} {r : RsQ UpP} (h : Hk l n room p r) (now : Int) (e : EvQ) : Hk l n room (hapM now p r e).1 (hapM now p r e).2 := by
 unfold hapM
 split
 ·exact once_hk h now e
 ·exact once_hk (once_hk h now e) now fullQ
structure PdI (l : Loc) (n : Int) (room : Nat) (p : PrQ) : Prop where
 ok : PrOk p
 ho : HoOk p.st
 s : p.s.n = nt0
 lo : p.lo = l
 n : p.n = n
 room : p.room = room
structure RsI (r : RsQ UpP) : Prop where
 u : r.ups.length ≤ 1000000
 l : r.last.length ≤ 1000000
theorem rs0_i : RsI (rs0 : RsQ UpP) := ⟨Nat.zero_le _, Nat.zero_le _⟩
theorem PdI.hk {l : Loc} {n : Int} {room : Nat} {p : PrQ} (h : PdI l n room p) : Hk l n room p (rs0 : RsQ UpP) := ⟨h.lo, h.n, h.room, Nat.zero_le _⟩
theorem PdI.hap {l : Loc} {n : Int} {room : Nat} {p : PrQ} (h : PdI l n room p) (now : Int) (e : EvQ) (he : EvH e) : PdI l n room (hapM now p (rs0 : RsQ UpP) e).1 ∧ RsI (hapM now p (rs0 : RsQ UpP) e).2 := by
 have h1 := hap_hk h.hk now e
 refine ⟨⟨hapM_ok h.ok now _ e, hap_hold h.ok.lo h.ho he, ?_, h1.lo, h1.n, h1.room⟩, ⟨by rw [hap_ups]; exact Nat.zero_le _, by have := h1.last; omega⟩⟩
 rcases hapM_s now p (rs0 : RsQ UpP) e with e1 | e1
 ·rw [e1]; exact h.s
 ·rw [e1]; rfl
theorem PdI.do {l : Loc} {n : Int} {room : Nat} {p : PrQ} (h : PdI l n room p) (now k : Int) : PdI l n room (doM now p k : PrQ × RsQ UpP).1 ∧ RsI (doM now p k : PrQ × RsQ UpP).2 := by
 unfold doM
 split
 ·exact h.hap now _ (evh0 _ _)
 ·exact ⟨h, rs0_i⟩
theorem PdI.put {l : Loc} {n : Int} {room : Nat} {p : PrQ} (h : PdI l n room p) (ok : Bool) (b : List UInt8) : PdI l n room (putM p ok b).1 := by
 unfold putM
 split
 ·exact h
 split
 ·exact h
 ·dsimp only
  have h1 := sendM_ok h.ok 2 b
  have h2 : (sendM p 2 b).1.st = p.st ∧ (sendM p 2 b).1.lo = p.lo ∧ (sendM p 2 b).1.s = p.s ∧ (sendM p 2 b).1.n = p.n ∧ (sendM p 2 b).1.room = p.room := by
   unfold sendM
   split <;> exact ⟨rfl, rfl, rfl, rfl, rfl⟩
  obtain ⟨e1, e2, e3, e4, e5⟩ := h2
  exact ⟨h1, by rw [e1]; exact h.ho, by rw [e3]; exact h.s, by rw [e2]; exact h.lo, by rw [e4]; exact h.n, by rw [e5]; exact h.room⟩
open Go.RowKit
attribute [local irreducible] HC HX HO Tri eP adr
structure UpV (u : UpS) : Prop where
 g : NlsOk u.gone
 r : NlsOk u.routes
 n : 0 ≤ u.a.nxt ∧ u.a.nxt ≤ 4294967295
theorem UpV.w {u : UpS} (h : UpV u) (hb : bigU u = false) : UpW u := by
 unfold bigU at hb
 simp only [Bool.or_eq_false_iff, decide_eq_false_iff_not] at hb
 exact ⟨h.g, h.r, h.n, lim_of hb.2, by omega, by omega⟩
end Go.Proofs.YteeogabkkblkgaaGreatDoor
