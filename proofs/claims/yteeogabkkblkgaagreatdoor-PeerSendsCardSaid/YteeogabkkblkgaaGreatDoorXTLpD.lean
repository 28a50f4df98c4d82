/- Part of a proof of many texts: what the theorem at its end leans on. -/
import Derived.Test.YteeogabkkblkgaaGreatDoorXTLpA
import Derived.Test.YteeogabkkblkgaaGreatDoorXTLpE
namespace Go.Proofs.YteeogabkkblkgaaGreatDoor
set_option maxHeartbeats 1000000000
set_option linter.unusedVariables false
set_option linter.unusedSimpArgs false
open Go.RowKit
attribute [local irreducible] HC HX HO Tri eP adr
def fd : PrQ × RsQ UpP := inM updM 0 bg2.1 theirB
theorem fd_ph : fd.1.st.ph = 5 := by decide +kernel
theorem ok_fd : PrOk fd.1 := ⟨by decide +kernel, by decide +kernel, by decide +kernel, by decide +kernel, by decide +kernel, by decide +kernel, by decide +kernel, by decide +kernel, by decide +kernel⟩
def frs (W : List (Int × List UInt8)) : List UInt8 := W.flatMap fun m => frB m.1 m.2
theorem frs_app (W D : List (Int × List UInt8)) : frs (W ++ D) = frs W ++ frs D := List.flatMap_append
theorem frs_cons (m : Int × List UInt8) (W : List (Int × List UInt8)) : frs (m :: W) = frB m.1 m.2 ++ frs W := List.flatMap_cons
def WOk (W : List (Int × List UInt8)) : Prop := ∀ m ∈ W, msgOk m.1 m.2.length = true
theorem frs_len : ∀ {W : List (Int × List UInt8)}, WOk W → (frs W).length ≤ 4096 * W.length
 | [], _ => Nat.zero_le _
 | m :: W, h => by
  have h1 := (msgOk_iff.1 (h m (List.mem_cons_self ..))).2.2.1
  have h2 := frs_len (W := W) (fun x hx => h x (List.mem_cons_of_mem _ hx))
  rw [frs_cons, List.length_append, frB_len, List.length_cons]
  omega
def opnB : List UInt8 := opB (locOp locL)
def q0B : List UInt8 := frB 1 opnB ++ frB 4 []
theorem opn_ok : msgOk 1 opnB.length = true := by decide +kernel
theorem keep_ok : msgOk 4 ([] : List UInt8).length = true := by decide +kernel
theorem q0_len : q0B.length = 68 := by decide +kernel
theorem fd_q : fd.1.q = q0B := by decide +kernel
theorem fd_four : fd.1.st.four = true := by decide +kernel
theorem fd_hold : fd.1.st.hold = 60 := by decide +kernel
theorem ho_fd : HoOk fd.1.st := by rw [HoOk, fd_hold]; decide
structure SdP (p : PrQ) (q : List UInt8) : Prop where
 i : PdI locL 1 65536 p
 ph : p.st.ph = 5
 four : p.st.four = true
 hold : p.st.hold = 60
 q : p.q = q
theorem sd_fd : SdP fd.1 q0B := ⟨⟨ok_fd, ho_fd, by kernel_rfl, by kernel_rfl, by kernel_rfl, by kernel_rfl⟩, fd_ph, fd_four, fd_hold, fd_q⟩
structure SdS (s : StQ) (W : List (Int × List UInt8)) : Prop where
 n : s.n = nt0
 l : s.b.length ≤ 65536
 b : ∃ R, s.b = q0B ++ R ∧ (W.length ≤ 12 → R = frs W)
theorem feed_0 {D : List (Int × List UInt8)} (hD : WOk D) (hl : (frs D).length ≤ 60000) : SdS (feedM st0 (q0B ++ frs D)).1 D := by
 have h0 := q0_len
 have e : feedM st0 (q0B ++ frs D) = (⟨[] ++ (q0B ++ frs D), nt0⟩, 0) := by
  unfold feedM
  rw [if_neg (by decide), if_neg (by rw [List.length_append]; show ¬ 65536 - ((0 : Nat) : Int) < _; omega)]
  rfl
 rw [e]
 exact ⟨rfl, by show (q0B ++ frs D).length ≤ 65536; rw [List.length_append]; omega, frs D, rfl, fun _ => rfl⟩
theorem feed_1 {s : StQ} {W D : List (Int × List UInt8)} (h : SdS s W) (hW : WOk W) (hD : WOk D) : SdS (feedM s (frs D)).1 (W ++ D) := by
 have h0 := q0_len
 obtain ⟨hn, hl, R, hb, hR⟩ := h
 unfold feedM
 rw [if_neg (by rw [hn]; decide)]
 split
 ·rename_i h1
  refine ⟨hn, hl, R, hb, fun h2 => ?_⟩
  rw [List.length_append] at h2
  have h3 := hR (by omega)
  have h4 := frs_len (W := W ++ D) (fun m hm => (List.mem_append.1 hm).elim (hW m) (hD m))
  rw [frs_app, List.length_append, List.length_append] at h4
  have h5 : s.b.length = 68 + R.length := by rw [hb, List.length_append, h0]
  rw [h3] at h5
  omega
 ·rename_i h1
  refine ⟨hn, ?_, R ++ frs D, ?_, fun h2 => ?_⟩
  ·show (s.b ++ frs D).length ≤ 65536
   rw [List.length_append]
   omega
  ·show s.b ++ frs D = q0B ++ (R ++ frs D)
   rw [hb, List.append_assoc]
  ·rw [List.length_append] at h2
   rw [hR (by omega), frs_app]
def putD (ok : Bool) (b : List UInt8) : List (Int × List UInt8) := if ok = true then [(2, b)] else []
theorem put_sd {p : PrQ} {q : List UInt8} (h : SdP p q) (hq : q.length ≤ 60000) (ok : Bool) (b : List UInt8) (hb : ok = true → msgOk 2 b.length = true) :
  (putM p ok b).2 = (if ok = true then 0 else 70) ∧ SdP (putM p ok b).1 (q ++ frs (putD ok b)) ∧ WOk (putD ok b) := by
 have hp := h.i.put ok b
 unfold putD
 cases ok with
 | false =>
  have e : putM p false b = (p, 70) := by
   unfold putM
   rw [if_neg (by rw [h.ph]; decide), if_pos rfl]
  rw [e, if_neg (by decide), if_neg (by decide)]
  exact ⟨rfl, ⟨h.i, h.ph, h.four, h.hold, by rw [h.q]; exact (List.append_nil _).symm⟩, fun m hm => (by cases hm)⟩
 | true =>
  have h1 := hb rfl
  have h2 := (msgOk_iff.1 h1).2.2.1
  have es : sendM p 2 b = ({ p with q := p.q ++ frB 2 b }, true) := by
   unfold sendM
   rw [if_pos (by rw [h.q, frB_len, h.i.room]; omega)]
  have e : putM p true b = ({ p with q := p.q ++ frB 2 b }, 0) := by
   unfold putM
   rw [if_neg (by rw [h.ph]; decide), if_neg (by decide), es]
   rfl
  rw [e] at hp ⊢
  rw [if_pos rfl, if_pos rfl]
  refine ⟨rfl, ⟨hp, h.ph, h.four, h.hold, ?_⟩, fun m hm => ?_⟩
  ·show p.q ++ frB 2 b = q ++ (frB 2 b ++ [])
   rw [h.q, List.append_nil]
  ·rw [List.mem_singleton.1 hm]
   exact h1
def keeps (j : Nat) : List (Int × List UInt8) := List.replicate j (4, [])
theorem keeps_ok (j : Nat) : WOk (keeps j) := fun m hm => by
 rw [(List.mem_replicate.1 hm).2]
 exact keep_ok
theorem keeps_len : ∀ j : Nat, (frs (keeps j)).length = 19 * j
 | 0 => rfl
 | j + 1 => by
  show (frs ((4, []) :: keeps j)).length = _
  rw [frs_cons, List.length_append, keeps_len j, frB_len]
  show 19 + 0 + 19 * j = _
  omega
theorem beat_sd {p : PrQ} {q : List UInt8} (h : SdP p q) (hq : q.length ≤ 60000) {now : Int} (h0 : 0 ≤ now) : SdP (doM now p 11 : PrQ × RsQ UpP).1 (q ++ frs (keeps 1)) := by
 have hi := (h.i.do now 11).1
 have e1 : (doM now p 11 : PrQ × RsQ UpP) = hapM now p rs0 ⟨11, op0, nt0⟩ := if_pos ⟨by decide, h0⟩
 have e2 : stepR p.lo p.st (⟨11, op0, nt0⟩ : EvQ).s = stayR p.st [act0 3 0, act0 7 (bQuo .i64 p.st.hold 3)] := by
  unfold stepR
  rw [if_pos ⟨h.i.ok.lo, h.i.ok.ph.1, h.i.ok.ph.2⟩, if_neg (by show ¬ (11 : Int) = 2; decide), if_neg (by rw [h.ph]; decide), if_neg (by rw [h.ph]; decide)]
  show talkingR p.lo p.st (⟨11, op0, nt0⟩ : EvQ).s = _
  unfold talkingR
  rw [if_neg (by show ¬ (11 : Int) = 5; decide), if_neg (by show ¬ ((11 : Int) = 6 ∨ (11 : Int) = 7); decide), if_pos (by rfl)]
  unfold beatR
  rw [if_neg (by rw [h.ph, h.hold]; decide)]
 have es : ∀ s : Sta, sendM { p with st := s } 4 [] = ({ p with st := s, q := p.q ++ frB 4 [] }, true) := fun s => by
  unfold sendM
  rw [if_pos (by show p.q.length + _ ≤ p.room; rw [h.q, frB_len, h.i.room]; show q.length + (19 + 0) ≤ 65536; omega)]
 have e3 : (onceM now p (rs0 : RsQ UpP) ⟨11, op0, nt0⟩) = (timeM { p with st := p.st, q := p.q ++ frB 4 [] } 2 (bQuo .i64 p.st.hold 3) now, rs0, true) := by
  unfold onceM
  rw [e2, acsR_stay]
  show actsM now { p with st := p.st } (rs0 : RsQ UpP) [⟨3, 0, nt0⟩, ⟨7, bQuo .i64 p.st.hold 3, nt0⟩] = _
  unfold actsM
  have a1 : actM now { p with st := p.st } (rs0 : RsQ UpP) ⟨3, 0, nt0⟩ = ({ p with st := p.st, q := p.q ++ frB 4 [] }, rs0, true) := by
   show ((sendM { p with st := p.st } 4 []).1, (rs0 : RsQ UpP), (sendM { p with st := p.st } 4 []).2) = _
   rw [es]
  rw [a1, if_pos rfl]
  unfold actsM
  have a2 : ∀ x : PrQ, actM now x (rs0 : RsQ UpP) ⟨7, bQuo .i64 p.st.hold 3, nt0⟩ = (timeM x 2 (bQuo .i64 p.st.hold 3) now, rs0, true) := fun x => rfl
  rw [a2, if_pos rfl]
  rfl
 have e4 : (doM now p 11 : PrQ × RsQ UpP).1 = timeM { p with st := p.st, q := p.q ++ frB 4 [] } 2 (bQuo .i64 p.st.hold 3) now := by
  rw [e1]
  unfold hapM
  rw [e3, if_pos rfl]
 rw [e4] at hi ⊢
 have ht : ∀ x : PrQ, ∀ k n : Int, (timeM x k n now).st = x.st ∧ (timeM x k n now).q = x.q := fun x k n => by
  unfold timeM
  split <;> exact ⟨rfl, rfl⟩
 obtain ⟨t1, t2⟩ := ht { p with st := p.st, q := p.q ++ frB 4 [] } 2 (bQuo .i64 p.st.hold 3)
 refine ⟨hi, by rw [t1]; exact h.ph, by rw [t1]; exact h.four, by rw [t1]; exact h.hold, ?_⟩
 rw [t2]
 show p.q ++ frB 4 [] = q ++ frs [(4, [])]
 rw [h.q, frs_cons]
 show q ++ frB 4 [] = q ++ (frB 4 [] ++ [])
 rw [List.append_nil]
theorem keeps_app (j : Nat) : frs (keeps j) ++ frs (keeps 1) = frs (keeps (j + 1)) := by
 rw [← frs_app]
 unfold keeps
 rw [List.replicate_append_replicate]
theorem read_1 {s : StQ} {W : List (Int × List UInt8)} (h : SdS s W) : ∃ R, (W.length ≤ 12 → R = frs W) ∧ R.length ≤ 65536 ∧ nextM s = (⟨frB 4 [] ++ R, nt0⟩, some (1, opnB), nt0) ∧ nextM ⟨frB 4 [] ++ R, nt0⟩ = (⟨R, nt0⟩, some (4, []), nt0) := by
 obtain ⟨hn, hl, R, hb, hR⟩ := h
 refine ⟨R, hR, ?_, ?_, next_frB keep_ok R⟩
 ·rw [hb, List.length_append] at hl
  omega
 ·obtain ⟨b, n⟩ := s
  dsimp only at hn hb
  subst hn hb
  unfold q0B
  rw [List.append_assoc]
  exact next_frB opn_ok _
structure SdR (s : StQ) (W : List (Int × List UInt8)) (i : Nat) : Prop where
 n : s.n.c = 0
 l : s.b.length ≤ 65536
 b : W.length ≤ 12 → s = ⟨frs (W.drop i), nt0⟩
theorem read_0 {R : List UInt8} {W : List (Int × List UInt8)} (h : W.length ≤ 12 → R = frs W) (hl : R.length ≤ 65536) : SdR ⟨R, nt0⟩ W 0 := ⟨rfl, hl, fun h2 => by rw [h h2]; rfl⟩
theorem read_S {s : StQ} {W : List (Int × List UInt8)} {i : Nat} (h : SdR s W i) (hi : i < W.length) (hW : WOk W) (h12 : W.length ≤ 12) : nextM s = (⟨frs (W.drop (i + 1)), nt0⟩, some W[i], nt0) ∧ SdR ⟨frs (W.drop (i + 1)), nt0⟩ W (i + 1) := by
 have h1 := h.b h12
 have h2 : W.drop i = W[i] :: W.drop (i + 1) := List.drop_eq_getElem_cons hi
 have h3 := h.l
 rw [h1, h2, frs_cons] at h3
 refine ⟨?_, rfl, ?_, fun _ => rfl⟩
 ·rw [h1, h2, frs_cons]
  exact next_frB (hW _ (List.getElem_mem hi)) _
 ·rw [List.length_append] at h3
  show (frs (W.drop (i + 1))).length ≤ 65536
  omega
theorem read_L {s : StQ} {W : List (Int × List UInt8)} {i : Nat} (h : SdR s W i) (h12 : ¬ W.length ≤ 12) {m : Int × List UInt8} (hm : (nextM s).2.1 = some m) : SdR (nextM s).1 W (i + 1) := by
 have h4 := next_some h.n hm []
 exact ⟨by rw [h4.2.1]; exact h.n, by have := h.l; omega, fun h => absurd h h12⟩
end Go.Proofs.YteeogabkkblkgaaGreatDoor
