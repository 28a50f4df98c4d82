/- Part of a proof of many texts: what the theorem at its end leans on. -/
import Derived.Test.YteeogabkkblkgaaGreatDoorVPeP
import Derived.Test.YteeogabkkblkgaaGreatDoorVFs0
import Derived.Test.YteeogabkkblkgaaGreatDoorVKc
namespace Go.Proofs.YteeogabkkblkgaaGreatDoor
set_option maxHeartbeats 1000000000
set_option linter.unusedVariables false
set_option linter.unusedSimpArgs false
structure TmK where
 p : Int
 k : Int
deriving DecidableEq
abbrev TmM := List (TmK × Int)
def tmSet (l : TmM) (k : TmK) (t : Int) : TmM × Int :=
 if t < 0 ∨ 9007199254740991 < t then (l, 1) else if lkL k l = none ∧ 1024 ≤ l.length then (l, 2) else (stL k t l, 0)
def nearM (n : Int) : Int := if n < 0 then 0 else if 9007199254740991 < n then 9007199254740991 else n
def addM (a b : Int) : Int := nearM (nearM a + nearM b)
structure RsQ (υ : Type) where
 ups : List υ
 con : Bool
 clo : Bool
 last : List UInt8
 up : Bool
 dn : Bool
def rs0 {υ : Type} : RsQ υ := ⟨[], false, false, [], false, false⟩
structure PrQ where
 n : Int
 lo : Loc
 st : Sta
 s : StQ
 q : List UInt8
 room : Nat
 tm : TmM
def locOp (l : Loc) : OpQ := ⟨l.asn, l.hold, l.id, l.four, l.paths⟩
def sendM (p : PrQ) (k : Int) (b : List UInt8) : PrQ × Bool := if p.q.length + (frB k b).length ≤ p.room then ({ p with q := p.q ++ frB k b }, true) else (p, false)
def timeM (p : PrQ) (k n now : Int) : PrQ := if n = 0 then { p with tm := dlL ⟨p.n, k⟩ p.tm } else { p with tm := (tmSet p.tm ⟨p.n, k⟩ (addM now n)).1 }
structure AcQ where
 k : Int
 n : Int
 nt : NtQ
def acsR (r : Res) : List AcQ := (r.acts none 0).map fun a => ⟨a.k, a.n, ⟨a.c, a.s, if a.k = 4 then r.data else []⟩⟩
section
variable {υ : Type}
def actM (now : Int) (p : PrQ) (r : RsQ υ) (a : AcQ) : PrQ × RsQ υ × Bool :=
 if a.k = 1 then (p, { r with con := true }, true)
 else if a.k = 2 then ((sendM p 1 (opB (locOp p.lo))).1, r, (sendM p 1 (opB (locOp p.lo))).2)
 else if a.k = 3 then ((sendM p 4 []).1, r, (sendM p 4 []).2)
 else if a.k = 4 then (p, if ntOk a.nt = true then { r with last := frB 3 (ntB a.nt) } else r, true)
 else if a.k = 5 then ({ p with q := [], s := st0 }, { r with clo := true }, true)
 else if a.k = 6 then (timeM p 1 a.n now, r, true)
 else if a.k = 7 then (timeM p 2 a.n now, r, true)
 else if a.k = 8 then (timeM p 3 a.n now, r, true)
 else if a.k = 9 then (p, { r with up := true }, true)
 else if a.k = 10 then (p, { r with dn := true }, true)
 else (p, r, true)
def actsM (now : Int) : PrQ → RsQ υ → List AcQ → PrQ × RsQ υ × Bool
 | p, r, [] => (p, r, true)
 | p, r, a :: l => if (actM now p r a).2.2 = true then actsM now (actM now p r a).1 (actM now p r a).2.1 l else ((actM now p r a).1, (actM now p r a).2.1, false)
structure EvQ where
 k : Int
 o : OpQ
 nt : NtQ
def EvQ.s (e : EvQ) : EvS := ⟨e.k, e.o.as, e.o.hold, e.o.id, e.o.four, e.o.paths, e.nt.c, e.nt.s, none, 0, e.nt.d⟩
def badQ (n : NtQ) : EvQ := ⟨9, op0, n⟩
def fullQ : EvQ := badQ ⟨6, 8, []⟩
def onceM (now : Int) (p : PrQ) (r : RsQ υ) (e : EvQ) : PrQ × RsQ υ × Bool := actsM now { p with st := (stepR p.lo p.st e.s).t } r (acsR (stepR p.lo p.st e.s))
def hapM (now : Int) (p : PrQ) (r : RsQ υ) (e : EvQ) : PrQ × RsQ υ :=
 if (onceM now p r e).2.2 = true then ((onceM now p r e).1, (onceM now p r e).2.1)
 else ((onceM now (onceM now p r e).1 (onceM now p r e).2.1 fullQ).1, (onceM now (onceM now p r e).1 (onceM now p r e).2.1 fullQ).2.1)
def msgM (upd : Bool → Bool → List UInt8 → Option υ × NtQ) (p : PrQ) (r : RsQ υ) (k : Int) (b : List UInt8) : RsQ υ × EvQ :=
 if k = 1 then (r, if (opM b).2.c ≠ 0 then badQ (opM b).2 else ⟨5, (opM b).1, nt0⟩)
 else if k = 3 then (r, ⟨8, op0, nt0⟩)
 else if k = 2 then
  if p.st.ph = 5 then
   match (upd p.st.four p.st.paths b) with
   | (none, n) => (r, badQ n)
   | (some u, _) => ({ r with ups := r.ups ++ [u] }, ⟨7, op0, nt0⟩)
  else (r, ⟨7, op0, nt0⟩)
 else (r, ⟨6, op0, nt0⟩)
def drainM (upd : Bool → Bool → List UInt8 → Option υ × NtQ) (now : Int) : Nat → PrQ → RsQ υ → PrQ × RsQ υ
 | 0, p, r => (p, r)
 | k + 1, p, r =>
  if p.st.ph < 3 then (p, r)
  else if (nextM p.s).2.2.c ≠ 0 then drainM upd now k (hapM now { p with s := (nextM p.s).1 } r (badQ (nextM p.s).2.2)).1 (hapM now { p with s := (nextM p.s).1 } r (badQ (nextM p.s).2.2)).2
  else match (nextM p.s).2.1 with
   | none => ({ p with s := (nextM p.s).1 }, r)
   | some (t, b) => drainM upd now k (hapM now { p with s := (nextM p.s).1 } (msgM upd p r t b).1 (msgM upd p r t b).2).1 (hapM now { p with s := (nextM p.s).1 } (msgM upd p r t b).1 (msgM upd p r t b).2).2
def inM (upd : Bool → Bool → List UInt8 → Option υ × NtQ) (now : Int) (p : PrQ) (b : List UInt8) : PrQ × RsQ υ :=
 if now < 0 ∨ 65536 < b.length ∨ p.st.ph < 3 then (p, rs0)
 else if (feedM p.s b).2 ≠ 0 then hapM now p rs0 fullQ
 else drainM upd now ((feedM p.s b).1.b.length + 2) { p with s := (feedM p.s b).1 } rs0
def doM (now : Int) (p : PrQ) (k : Int) : PrQ × RsQ υ :=
 if (k = 1 ∨ k = 2 ∨ k = 3 ∨ k = 4 ∨ k = 10 ∨ k = 11 ∨ k = 12) ∧ 0 ≤ now then hapM now p rs0 ⟨k, op0, nt0⟩ else (p, rs0)
def closeM (now : Int) (p : PrQ) (n : NtQ) : PrQ × RsQ υ := if 0 ≤ now then hapM now p rs0 (badQ n) else (p, rs0)
end
theorem getD_app {b c : List UInt8} {i : Nat} (h : i < b.length) : (b ++ c).getD i 0 = b.getD i 0 := by
 rw [List.getD_eq_getElem?_getD, List.getD_eq_getElem?_getD, List.getElem?_append_left h]
theorem headM_app (b c : List UInt8) (h : 19 ≤ b.length) : headM (b ++ c) = headM b := by
 have h1 : ¬ (b ++ c).length < 19 := by rw [List.length_append]; omega
 have h2 : ¬ b.length < 19 := by omega
 have h3 : (b ++ c).take 16 = b.take 16 := List.take_append_of_le_length (by omega)
 have h4 : ((b ++ c).drop 16).take 2 = (b.drop 16).take 2 := by
  rw [List.drop_append_of_le_length (by omega), List.take_append_of_le_length (by rw [List.length_drop]; omega)]
 unfold headM
 rw [if_neg h1, if_neg h2, h3, h4, getD_app (by omega), getD_app (by omega), getD_app (by omega)]
theorem headM_short {b : List UInt8} (h : b.length < 19) : headM b = (0, 0, nt0) := if_pos h
theorem known_iff {k : Int} : knownM k = true ↔ 1 ≤ k ∧ k ≤ 4 := by simp [knownM]
theorem fits_iff {k n : Int} : fitsM k n = true ↔ leastM k ≤ n ∧ n ≤ 4096 ∧ (k ≠ 4 ∨ n = 19) := by
 simp [fitsM, and_assoc]
theorem msgOk_iff {k : Int} {n : Nat} : msgOk k n = true ↔ (1 ≤ k ∧ k ≤ 4) ∧ leastM k ≤ 19 + n ∧ 19 + (n : Int) ≤ 4096 ∧ (k ≠ 4 ∨ n = 0) := by
 unfold msgOk
 rw [Bool.and_eq_true, known_iff, fits_iff]
 constructor
 ·rintro ⟨h1, h2, h3, h4⟩
  exact ⟨h1, h2, h3, h4.imp id (fun h => by omega)⟩
 ·rintro ⟨h1, h2, h3, h4⟩
  exact ⟨h1, h2, h3, h4.imp id (fun h => by omega)⟩
theorem least_ge {k : Int} (h : knownM k = true) : 19 ≤ leastM k := by
 rw [known_iff] at h
 unfold leastM
 repeat' split
 all_goals omega
theorem frB_ok {k : Int} {b : List UInt8} (h : msgOk k b.length = true) (r : List UInt8) : headM (frB k b ++ r) = (k, (19 : Int) + b.length, nt0) := by
 obtain ⟨hk, h1, h2, h3⟩ := msgOk_iff.1 h
 have hl := frB_len k b
 rw [headM_app _ _ (by rw [hl]; omega)]
 unfold headM
 have e0 : (be 2 (19 + b.length)).length = 2 := be_length _ _
 have e1 : (frB k b).take 16 = List.replicate 16 255 := by
  unfold frB
  rw [List.take_append_of_le_length (by simp), List.take_of_length_le (by simp)]
 have e2 : ((frB k b).drop 16) = be 2 (19 + b.length) ++ (UInt8.ofNat k.toNat :: b) := by
  unfold frB
  rw [List.drop_append_of_le_length (by simp), List.drop_of_length_le (by simp), List.nil_append]
 have e3 : (frB k b).getD 18 0 = UInt8.ofNat k.toNat := by
  have : (frB k b)[18]? = ((frB k b).drop 16)[2]? := by rw [List.getElem?_drop]
  rw [List.getD_eq_getElem?_getD, this, e2, List.getElem?_append_right (by rw [e0]; omega), e0]
  rfl
 have e4 : ((frB k b).drop 16).take 2 = be 2 (19 + b.length) := by
  rw [e2, List.take_append_of_le_length (by rw [e0]; omega), List.take_of_length_le (by rw [e0]; omega)]
 have e5 : ge (be 2 (19 + b.length)) = 19 + b.length := by
  rw [ge_be]
  omega
 have e6 : (((UInt8.ofNat k.toNat).toNat : Nat) : Int) = k := by
  rw [UInt8.toNat_ofNat']
  omega
 have e7 : (List.replicate 16 (255 : UInt8)).any (fun c => decide (c ≠ 255)) = false := by decide
 have e8 : ((((19 + b.length : Nat)) : Nat) : Int) = 19 + (b.length : Int) := by omega
 rw [if_neg (by rw [hl]; omega), e1, e7, if_neg (by decide), e3, e6, e4, e5, e8]
 have f1 : knownM k = true := known_iff.2 hk
 have f2 : fitsM k (19 + (b.length : Int)) = true := fits_iff.2 ⟨h1, h2, h3.imp id (fun h => by omega)⟩
 rw [f1, f2, if_neg (by decide), if_neg (by decide)]
theorem next_frB {k : Int} {b : List UInt8} (h : msgOk k b.length = true) (r : List UInt8) : nextM ⟨frB k b ++ r, nt0⟩ = (⟨r, nt0⟩, some (k, b), nt0) := by
 obtain ⟨hk, h1, h2, h3⟩ := msgOk_iff.1 h
 have hl := frB_len k b
 unfold nextM
 dsimp only
 rw [frB_ok h r]
 dsimp only
 rw [if_neg (by decide), if_neg (by decide), if_neg (by rw [List.length_append, hl]; omega)]
 have e1 : (19 + (b.length : Int)).toNat = (frB k b).length := by rw [hl]; omega
 rw [e1, List.drop_left, List.take_left]
 have e2 : (frB k b).drop 19 = b := by
  have : (frB k b).drop 19 = ((frB k b).drop 16).drop 3 := by rw [List.drop_drop]
  have e0 : (be 2 (19 + b.length)).length = 2 := be_length _ _
  have e3 : (frB k b).drop 16 = be 2 (19 + b.length) ++ (UInt8.ofNat k.toNat :: b) := by
   unfold frB
   rw [List.drop_append_of_le_length (by simp), List.drop_of_length_le (by simp), List.nil_append]
  rw [this, e3, show 3 = (be 2 (19 + b.length)).length + 1 by rw [e0], ← List.drop_drop, List.drop_left]
  rfl
 rw [e2]
theorem headM_n (b : List UInt8) (h : (headM b).1 ≠ 0) : 19 ≤ (headM b).2.1 ∧ (headM b).2.1 ≤ 4096 ∧ 19 ≤ b.length ∧ (headM b).2.2 = nt0 ∧ msgOk (headM b).1 ((headM b).2.1 - 19).toNat = true := by
 unfold headM at h ⊢
 split at h
 ·exact absurd rfl h
 split at h
 ·exact absurd rfl h
 split at h
 ·exact absurd rfl h
 split at h
 ·exact absurd rfl h
 rename_i g1 g2 g3 g4
 rw [if_neg g1, if_neg g2, if_neg g3, if_neg g4]
 dsimp only
 have k1 : knownM ((b.getD 18 0).toNat : Int) = true := by simpa using g3
 have k2 : fitsM ((b.getD 18 0).toNat : Int) (ge ((b.drop 16).take 2) : Nat) = true := by simpa using g4
 have k3 := fits_iff.1 k2
 have k4 := least_ge k1
 refine ⟨by omega, by omega, by omega, rfl, ?_⟩
 unfold msgOk
 rw [k1, show (19 + (((((ge ((b.drop 16).take 2) : Nat) : Int) - 19).toNat : Nat) : Int)) = (ge ((b.drop 16).take 2) : Nat) by omega, k2]
 rfl
theorem headM_note (b : List UInt8) (h : (headM b).2.2.c ≠ 0) : 19 ≤ b.length ∧ (headM b).2.2.d.length ≤ 2 ∧ ntOk (headM b).2.2 = true ∧ (headM b).2.2.c = 1 := by
 unfold headM at h ⊢
 split at h
 ·exact absurd rfl h
 rename_i g1
 rw [if_neg g1]
 split
 ·exact ⟨by omega, by decide, by decide, rfl⟩
 split
 ·exact ⟨by omega, by simp, by simp [ntOk], rfl⟩
 split
 ·exact ⟨by omega, by simp, by simp [ntOk], rfl⟩
 ·rename_i g2 g3 g4
  rw [if_neg g2, if_neg g3, if_neg g4] at h
  exact absurd rfl h
theorem headM_d (b : List UInt8) : (headM b).2.2.d.length ≤ 2 := by
 unfold headM
 repeat' split
 all_goals simp [nt0]
def stApp (s : StQ) (c : List UInt8) : StQ := ⟨s.b ++ c, s.n⟩
theorem next_1 {s : StQ} (hn : s.n.c = 0) (h1 : (headM s.b).2.2.c ≠ 0) : nextM s = (⟨[], (headM s.b).2.2⟩, none, (headM s.b).2.2) := by
 unfold nextM
 rw [if_neg (by omega), if_pos h1]
theorem next_2 {s : StQ} (hn : s.n.c = 0) (h1 : (headM s.b).2.2.c = 0) (h2 : (headM s.b).1 = 0 ∨ (s.b.length : Int) < (headM s.b).2.1) : nextM s = (s, none, nt0) := by
 unfold nextM
 rw [if_neg (by omega), if_neg (by omega), if_pos h2]
theorem next_3 {s : StQ} (hn : s.n.c = 0) (h1 : (headM s.b).2.2.c = 0) (h2 : ¬ ((headM s.b).1 = 0 ∨ (s.b.length : Int) < (headM s.b).2.1)) : nextM s = (⟨s.b.drop (headM s.b).2.1.toNat, s.n⟩, some ((headM s.b).1, (s.b.take (headM s.b).2.1.toNat).drop 19), nt0) := by
 unfold nextM
 rw [if_neg (by omega), if_neg (by omega), if_neg h2]
theorem next_bad {s : StQ} (hn : s.n.c = 0) (h : (nextM s).2.2.c ≠ 0) (c : List UInt8) : nextM (stApp s c) = nextM s ∧ (nextM s).1 = ⟨[], (nextM s).2.2⟩ ∧ (nextM s).2.1 = none ∧ (nextM s).2.2 = (headM s.b).2.2 ∧ (headM s.b).2.2.c ≠ 0 := by
 by_cases h1 : (headM s.b).2.2.c ≠ 0
 ·have h2 := headM_note s.b h1
  have h3 := headM_app s.b c h2.1
  have e1 := next_1 hn h1
  have e2 : nextM (stApp s c) = (⟨[], (headM s.b).2.2⟩, none, (headM s.b).2.2) := by
   rw [next_1 (s := stApp s c) hn (by show (headM (s.b ++ c)).2.2.c ≠ 0; rw [h3]; exact h1)]
   show (StQ.mk [] (headM (s.b ++ c)).2.2, none, (headM (s.b ++ c)).2.2) = _
   rw [h3]
  rw [e1, e2]
  exact ⟨rfl, rfl, rfl, rfl, h1⟩
 ·exfalso
  by_cases h2 : (headM s.b).1 = 0 ∨ (s.b.length : Int) < (headM s.b).2.1
  ·rw [next_2 hn (by omega) h2] at h
   exact h rfl
  ·rw [next_3 hn (by omega) h2] at h
   exact h rfl
theorem next_some {s : StQ} {m : Int × List UInt8} (hn : s.n.c = 0) (h : (nextM s).2.1 = some m) (c : List UInt8) :
  (nextM (stApp s c)) = (stApp (nextM s).1 c, some m, nt0) ∧ (nextM s).1.n = s.n ∧ (nextM s).1.b.length + 19 ≤ s.b.length ∧ (nextM s).2.2 = nt0 ∧ msgOk m.1 m.2.length = true := by
 by_cases h1 : (headM s.b).2.2.c ≠ 0
 ·rw [next_1 hn h1] at h
  cases h
 by_cases h2 : (headM s.b).1 = 0 ∨ (s.b.length : Int) < (headM s.b).2.1
 ·rw [next_2 hn (by omega) h2] at h
  cases h
 rw [next_3 hn (by omega) h2] at h
 have e1 := next_3 hn (by omega) h2
 have h3 := headM_n s.b (fun e => h2 (.inl e))
 have h4 : (headM s.b).2.1 ≤ (s.b.length : Int) := by omega
 have h5 := headM_app s.b c h3.2.2.1
 have e2 := next_3 (s := stApp s c) hn (by show (headM (s.b ++ c)).2.2.c = 0; rw [h5]; omega) (by
  show ¬ ((headM (s.b ++ c)).1 = 0 ∨ ((s.b ++ c).length : Int) < (headM (s.b ++ c)).2.1)
  rw [h5, List.length_append]
  omega)
 dsimp only at h
 injection h with h
 subst h
 rw [e1, e2]
 unfold stApp
 dsimp only
 rw [h5]
 refine ⟨?_, rfl, ?_, rfl, ?_⟩
 ·rw [List.drop_append_of_le_length (by omega), List.take_append_of_le_length (by omega)]
 ·rw [List.length_drop]
  omega
 ·rw [List.length_drop, List.length_take, show min (headM s.b).2.1.toNat s.b.length - 19 = ((headM s.b).2.1 - 19).toNat by omega]
  exact h3.2.2.2.2
theorem next_none {s : StQ} (hn : s.n.c = 0) (h : (nextM s).2.1 = none) (h2 : (nextM s).2.2.c = 0) : (nextM s).1 = s := by
 by_cases h1 : (headM s.b).2.2.c ≠ 0
 ·rw [next_1 hn h1] at h2
  exact absurd h2 h1
 by_cases h3 : (headM s.b).1 = 0 ∨ (s.b.length : Int) < (headM s.b).2.1
 ·rw [next_2 hn (by omega) h3]
 ·rw [next_3 hn (by omega) h3] at h
  cases h
section
variable {κ ν : Type} [DecidableEq κ]
theorem lk_st (k j : κ) (v : ν) : ∀ l : List (κ × ν), lkL j (stL k v l) = if j = k then some v else lkL j l
 | [] => by
  unfold stL lkL
  by_cases h : j = k <;> simp [h, lkL]
 | x :: l => by
  unfold stL
  by_cases h : k = x.1
  ·rw [if_pos h]
   unfold lkL
   by_cases h2 : j = k
   ·rw [if_pos h2, if_pos h2]
   ·rw [if_neg h2, if_neg h2, if_neg (fun e => h2 (e.trans h.symm))]
  ·rw [if_neg h]
   unfold lkL
   by_cases h2 : j = x.1
   ·rw [if_pos h2, if_pos h2, if_neg (fun e : j = k => h (e.symm.trans h2))]
   ·rw [if_neg h2, if_neg h2]
    exact lk_st k j v l
theorem lk_in {k : κ} {l : List (κ × ν)} : lkL k l = none ↔ k ∉ l.map (·.1) := by
 induction l with
 | nil => simp [lkL]
 | cons x l ih =>
  unfold lkL
  by_cases h : k = x.1
  ·rw [if_pos h]
   simp [h]
  ·rw [if_neg h, ih]
   simp [h]
theorem keys_st (k : κ) (v : ν) : ∀ l : List (κ × ν), (stL k v l).map (·.1) = if lkL k l = none then l.map (·.1) ++ [k] else l.map (·.1)
 | [] => by simp [stL, lkL]
 | x :: l => by
  unfold stL lkL
  by_cases h : k = x.1
  ·rw [if_pos h, if_pos h, if_neg (by simp)]
   simp [h]
  ·rw [if_neg h, if_neg h, List.map_cons, keys_st k v l]
   split <;> simp
theorem st_len (k : κ) (v : ν) (l : List (κ × ν)) : (stL k v l).length = if lkL k l = none then l.length + 1 else l.length := by
 have h := congrArg List.length (keys_st k v l)
 rw [List.length_map] at h
 rw [h]
 split <;> simp
theorem st_nodup {k : κ} {v : ν} {l : List (κ × ν)} (h : (l.map (·.1)).Nodup) : ((stL k v l).map (·.1)).Nodup := by
 rw [keys_st]
 split
 ·rename_i h2
  rw [List.nodup_append]
  exact ⟨h, by simp, fun a ha b hb => by
   simp at hb
   subst hb
   exact fun e => lk_in.1 h2 (e ▸ ha)⟩
 ·exact h
theorem dl_sub (k : κ) : ∀ l : List (κ × ν), ((dlL k l).map (·.1)).Sublist (l.map (·.1))
 | [] => by simp [dlL]
 | x :: l => by
  unfold dlL
  split
  ·simp
  ·simp only [List.map_cons]
   exact (dl_sub k l).cons_cons _
theorem lk_dl (k j : κ) : ∀ l : List (κ × ν), (l.map (·.1)).Nodup → lkL j (dlL k l) = if j = k then none else lkL j l
 | [], _ => by simp [dlL, lkL]
 | x :: l, h => by
  simp only [List.map_cons, List.nodup_cons] at h
  unfold dlL
  by_cases h1 : k = x.1
  ·rw [if_pos h1]
   by_cases h2 : j = k
   ·rw [if_pos h2, lk_in, h2, h1]
    exact h.1
   ·rw [if_neg h2]
    conv => rhs; unfold lkL
    rw [if_neg (fun e => h2 (e.trans h1.symm))]
  ·rw [if_neg h1]
   unfold lkL
   by_cases h2 : j = x.1
   ·rw [if_pos h2, if_pos h2, if_neg (fun e : j = k => h1 (e.symm.trans h2))]
   ·rw [if_neg h2, if_neg h2]
    exact lk_dl k j l h.2
theorem dl_len (k : κ) : ∀ l : List (κ × ν), (dlL k l).length = if lkL k l = none then l.length else l.length - 1
 | [] => by simp [dlL, lkL]
 | x :: l => by
  unfold dlL lkL
  by_cases h1 : k = x.1
  ·rw [if_pos h1, if_pos h1, if_neg (by simp)]
   simp
  ·rw [if_neg h1, if_neg h1, List.length_cons, dl_len k l]
   split
   ·rfl
   ·rename_i h2
    cases l with
    | nil => exact absurd rfl h2
    | cons y l => simp
theorem dl_nodup {k : κ} {l : List (κ × ν)} (h : (l.map (·.1)).Nodup) : ((dlL k l).map (·.1)).Nodup := (dl_sub k l).nodup h
end
structure PrOk (p : PrQ) : Prop where
 lo : locOk p.lo.asn p.lo.hold p.lo.id p.lo.paths p.lo.retry p.lo.four = true
 ph : 1 ≤ p.st.ph ∧ p.st.ph ≤ 5
 q : p.q.length ≤ p.room
 room : p.room ≤ 65536
 sb : p.s.b.length ≤ 65536
 sd : p.s.n.d.length ≤ 2
 sn : p.s.n.c = 0 ∨ (p.s.n.c = 1 ∧ p.s.b = [] ∧ ntOk p.s.n = true)
 tl : p.tm.length ≤ 1024
 tn : (p.tm.map (·.1)).Nodup
theorem tmSet_ok {l : TmM} {k : TmK} {t : Int} (h1 : l.length ≤ 1024) (h2 : (l.map (·.1)).Nodup) : (tmSet l k t).1.length ≤ 1024 ∧ ((tmSet l k t).1.map (·.1)).Nodup := by
 unfold tmSet
 split
 ·exact ⟨h1, h2⟩
 split
 ·exact ⟨h1, h2⟩
 ·rename_i h3 h4
  refine ⟨?_, st_nodup h2⟩
  rw [st_len]
  split
  ·rename_i h5
   have : ¬ 1024 ≤ l.length := fun h => h4 ⟨h5, h⟩
   omega
  ·exact h1
theorem timeM_ok {p : PrQ} (h : PrOk p) (k n now : Int) : PrOk (timeM p k n now) := by
 unfold timeM
 split
 ·have h1 : (dlL ⟨p.n, k⟩ p.tm).length ≤ 1024 := by
   rw [dl_len]
   have := h.tl
   split <;> omega
  exact { h with tl := h1, tn := dl_nodup h.tn }
 ·exact { h with tl := (tmSet_ok h.tl h.tn).1, tn := (tmSet_ok h.tl h.tn).2 }
theorem sendM_ok {p : PrQ} (h : PrOk p) (k : Int) (b : List UInt8) : PrOk (sendM p k b).1 := by
 unfold sendM
 split
 ·rename_i h1
  exact { h with q := by show (p.q ++ frB k b).length ≤ p.room; rw [List.length_append]; exact h1 }
 ·exact h
theorem actM_ok {υ : Type} {p : PrQ} (h : PrOk p) (now : Int) (r : RsQ υ) (a : AcQ) : PrOk (actM now p r a).1 := by
 unfold actM
 repeat' split
 all_goals first
  | exact h
  | exact sendM_ok h _ _
  | exact timeM_ok h _ _ _
  | exact { h with q := Nat.zero_le _, sb := Nat.zero_le _, sd := Nat.zero_le _, sn := .inl rfl }
theorem actsM_ok {υ : Type} (now : Int) : ∀ (l : List AcQ) (p : PrQ) (r : RsQ υ), PrOk p → PrOk (actsM now p r l).1
 | [], p, r, h => h
 | a :: l, p, r, h => by
  unfold actsM
  split
  ·exact actsM_ok now l _ _ (actM_ok h now r a)
  ·exact actM_ok h now r a
def endQ (ph retry code sub : Int) (d : List UInt8) : List AcQ :=
 (if code ≠ 0 then [⟨4, 0, ⟨code, sub, d⟩⟩] else []) ++ [⟨5, 0, nt0⟩, ⟨6, 0, nt0⟩, ⟨7, 0, nt0⟩, ⟨8, retry, nt0⟩] ++ (if ph = 5 then [⟨10, 0, nt0⟩] else [])
def mild (a : AcQ) : Bool := decide (a.k ≠ 4) && decide (a.k ≠ 5)
theorem acsR_end (ph retry code sub : Int) (t : Sta) (d : List UInt8) : acsR ⟨t, fun dA dc => endA ph retry code sub dA (endD code d).length dc, endD code d⟩ = endQ ph retry code sub d := by
 unfold acsR endA endQ endD
 by_cases h1 : code ≠ 0 <;> by_cases h2 : ph = 5 <;> simp [h1, h2, act0, nt0]
theorem acsR_fall (l : Loc) (s : Sta) (code sub : Int) (d : List UInt8) : acsR (fallR l s code sub d) = endQ s.ph l.retry code sub d := acsR_end _ _ _ _ _ _
theorem acsR_stay (s : Sta) (acts : List ActS) : acsR (stayR s acts) = acts.map fun a => ⟨a.k, a.n, ⟨a.c, a.s, []⟩⟩ := by
 unfold acsR stayR
 simp
theorem ph1 : 1 ≤ (1 : Int) ∧ (1 : Int) ≤ 5 := by decide
theorem ph2 : 1 ≤ (2 : Int) ∧ (2 : Int) ≤ 5 := by decide
theorem ph3 : 1 ≤ (3 : Int) ∧ (3 : Int) ≤ 5 := by decide
theorem ph4 : 1 ≤ (4 : Int) ∧ (4 : Int) ≤ 5 := by decide
theorem ph5 : 1 ≤ (5 : Int) ∧ (5 : Int) ≤ 5 := by decide
theorem step_ph (l : Loc) (s : Sta) (e : EvS) (h : 1 ≤ s.ph ∧ s.ph ≤ 5) : 1 ≤ (stepR l s e).t.ph ∧ (stepR l s e).t.ph ≤ 5 := by
 unfold stepR
 split
 ·split
  ·unfold stopR
   split
   ·exact h
   ·first | exact ph1 | exact ph2 | exact ph3 | exact ph4 | exact ph5
  split
  ·split
   ·first | exact ph1 | exact ph2 | exact ph3 | exact ph4 | exact ph5
   ·exact h
  split
  ·unfold waitingR
   repeat' split
   all_goals first | exact h | first | exact ph1 | exact ph2 | exact ph3 | exact ph4 | exact ph5
  ·unfold talkingR
   repeat' split
   ·unfold openedR
    repeat' split
    all_goals first | exact ph1 | exact ph2 | exact ph3 | exact ph4 | exact ph5
   ·unfold heardR
    repeat' split
    all_goals first | exact h | first | exact ph1 | exact ph2 | exact ph3 | exact ph4 | exact ph5
   ·unfold beatR
    split <;> exact h
   all_goals first | exact h | first | exact ph1 | exact ph2 | exact ph3 | exact ph4 | exact ph5
 ·exact h
theorem onceM_ok {υ : Type} {p : PrQ} (h : PrOk p) (now : Int) (r : RsQ υ) (e : EvQ) : PrOk (onceM now p r e).1 :=
 actsM_ok now _ _ _ { h with ph := step_ph _ _ _ h.ph }
theorem hapM_ok {υ : Type} {p : PrQ} (h : PrOk p) (now : Int) (r : RsQ υ) (e : EvQ) : PrOk (hapM now p r e).1 := by
 unfold hapM
 split
 ·exact onceM_ok h now r e
 ·exact onceM_ok (onceM_ok h now r e) now _ _
theorem talk_cases (l : Loc) (s : Sta) (e : EvQ) (hl : locOk l.asn l.hold l.id l.paths l.retry l.four = true) (h : 3 ≤ s.ph ∧ s.ph ≤ 5) :
  (3 ≤ (stepR l s e.s).t.ph ∧ (acsR (stepR l s e.s)).all mild = true) ∨
  ((stepR l s e.s).t.ph < 3 ∧ ∃ retry code sub, ∃ d : List UInt8, acsR (stepR l s e.s) = endQ s.ph retry code sub d) := by
 unfold stepR
 rw [if_pos ⟨hl, by omega, by omega⟩]
 by_cases h2 : e.s.kind = 2
 ·rw [if_pos h2]
  unfold stopR
  rw [if_neg (by omega), if_pos (by omega : 2 < s.ph), if_pos (by omega : 2 < s.ph)]
  exact .inr ⟨(by decide : (1 : Int) < 3), 0, 6, 2, [], by
   have := acsR_end s.ph 0 6 2 idlS []
   simpa [endD] using this⟩
 rw [if_neg h2, if_neg (by omega), if_neg (by omega)]
 have fall : ∀ (code sub : Int) (d : List UInt8), (3 ≤ (fallR l s code sub d).t.ph ∧ (acsR (fallR l s code sub d)).all mild = true) ∨
  ((fallR l s code sub d).t.ph < 3 ∧ ∃ retry code' sub', ∃ d' : List UInt8, acsR (fallR l s code sub d) = endQ s.ph retry code' sub' d') := fun code sub d => .inr ⟨by show (2 : Int) < 3; decide, l.retry, code, sub, d, acsR_fall l s code sub d⟩
 have stay : ∀ (t : Sta) (acts : List ActS), 3 ≤ t.ph → (acts.all fun a => mild ⟨a.k, a.n, ⟨a.c, a.s, []⟩⟩) = true → (3 ≤ (stayR t acts).t.ph ∧ (acsR (stayR t acts)).all mild = true) ∨
  ((stayR t acts).t.ph < 3 ∧ ∃ retry code' sub', ∃ d' : List UInt8, acsR (stayR t acts) = endQ s.ph retry code' sub' d') := fun t acts ht ha => .inl ⟨ht, by rw [acsR_stay, List.all_map]; exact ha⟩
 unfold talkingR
 split
 ·unfold openedR
  split
  ·exact fall _ _ _
  split
  ·exact fall _ _ _
  split
  ·exact fall _ _ _
  ·exact .inl ⟨by show (3 : Int) ≤ 4; decide, rfl⟩
 split
 ·unfold heardR
  split
  ·exact stay _ _ h.1 rfl
  split
  ·exact stay _ _ (by show (3 : Int) ≤ 5; decide) rfl
  ·exact fall _ _ _
 split
 ·unfold beatR
  split
  ·exact stay _ _ h.1 rfl
  ·exact stay _ _ h.1 rfl
 split
 ·exact fall _ _ _
 split
 ·exact fall _ _ _
 split
 ·exact fall _ _ _
 ·exact stay _ _ h.1 rfl
theorem end_acts {υ : Type} (now : Int) (p : PrQ) (r : RsQ υ) (ph retry code sub : Int) (d : List UInt8) :
  (actsM now p r (endQ ph retry code sub d)).2.2 = true ∧ (actsM now p r (endQ ph retry code sub d)).1 = timeM (timeM (timeM { p with q := [], s := st0 } 1 0 now) 2 0 now) 3 retry now ∧
  (actsM now p r (endQ ph retry code sub d)).2.1 = { r with last := if code ≠ 0 ∧ ntOk ⟨code, sub, d⟩ = true then frB 3 (ntB ⟨code, sub, d⟩) else r.last, clo := true, dn := if ph = 5 then true else r.dn } := by
 unfold endQ
 by_cases h1 : code ≠ 0 <;> by_cases h2 : ph = 5 <;> by_cases h3 : ntOk ⟨code, sub, d⟩ = true <;> simp [h1, h2, h3, actsM, actM]
section
variable {υ : Type}
def pApp (p : PrQ) (c : List UInt8) : PrQ := { p with s := stApp p.s c }
theorem sendM_st (p : PrQ) (k : Int) (b : List UInt8) : (sendM p k b).1.st = p.st ∧ (sendM p k b).1.lo = p.lo ∧ (sendM p k b).1.s = p.s := by
 unfold sendM
 split <;> exact ⟨rfl, rfl, rfl⟩
theorem timeM_st (p : PrQ) (k n now : Int) : (timeM p k n now).st = p.st ∧ (timeM p k n now).lo = p.lo ∧ (timeM p k n now).s = p.s := by
 unfold timeM
 split <;> exact ⟨rfl, rfl, rfl⟩
theorem actM_st (now : Int) (p : PrQ) (r : RsQ υ) (a : AcQ) : (actM now p r a).1.st = p.st ∧ (actM now p r a).1.lo = p.lo ∧ ((actM now p r a).1.s = p.s ∨ (actM now p r a).1.s = st0) := by
 unfold actM
 repeat' split
 all_goals first
  | exact ⟨rfl, rfl, .inl rfl⟩
  | exact ⟨rfl, rfl, .inr rfl⟩
  | exact ⟨(sendM_st _ _ _).1, (sendM_st _ _ _).2.1, .inl (sendM_st _ _ _).2.2⟩
  | exact ⟨(timeM_st _ _ _ _).1, (timeM_st _ _ _ _).2.1, .inl (timeM_st _ _ _ _).2.2⟩
theorem actsM_st (now : Int) : ∀ (l : List AcQ) (p : PrQ) (r : RsQ υ), (actsM now p r l).1.st = p.st ∧ (actsM now p r l).1.lo = p.lo ∧ ((actsM now p r l).1.s = p.s ∨ (actsM now p r l).1.s = st0)
 | [], p, r => ⟨rfl, rfl, .inl rfl⟩
 | a :: l, p, r => by
  have h1 := actM_st now p r a
  unfold actsM
  split
  ·have h2 := actsM_st now l (actM now p r a).1 (actM now p r a).2.1
   refine ⟨h2.1.trans h1.1, h2.2.1.trans h1.2.1, ?_⟩
   rcases h2.2.2 with h | h
   ·rw [h]; exact h1.2.2
   ·exact .inr h
  ·exact h1
theorem onceM_st (now : Int) (p : PrQ) (r : RsQ υ) (e : EvQ) : (onceM now p r e).1.st = (stepR p.lo p.st e.s).t ∧ (onceM now p r e).1.lo = p.lo ∧ ((onceM now p r e).1.s = p.s ∨ (onceM now p r e).1.s = st0) := actsM_st now _ _ _
theorem hapM_s (now : Int) (p : PrQ) (r : RsQ υ) (e : EvQ) : (hapM now p r e).1.s = p.s ∨ (hapM now p r e).1.s = st0 := by
 unfold hapM
 split
 ·exact (onceM_st now p r e).2.2
 ·rcases (onceM_st now (onceM now p r e).1 (onceM now p r e).2.1 fullQ).2.2 with h | h
  ·dsimp only
   rw [h]
   exact (onceM_st now p r e).2.2
  ·exact .inr h
theorem step_bad (l : Loc) (s : Sta) (n : NtQ) (hl : locOk l.asn l.hold l.id l.paths l.retry l.four = true) (h : 3 ≤ s.ph ∧ s.ph ≤ 5) : stepR l s (badQ n).s = fallR l s n.c n.s n.d := by
 unfold stepR
 rw [if_pos ⟨hl, by omega, by omega⟩, if_neg (by show ¬ (9 : Int) = 2; decide), if_neg (by omega), if_neg (by omega)]
 rfl
theorem end_app (now : Int) (p : PrQ) (r : RsQ υ) (c : List UInt8) (ph retry code sub : Int) (d : List UInt8) : actsM now (pApp p c) r (endQ ph retry code sub d) = actsM now p r (endQ ph retry code sub d) := by
 have h1 := end_acts now p r ph retry code sub d
 have h2 := end_acts now (pApp p c) r ph retry code sub d
 refine Prod.ext ?_ (Prod.ext ?_ ?_)
 ·rw [h1.2.1, h2.2.1]; rfl
 ·rw [h1.2.2, h2.2.2]
 ·rw [h1.1, h2.1]
theorem once_bad (now : Int) (p : PrQ) (r : RsQ υ) (n : NtQ) (hl : locOk p.lo.asn p.lo.hold p.lo.id p.lo.paths p.lo.retry p.lo.four = true) (h : 3 ≤ p.st.ph ∧ p.st.ph ≤ 5) :
  (onceM now p r (badQ n)).2.2 = true ∧ (onceM now p r (badQ n)).1.st.ph = 2 ∧ ∀ c, onceM now (pApp p c) r (badQ n) = onceM now p r (badQ n) := by
 have h1 : acsR (stepR p.lo p.st (badQ n).s) = endQ p.st.ph p.lo.retry n.c n.s n.d := by rw [step_bad _ _ _ hl h]; exact acsR_fall _ _ _ _ _
 refine ⟨?_, ?_, fun c => ?_⟩
 ·unfold onceM
  rw [h1]
  exact (end_acts now _ r _ _ _ _ _).1
 ·rw [(onceM_st now p r (badQ n)).1, step_bad _ _ _ hl h]
  rfl
 ·unfold onceM
  show actsM now (pApp { p with st := (stepR p.lo p.st (badQ n).s).t } c) r (acsR (stepR p.lo p.st (badQ n).s)) = _
  rw [h1]
  exact end_app now _ r c _ _ _ _ _
theorem hap_bad (now : Int) (p : PrQ) (r : RsQ υ) (n : NtQ) (hl : locOk p.lo.asn p.lo.hold p.lo.id p.lo.paths p.lo.retry p.lo.four = true) (h : 3 ≤ p.st.ph ∧ p.st.ph ≤ 5) :
  (hapM now p r (badQ n)).1.st.ph = 2 ∧ ∀ c, hapM now (pApp p c) r (badQ n) = hapM now p r (badQ n) := by
 obtain ⟨h1, h2, h3⟩ := once_bad now p r n hl h
 refine ⟨?_, fun c => ?_⟩
 ·unfold hapM
  rw [if_pos h1]
  exact h2
 ·unfold hapM
  rw [h3]
end
section
variable {υ : Type} (upd : Bool → Bool → List UInt8 → Option υ × NtQ) (now : Int)
structure Talk (p : PrQ) : Prop where
 ok : PrOk p
 ph : 3 ≤ p.st.ph
 n : p.s.n = nt0
theorem Talk.pp {p : PrQ} (h : Talk p) : 3 ≤ p.st.ph ∧ p.st.ph ≤ 5 := ⟨h.ph, h.ok.ph.2⟩
theorem drain_lo {p : PrQ} {r : RsQ υ} (h : p.st.ph < 3) : ∀ k, drainM upd now k p r = (p, r)
 | 0 => rfl
 | k + 1 => by
  unfold drainM
  rw [if_pos h]
inductive DStep (p : PrQ) (r : RsQ υ) : Prop
 | none (h : (nextM p.s).2.1 = none) (h2 : (nextM p.s).2.2.c = 0) (e : ∀ k, drainM upd now (k + 1) p r = (p, r)) : DStep p r
 | bad (h : (nextM p.s).2.2.c ≠ 0) (p' : PrQ) (r' : RsQ υ) (hp : p'.st.ph = 2) (e : ∀ k, drainM upd now (k + 1) p r = (p', r')) (ea : ∀ c k, drainM upd now (k + 1) (pApp p c) r = (p', r')) : DStep p r
 | some (m : Int × List UInt8) (h : (nextM p.s).2.1 = some m) : DStep p r
theorem step_of {p : PrQ} (r : RsQ υ) (h : Talk p) : DStep upd now p r := by
 have hnc : p.s.n.c = 0 := by rw [h.n]; rfl
 by_cases h1 : (nextM p.s).2.2.c ≠ 0
 ·have hb := hap_bad now { p with s := (nextM p.s).1 } r (nextM p.s).2.2 h.ok.lo h.pp
  have hk : ∀ c, nextM (stApp p.s c) = nextM p.s := fun c => (next_bad hnc h1 c).1
  refine .bad h1 (hapM now { p with s := (nextM p.s).1 } r (badQ (nextM p.s).2.2)).1 (hapM now { p with s := (nextM p.s).1 } r (badQ (nextM p.s).2.2)).2 hb.1 (fun k => ?_) (fun c k => ?_)
  ·conv => lhs; unfold drainM
   rw [if_neg (by have := h.ph; omega), if_pos h1]
   exact drain_lo upd now (by rw [hb.1]; decide) k
  ·conv => lhs; unfold drainM
   have hk' : nextM (pApp p c).s = nextM p.s := hk c
   rw [hk', if_neg (by show ¬ p.st.ph < 3; have := h.ph; omega), if_pos h1]
   exact drain_lo upd now (by show (hapM now { p with s := (nextM p.s).1 } r (badQ (nextM p.s).2.2)).1.st.ph < 3; rw [hb.1]; decide) k
 ·have h1 : (nextM p.s).2.2.c = 0 := by omega
  cases h2 : (nextM p.s).2.1 with
  | none =>
   refine .none h2 h1 (fun k => ?_)
   unfold drainM
   rw [if_neg (by have := h.ph; omega), if_neg (by omega)]
   have := next_none hnc h2 h1
   rw [h2, this]
  | some m => exact .some m h2
def oneM (p : PrQ) (r : RsQ υ) (m : Int × List UInt8) : PrQ × RsQ υ := hapM now { p with s := (nextM p.s).1 } (msgM upd p r m.1 m.2).1 (msgM upd p r m.1 m.2).2
theorem drain_some {p : PrQ} (r : RsQ υ) (h : Talk p) {m : Int × List UInt8} (hm : (nextM p.s).2.1 = some m) (k : Nat) : drainM upd now (k + 1) p r = drainM upd now k (oneM upd now p r m).1 (oneM upd now p r m).2 := by
 have hnc : p.s.n.c = 0 := by rw [h.n]; rfl
 have h4 := next_some hnc hm []
 conv => lhs; unfold drainM
 rw [if_neg (by have := h.ph; omega), if_neg (by rw [h4.2.2.2.1]; decide), hm]
 rfl
theorem next_ok {p : PrQ} (h : Talk p) {m : Int × List UInt8} (hm : (nextM p.s).2.1 = some m) : PrOk { p with s := (nextM p.s).1 } := by
 have hnc : p.s.n.c = 0 := by rw [h.n]; rfl
 have h4 := next_some hnc hm []
 exact { h.ok with sb := by have := h.ok.sb; show (nextM p.s).1.b.length ≤ 65536; omega, sd := by show (nextM p.s).1.n.d.length ≤ 2; rw [h4.2.1, h.n]; decide, sn := .inl (by show (nextM p.s).1.n.c = 0; rw [h4.2.1, h.n]; rfl) }
theorem one_ok {p : PrQ} (r : RsQ υ) (h : Talk p) {m : Int × List UInt8} (hm : (nextM p.s).2.1 = some m) :
  PrOk (oneM upd now p r m).1 ∧ (oneM upd now p r m).1.s.n = nt0 ∧ (oneM upd now p r m).1.s.b.length + 19 ≤ p.s.b.length := by
 have hnc : p.s.n.c = 0 := by rw [h.n]; rfl
 have h4 := next_some hnc hm []
 refine ⟨hapM_ok (next_ok h hm) now _ _, ?_, ?_⟩
 ·unfold oneM
  rcases hapM_s now { p with s := (nextM p.s).1 } (msgM upd p r m.1 m.2).1 (msgM upd p r m.1 m.2).2 with e | e
  ·rw [e]
   dsimp only
   rw [h4.2.1, h.n]
  ·rw [e]
   rfl
 ·unfold oneM
  rcases hapM_s now { p with s := (nextM p.s).1 } (msgM upd p r m.1 m.2).1 (msgM upd p r m.1 m.2).2 with e | e
  ·rw [e]
   exact h4.2.2.1
  ·rw [e]
   show 0 + 19 ≤ _
   omega
theorem Talk.of {p : PrQ} (h1 : PrOk p) (h2 : p.s.n = nt0) (h3 : ¬ p.st.ph < 3) : Talk p := ⟨h1, by omega, h2⟩
theorem drain_ok : ∀ (k : Nat) (p : PrQ) (r : RsQ υ), Talk p → p.s.b.length + 2 ≤ k → PrOk (drainM upd now k p r).1 ∧ (drainM upd now k p r).1.s.n = nt0 ∧ (drainM upd now k p r).1.s.b.length ≤ p.s.b.length
 | 0, p, r, _, h => by omega
 | k + 1, p, r, hT, h1 => by
  have hnc : p.s.n.c = 0 := by rw [hT.n]; rfl
  rcases step_of upd now r hT with ⟨_, _, e⟩ | ⟨hb, p', r', hp, e, _⟩ | ⟨m, hm⟩
  ·rw [e]
   exact ⟨hT.ok, hT.n, Nat.le_refl _⟩
  ·have e1 : drainM upd now (k + 1) p r = hapM now { p with s := (nextM p.s).1 } r (badQ (nextM p.s).2.2) := by
    have hb3 := hap_bad now { p with s := (nextM p.s).1 } r (nextM p.s).2.2 hT.ok.lo hT.pp
    conv => lhs; unfold drainM
    rw [if_neg (by have := hT.ph; omega), if_pos hb]
    exact drain_lo upd now (by rw [hb3.1]; decide) k
   have hn := next_bad hnc hb []
   have hh : (headM p.s.b).2.2 = (nextM p.s).2.2 ∧ (headM p.s.b).2.2.c ≠ 0 := ⟨hn.2.2.2.1.symm, hn.2.2.2.2⟩
   have hq := headM_note p.s.b hh.2
   rw [hh.1] at hq
   have k1 : (nextM p.s).1.b.length ≤ 65536 := by rw [hn.2.1]; exact Nat.zero_le _
   have k2 : (nextM p.s).1.n.d.length ≤ 2 := by rw [hn.2.1]; exact hq.2.1
   have k3 : (nextM p.s).1.n.c = 0 ∨ ((nextM p.s).1.n.c = 1 ∧ (nextM p.s).1.b = [] ∧ ntOk (nextM p.s).1.n = true) := .inr (by rw [hn.2.1]; exact ⟨hq.2.2.2, rfl, hq.2.2.1⟩)
   have ok1 : PrOk { p with s := (nextM p.s).1 } := { hT.ok with sb := k1, sd := k2, sn := k3 }
   have hb3 := once_bad now { p with s := (nextM p.s).1 } r (nextM p.s).2.2 hT.ok.lo hT.pp
   have hs0 : (hapM now { p with s := (nextM p.s).1 } r (badQ (nextM p.s).2.2)).1.s = st0 := by
    unfold hapM
    rw [if_pos hb3.1]
    dsimp only
    unfold onceM
    have h1 : acsR (stepR p.lo p.st (badQ (nextM p.s).2.2).s) = endQ p.st.ph p.lo.retry (nextM p.s).2.2.c (nextM p.s).2.2.s (nextM p.s).2.2.d := by rw [step_bad _ _ _ hT.ok.lo hT.pp]; exact acsR_fall _ _ _ _ _
    dsimp only
    rw [h1, (end_acts now _ r _ _ _ _ _).2.1, (timeM_st _ _ _ _).2.2, (timeM_st _ _ _ _).2.2, (timeM_st _ _ _ _).2.2]
   rw [e1, hs0]
   exact ⟨hapM_ok ok1 now r _, rfl, Nat.zero_le _⟩
  ·rw [drain_some upd now r hT hm]
   have ho := one_ok upd now r hT hm
   by_cases h3 : (oneM upd now p r m).1.st.ph < 3
   ·rw [drain_lo upd now h3]
    exact ⟨ho.1, ho.2.1, by dsimp only; omega⟩
   ·have := drain_ok k (oneM upd now p r m).1 (oneM upd now p r m).2 (Talk.of ho.1 ho.2.1 h3) (by omega)
    exact ⟨this.1, this.2.1, by omega⟩
theorem Talk.app {p : PrQ} (h : Talk p) {b : List UInt8} (hb : p.s.b.length + b.length ≤ 65536) : Talk (pApp p b) := by
 have k1 : (p.s.b ++ b).length ≤ 65536 := by rw [List.length_append]; exact hb
 have k3 : p.s.n.c = 0 ∨ (p.s.n.c = 1 ∧ p.s.b ++ b = [] ∧ ntOk p.s.n = true) := .inl (by rw [h.n]; rfl)
 exact ⟨{ h.ok with sb := k1, sd := h.ok.sd, sn := k3 }, h.ph, h.n⟩
end
section
variable {υ : Type} (upd : Bool → Bool → List UInt8 → Option υ × NtQ) (now : Int)
end
end Go.Proofs.YteeogabkkblkgaaGreatDoor
