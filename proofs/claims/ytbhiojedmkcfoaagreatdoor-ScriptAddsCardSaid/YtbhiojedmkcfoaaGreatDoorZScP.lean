/- Part of a proof of many texts: what the theorem at its end leans on. -/
import Derived.Test.YtbhiojedmkcfoaaGreatDoorZAdP
import Derived.Test.YtbhiojedmkcfoaaGreatDoorZCgP
import Derived.Test.YtbhiojedmkcfoaaGreatDoorZAd0
namespace Go.Proofs.YtbhiojedmkcfoaaGreatDoor
set_option linter.unusedVariables false
set_option linter.unusedSimpArgs false
open Go.RowKit
structure CntQ where
 a : Nat
 n : Int
 k : Int
deriving DecidableEq
structure CarQ where
 i : Int
 c : Int
 d : Bool
deriving DecidableEq
structure DoQ where
 k : Int
 r : Int
 n : Int
 data : List UInt8
 cs : Int
 cq : Int
 cl : List CntQ
 rs : Int
 rq : Int
 rl : List CarQ
deriving DecidableEq
def do0 : DoQ := ⟨0, 0, 0, [], 0, 0, [], 0, 0, []⟩
def fitW (w : Nat) (n : Int) : Bool := decide (0 ≤ n) && decide (n < (256 ^ w : Nat))
def cntOk (c : CntQ) : Bool := okX c.a c.n && fitW 4 c.k
def carOk (c : CarQ) : Bool := fitW 4 c.i && fitW 4 c.c
def usedQ (d : DoQ) : DoQ :=
 ⟨d.k, (if 1 ≤ d.k ∧ d.k ≤ 6 then d.r else 0), (if d.k = 6 then d.n else 0), (if d.k = 5 then d.data else []), (if d.k = 8 then d.cs else 0), (if d.k = 8 then d.cq else 0), (if d.k = 8 then d.cl else []), (if d.k = 9 then d.rs else 0), (if d.k = 9 then d.rq else 0), (if d.k = 9 then d.rl else [])⟩
def smallQ (d : DoQ) : Bool := fitW 1 d.r && fitW 4 d.n && decide (d.data.length ≤ 8192) && fitW 1 d.cs && fitW 4 d.cq && fitW 1 d.rs && fitW 4 d.rq && decide (d.cl.length ≤ 255) && decide (d.rl.length ≤ 255) && d.cl.all cntOk && d.rl.all carOk
def oneQ (d : DoQ) : Bool := decide (1 ≤ d.k) && decide (d.k ≤ 9) && decide (d = usedQ d) && smallQ d
def cntB (c : CntQ) : List UInt8 := pfB c.a c.n.toNat ++ be 4 c.k.toNat
def carB (c : CarQ) : List UInt8 := be 4 c.i.toNat ++ (be 4 c.c.toNat ++ [if c.d = true then 1 else 0])
def hdrB (s q : Int) (n : Nat) : List UInt8 := UInt8.ofNat s.toNat :: (be 4 q.toNat ++ [UInt8.ofNat n])
def tailB (d : DoQ) : List UInt8 := if d.k = 5 then be 2 d.data.length ++ d.data else if d.k = 6 then be 4 d.n.toNat else if d.k = 8 then hdrB d.cs d.cq d.cl.length ++ d.cl.flatMap cntB else if d.k = 9 then hdrB d.rs d.rq d.rl.length ++ d.rl.flatMap carB else []
def doB (d : DoQ) : List UInt8 := UInt8.ofNat d.k.toNat :: ((if d.k ≤ 6 then [UInt8.ofNat d.r.toNat] else []) ++ tailB d)
def getW (w : Nat) (l : List UInt8) : Option (Nat × List UInt8) := if w ≤ l.length then some (ge (l.take w), l.drop w) else none
def getP (l : List UInt8) : Option (Nat × Nat × List UInt8) := match l with
 | [] => none
 | k :: r => if (k.toNat + 7) / 8 ≤ r.length then match pfG (k :: r.take ((k.toNat + 7) / 8)) with
   | some (a, q) => if pfB a q = k :: r.take ((k.toNat + 7) / 8) then some (a, q, r.drop ((k.toNat + 7) / 8)) else none
   | none => none
  else none
def getC (l : List UInt8) : Option (CntQ × List UInt8) := match getP l with
 | none => none
 | some (a, q, r) => match getW 4 r with
  | none => none
  | some (n, r) => some (⟨a, q, n⟩, r)
def getR (l : List UInt8) : Option (CarQ × List UInt8) := match getW 4 l with
 | none => none
 | some (i, r) => match getW 4 r with
  | none => none
  | some (c, r) => match getW 1 r with
   | none => none
   | some (d, r) => if d ≤ 1 then some (⟨i, c, decide (d = 1)⟩, r) else none
def getM {α : Type} (g : List UInt8 → Option (α × List UInt8)) : Nat → List UInt8 → Option (List α × List UInt8)
 | 0, l => some ([], l)
 | n + 1, l => match g l with
  | none => none
  | some (x, r) => match getM g n r with
   | none => none
   | some (xs, r) => some (x :: xs, r)
def getH (l : List UInt8) : Option (Nat × Nat × Nat × List UInt8) := match getW 1 l with
 | none => none
 | some (s, r) => match getW 4 r with
  | none => none
  | some (q, r) => match getW 1 r with
   | none => none
   | some (n, r) => some (s, q, n, r)
def getT (k : Nat) (r : List UInt8) : Option (DoQ × List UInt8) :=
 if k = 8 then match getH r with
  | none => none
  | some (s, q, n, r) => match getM getC n r with
   | none => none
   | some (cl, r) => some ({ do0 with k := 8, cs := s, cq := q, cl := cl }, r)
 else if k = 9 then match getH r with
  | none => none
  | some (s, q, n, r) => match getM getR n r with
   | none => none
   | some (rl, r) => some ({ do0 with k := 9, rs := s, rq := q, rl := rl }, r)
 else if k ≤ 6 then match getW 1 r with
  | none => none
  | some (ro, r) => if k = 5 then match getW 2 r with
    | none => none
    | some (n, r) => if n ≤ r.length then some ({ do0 with k := 5, r := ro, data := r.take n }, r.drop n) else none
   else if k = 6 then match getW 4 r with
    | none => none
    | some (n, r) => some ({ do0 with k := 6, r := ro, n := n }, r)
   else some ({ do0 with k := k, r := ro }, r)
 else some ({ do0 with k := k }, r)
def getD1 (l : List UInt8) : Option (DoQ × List UInt8) := match l with
 | [] => none
 | k :: r => getT k.toNat r
def getD (l : List UInt8) : Option (DoQ × List UInt8) := match getD1 l with
 | none => none
 | some (d, r) => if oneQ d = true then some (d, r) else none
theorem be_ge : ∀ (w : Nat) (l : List UInt8), l.length = w → be w (ge l) = l
 | 0, l, h => by
  have := List.eq_nil_of_length_eq_zero h
  subst this; rfl
 | w + 1, [], h => by simp at h
 | w + 1, b :: l, h => by
  have hl : l.length = w := by simpa using h
  have hlt := ge_lt l
  rw [hl] at hlt
  have ih := be_ge w l hl
  have h1 : ge (b :: l) / 256 ^ w = b.toNat := by
   rw [ge_cons, hl, Nat.mul_comm, Nat.mul_add_div (Nat.pow_pos (by decide)), Nat.div_eq_of_lt hlt, Nat.add_zero]
  have h2 : be w (ge (b :: l)) = be w (ge l) := by
   apply List.ext_getElem?
   intro i
   rcases Nat.lt_or_ge i w with hi | hi
   ·rw [be_get w _ i hi, be_get w _ i hi, ge_cons, hl]
    congr 1
    apply UInt8.toNat_inj.1
    simp only [UInt8.toNat_ofNat']
    have e : 256 ^ w = 256 ^ (w - 1 - i) * (256 ^ (i + 1)) := by rw [← Nat.pow_add]; congr 1; omega
    have e2 : b.toNat * 256 ^ w = 256 ^ (w - 1 - i) * (b.toNat * 256 ^ i * 256) := by rw [e, Nat.pow_succ]; ac_rfl
    rw [e2, Nat.mul_add_div (Nat.pow_pos (by decide))]
    omega
   ·rw [List.getElem?_eq_none (by rw [be_length]; exact hi), List.getElem?_eq_none (by rw [be_length]; exact hi)]
  rw [be, h1, h2, ih]
  simp
theorem getW_be (w n : Nat) (h : n < 256 ^ w) (r : List UInt8) : getW w (be w n ++ r) = some (n, r) := by
 have hl := be_length w n
 unfold getW
 rw [if_pos (by rw [List.length_append]; omega), List.take_left' hl, List.drop_left' hl, ge_be, Nat.mod_eq_of_lt h]
theorem getW_some {w n : Nat} {l r : List UInt8} (h : getW w l = some (n, r)) : l = be w n ++ r ∧ n < 256 ^ w := by
 unfold getW at h
 split at h
 ·rename_i hl
  injection h with h
  injection h with h1 h2
  subst h1 h2
  have hlt : (l.take w).length = w := by rw [List.length_take]; omega
  rw [be_ge w _ hlt, List.take_append_drop]
  have := ge_lt (l.take w)
  rw [hlt] at this
  exact ⟨rfl, this⟩
 ·cases h
theorem be1 (n : Nat) : be 1 n = [UInt8.ofNat n] := by simp [be]
theorem getW_b1 (n : Nat) (h : n < 256) (r : List UInt8) : getW 1 (UInt8.ofNat n :: r) = some (n, r) := by
 have := getW_be 1 n (by simpa using h) r
 rw [be1] at this
 exact this
theorem getW_s1 {n : Nat} {l r : List UInt8} (h : getW 1 l = some (n, r)) : l = UInt8.ofNat n :: r ∧ n < 256 := by
 obtain ⟨h1, h2⟩ := getW_some h
 rw [be1] at h1
 exact ⟨h1, by simpa using h2⟩
theorem fitW_iff {w : Nat} {n : Int} : fitW w n = true ↔ ∃ k : Nat, n = k ∧ k < 256 ^ w := by
 unfold fitW
 rw [Bool.and_eq_true, decide_eq_true_eq, decide_eq_true_eq]
 constructor
 ·intro h; exact ⟨n.toNat, by omega, by omega⟩
 ·rintro ⟨k, rfl, h⟩; omega
theorem getP_pfB (a q : Nat) (ha : a < 4294967296) (h : okX a q = true) (r : List UInt8) : getP (pfB a q ++ r) = some (a, q, r) := by
 obtain ⟨ht, hk⟩ := okX_top h
 have hl : ((be 4 a).take ((q + 7) / 8)).length = (q + 7) / 8 := by rw [List.length_take, be_length]; omega
 have e1 : (UInt8.ofNat q).toNat = q := by simp; omega
 have hp := (pfG_pfB a q ha h []).1
 rw [List.append_nil] at hp
 unfold pfB at hp ⊢
 rw [List.cons_append]
 simp only [getP, e1]
 rw [if_pos (by rw [List.length_append, hl]; omega), List.take_left' hl, List.drop_left' hl, hp]
 simp only
 unfold pfB
 rw [if_pos rfl]
theorem getP_some {l : List UInt8} {a q : Nat} {r : List UInt8} (h : getP l = some (a, q, r)) : l = pfB a q ++ r ∧ okX a q = true ∧ a < 4294967296 := by
 cases l with
 | nil => simp [getP] at h
 | cons k t =>
  simp only [getP] at h
  split at h
  ·split at h
   ·rename_i hg
    split at h
    ·rename_i hp
     injection h with h
     injection h with h1 h
     injection h with h2 h3
     subst h1 h2 h3
     refine ⟨by rw [hp, List.cons_append, List.take_append_drop], ?_⟩
     simp only [pfG] at hg
     split at hg
     ·rename_i hc
      injection hg with hg
      injection hg with g1 g2
      subst g1 g2
      refine ⟨okX_top1 _ _ hc.1, Nat.lt_of_le_of_lt (topN_le _ _) (adG_lt _ ?_)⟩
      rw [List.length_take]
      omega
     ·cases hg
    ·cases h
   ·cases h
  ·cases h
theorem getC_cntB (c : CntQ) (ha : c.a < 4294967296) (h : cntOk c = true) (r : List UInt8) : getC (cntB c ++ r) = some (c, r) := by
 unfold cntOk at h
 rw [Bool.and_eq_true, fitW_iff] at h
 obtain ⟨h1, k, hk, hk2⟩ := h
 have hn := okX_len h1
 obtain ⟨a, n, kk⟩ := c
 dsimp only at *
 obtain ⟨q, rfl⟩ : ∃ q : Nat, n = q := ⟨n.toNat, by omega⟩
 subst hk
 unfold cntB getC
 simp only [Int.toNat_natCast, List.append_assoc]
 rw [getP_pfB a q ha h1]
 simp only
 rw [getW_be 4 k hk2]
theorem getC_some {l : List UInt8} {c : CntQ} {r : List UInt8} (h : getC l = some (c, r)) : l = cntB c ++ r ∧ cntOk c = true ∧ c.a < 4294967296 := by
 unfold getC at h
 split at h
 ·cases h
 ·rename_i a q t hp
  split at h
  ·cases h
  ·rename_i n t' hw
   injection h with h
   injection h with h1 h2
   subst h1 h2
   obtain ⟨p1, p2, p3⟩ := getP_some hp
   obtain ⟨w1, w2⟩ := getW_some hw
   refine ⟨by unfold cntB; simp only [Int.toNat_natCast]; rw [p1, w1, List.append_assoc], ?_, p3⟩
   unfold cntOk
   rw [Bool.and_eq_true, fitW_iff]
   exact ⟨p2, n, rfl, w2⟩
theorem getR_carB (c : CarQ) (h : carOk c = true) (r : List UInt8) : getR (carB c ++ r) = some (c, r) := by
 unfold carOk at h
 rw [Bool.and_eq_true, fitW_iff, fitW_iff] at h
 obtain ⟨⟨i, hi, hi2⟩, k, hk, hk2⟩ := h
 obtain ⟨ci, cc, cd⟩ := c
 dsimp only at hi hk
 subst hi hk
 unfold carB getR
 simp only [Int.toNat_natCast, List.append_assoc]
 rw [getW_be 4 i hi2]
 simp only
 rw [getW_be 4 k hk2]
 cases cd
 ·have := getW_b1 0 (by decide) r
  simp only [Bool.false_eq_true, if_false, List.cons_append, List.nil_append]
  rw [show (0 : UInt8) = UInt8.ofNat 0 from rfl, this]
  rfl
 ·have := getW_b1 1 (by decide) r
  simp only [if_true, List.cons_append, List.nil_append]
  rw [show (1 : UInt8) = UInt8.ofNat 1 from rfl, this]
  rfl
theorem getR_some {l : List UInt8} {c : CarQ} {r : List UInt8} (h : getR l = some (c, r)) : l = carB c ++ r ∧ carOk c = true := by
 unfold getR at h
 split at h
 ·cases h
 ·rename_i i t1 h1
  split at h
  ·cases h
  ·rename_i k t2 h2
   split at h
   ·cases h
   ·rename_i d t3 h3
    split at h
    ·rename_i hd
     injection h with h
     injection h with e1 e2
     subst e1 e2
     obtain ⟨a1, a2⟩ := getW_some h1
     obtain ⟨b1, b2⟩ := getW_some h2
     obtain ⟨c1, c2⟩ := getW_s1 h3
     refine ⟨?_, by unfold carOk; rw [Bool.and_eq_true, fitW_iff, fitW_iff]; exact ⟨⟨i, rfl, a2⟩, k, rfl, b2⟩⟩
     unfold carB
     simp only [Int.toNat_natCast, List.append_assoc]
     rw [a1, b1, c1]
     congr 2
     rcases Nat.lt_or_ge d 1 with h0 | h0
     ·obtain rfl : d = 0 := by omega
      rfl
     ·obtain rfl : d = 1 := by omega
      rfl
    ·cases h
theorem getM_put {α : Type} {g : List UInt8 → Option (α × List UInt8)} {p : α → List UInt8} : ∀ (xs : List α) (r : List UInt8), (∀ x ∈ xs, ∀ r, g (p x ++ r) = some (x, r)) → getM g xs.length (xs.flatMap p ++ r) = some (xs, r)
 | [], r, _ => rfl
 | x :: xs, r, h => by
  simp only [List.length_cons, getM, List.flatMap_cons, List.append_assoc]
  rw [h x List.mem_cons_self]
  simp only
  rw [getM_put xs r (fun y hy => h y (List.mem_cons_of_mem _ hy))]
theorem getM_some {α : Type} {g : List UInt8 → Option (α × List UInt8)} {p : α → List UInt8} {ok : α → Prop} (hg : ∀ l x r, g l = some (x, r) → l = p x ++ r ∧ ok x) :
  ∀ (n : Nat) (l : List UInt8) (xs : List α) (r : List UInt8), getM g n l = some (xs, r) → l = xs.flatMap p ++ r ∧ xs.length = n ∧ ∀ x ∈ xs, ok x
 | 0, l, xs, r, h => by
  injection h with h
  injection h with h1 h2
  subst h1 h2
  exact ⟨rfl, rfl, fun x hx => by cases hx⟩
 | n + 1, l, xs, r, h => by
  simp only [getM] at h
  split at h
  ·cases h
  ·rename_i x t hx
   split at h
   ·cases h
   ·rename_i ys t' hy
    injection h with h
    injection h with h1 h2
    subst h1 h2
    obtain ⟨a1, a2⟩ := hg _ _ _ hx
    obtain ⟨b1, b2, b3⟩ := getM_some hg n _ _ _ hy
    refine ⟨by rw [a1, b1, List.flatMap_cons, List.append_assoc], by simp [b2], fun z hz => ?_⟩
    rcases List.mem_cons.1 hz with e | hz
    ·rw [e]; exact a2
    ·exact b3 z hz
theorem getH_hdrB (s q n : Nat) (hs : s < 256) (hq : q < 4294967296) (hn : n < 256) (r : List UInt8) : getH (hdrB s q n ++ r) = some (s, q, n, r) := by
 unfold getH hdrB
 simp only [Int.toNat_natCast, List.cons_append, List.append_assoc]
 rw [getW_b1 s hs]
 simp only
 rw [getW_be 4 q (by simpa using hq)]
 simp only [List.nil_append]
 rw [getW_b1 n hn]
theorem getH_some {l : List UInt8} {s q n : Nat} {r : List UInt8} (h : getH l = some (s, q, n, r)) : l = hdrB s q n ++ r ∧ s < 256 ∧ q < 4294967296 ∧ n < 256 := by
 unfold getH at h
 split at h
 ·cases h
 ·rename_i a t1 h1
  split at h
  ·cases h
  ·rename_i b t2 h2
   split at h
   ·cases h
   ·rename_i c t3 h3
    injection h with h
    injection h with e1 h
    injection h with e2 h
    injection h with e3 e4
    subst e1 e2 e3 e4
    obtain ⟨a1, a2⟩ := getW_s1 h1
    obtain ⟨b1, b2⟩ := getW_some h2
    obtain ⟨c1, c2⟩ := getW_s1 h3
    refine ⟨?_, a2, by simpa using b2, c2⟩
    unfold hdrB
    simp only [Int.toNat_natCast, List.cons_append, List.append_assoc, List.nil_append]
    rw [a1, b1, c1]
theorem used_eq {k r n : Int} {data : List UInt8} {cs cq : Int} {cl : List CntQ} {rs rq : Int} {rl : List CarQ} (h : (⟨k, r, n, data, cs, cq, cl, rs, rq, rl⟩ : DoQ) = usedQ ⟨k, r, n, data, cs, cq, cl, rs, rq, rl⟩) :
  r = (if 1 ≤ k ∧ k ≤ 6 then r else 0) ∧ n = (if k = 6 then n else 0) ∧ data = (if k = 5 then data else []) ∧ cs = (if k = 8 then cs else 0) ∧ cq = (if k = 8 then cq else 0) ∧ cl = (if k = 8 then cl else []) ∧ rs = (if k = 9 then rs else 0) ∧ rq = (if k = 9 then rq else 0) ∧ rl = (if k = 9 then rl else []) := by
 unfold usedQ at h
 injection h with _ h1 h2 h3 h4 h5 h6 h7 h8 h9
 exact ⟨h1, h2, h3, h4, h5, h6, h7, h8, h9⟩
structure OneP (d : DoQ) : Prop where
 k1 : 1 ≤ d.k
 k9 : d.k ≤ 9
 used : d = usedQ d
 r : fitW 1 d.r = true
 n : fitW 4 d.n = true
 data : d.data.length ≤ 8192
 cs : fitW 1 d.cs = true
 cq : fitW 4 d.cq = true
 rs : fitW 1 d.rs = true
 rq : fitW 4 d.rq = true
 cl : d.cl.length ≤ 255
 rl : d.rl.length ≤ 255
 ca : ∀ c ∈ d.cl, cntOk c = true
 ra : ∀ c ∈ d.rl, carOk c = true
theorem oneQ_iff {d : DoQ} : oneQ d = true ↔ OneP d := by
 unfold oneQ smallQ
 simp only [Bool.and_eq_true, decide_eq_true_eq, List.all_eq_true]
 constructor
 ·rintro ⟨⟨⟨a, b⟩, c⟩, ⟨⟨⟨⟨⟨⟨⟨⟨⟨⟨d, e⟩, f⟩, g⟩, h⟩, i⟩, j⟩, k⟩, l⟩, m⟩, n⟩⟩
  exact ⟨a, b, c, d, e, f, g, h, i, j, k, l, m, n⟩
 ·rintro ⟨a, b, c, d, e, f, g, h, i, j, k, l, m, n⟩
  exact ⟨⟨⟨a, b⟩, c⟩, ⟨⟨⟨⟨⟨⟨⟨⟨⟨⟨d, e⟩, f⟩, g⟩, h⟩, i⟩, j⟩, k⟩, l⟩, m⟩, n⟩⟩
theorem fit1 {n : Int} (h : fitW 1 n = true) : ∃ k : Nat, n = k ∧ k < 256 := by
 obtain ⟨k, h1, h2⟩ := fitW_iff.1 h
 exact ⟨k, h1, by simpa using h2⟩
theorem fit4 {n : Int} (h : fitW 4 n = true) : ∃ k : Nat, n = k ∧ k < 4294967296 := by
 obtain ⟨k, h1, h2⟩ := fitW_iff.1 h
 exact ⟨k, h1, by simpa using h2⟩
theorem getD1_doB (d : DoQ) (ha : ∀ c ∈ d.cl, c.a < 4294967296) (h : OneP d) (r0 : List UInt8) : getD1 (doB d ++ r0) = some (d, r0) := by
 obtain ⟨k, r, n, data, cs, cq, cl, rs, rq, rl⟩ := d
 obtain ⟨a1, a2, a3, a4, a5, a6, a7, a8, a9, b1, b2, b3, b4, b5⟩ := h
 obtain ⟨u1, u2, u3, u4, u5, u6, u7, u8, u9⟩ := used_eq a3
 dsimp only at *
 obtain ⟨rn, hr, hr2⟩ := fit1 a4
 obtain ⟨nn, hn, hn2⟩ := fit4 a5
 obtain ⟨csn, hcs, hcs2⟩ := fit1 a7
 obtain ⟨cqn, hcq, hcq2⟩ := fit4 a8
 obtain ⟨rsn, hrs, hrs2⟩ := fit1 a9
 obtain ⟨rqn, hrq, hrq2⟩ := fit4 b1
 obtain hk | hk | hk | hk | hk | hk | hk | hk | hk : k = 1 ∨ k = 2 ∨ k = 3 ∨ k = 4 ∨ k = 5 ∨ k = 6 ∨ k = 7 ∨ k = 8 ∨ k = 9 := by omega
 ·subst hk
  simp at u2 u3 u4 u5 u6 u7 u8 u9
  subst hr u2 u3 u4 u5 u6 u7 u8 u9
  have := getW_b1 rn hr2 r0
  simp [doB, tailB, getD1, getT, this, do0]
 ·subst hk
  simp at u2 u3 u4 u5 u6 u7 u8 u9
  subst hr u2 u3 u4 u5 u6 u7 u8 u9
  have := getW_b1 rn hr2 r0
  simp [doB, tailB, getD1, getT, this, do0]
 ·subst hk
  simp at u2 u3 u4 u5 u6 u7 u8 u9
  subst hr u2 u3 u4 u5 u6 u7 u8 u9
  have := getW_b1 rn hr2 r0
  simp [doB, tailB, getD1, getT, this, do0]
 ·subst hk
  simp at u2 u3 u4 u5 u6 u7 u8 u9
  subst hr u2 u3 u4 u5 u6 u7 u8 u9
  have := getW_b1 rn hr2 r0
  simp [doB, tailB, getD1, getT, this, do0]
 ·subst hk
  simp at u2 u4 u5 u6 u7 u8 u9
  subst hr u2 u4 u5 u6 u7 u8 u9
  have h1 := getW_b1 rn hr2 (be 2 data.length ++ (data ++ r0))
  have h2 := getW_be 2 data.length (by simp; omega) (data ++ r0)
  have h3 : (data ++ r0).take data.length = data := List.take_left' rfl
  have h4 : (data ++ r0).drop data.length = r0 := List.drop_left' rfl
  simp [doB, tailB, getD1, getT, h1, h2, h3, h4, do0]
 ·subst hk
  simp at u3 u4 u5 u6 u7 u8 u9
  subst hr hn u3 u4 u5 u6 u7 u8 u9
  have h1 := getW_b1 rn hr2 (be 4 nn ++ r0)
  have h2 := getW_be 4 nn (by simpa using hn2) r0
  simp [doB, tailB, getD1, getT, h1, h2, do0]
 ·subst hk
  simp at u1 u2 u3 u4 u5 u6 u7 u8 u9
  subst u1 u2 u3 u4 u5 u6 u7 u8 u9
  simp [doB, tailB, getD1, getT, do0]
 ·subst hk
  simp at u1 u2 u3 u7 u8 u9
  subst hcs hcq u1 u2 u3 u7 u8 u9
  have h1 := getH_hdrB csn cqn cl.length hcs2 hcq2 (by omega) (cl.flatMap cntB ++ r0)
  have h2 := getM_put (g := getC) (p := cntB) cl r0 (fun x hx r => getC_cntB x (ha x hx) (b4 x hx) r)
  simp [doB, tailB, getD1, getT, h1, h2, do0]
 ·subst hk
  simp at u1 u2 u3 u4 u5 u6
  subst hrs hrq u1 u2 u3 u4 u5 u6
  have h1 := getH_hdrB rsn rqn rl.length hrs2 hrq2 (by omega) (rl.flatMap carB ++ r0)
  have h2 := getM_put (g := getR) (p := carB) rl r0 (fun x hx r => getR_carB x (b5 x hx) r)
  simp [doB, tailB, getD1, getT, h1, h2, do0]
theorem getD_doB (d : DoQ) (ha : ∀ c ∈ d.cl, c.a < 4294967296) (h : oneQ d = true) (r : List UInt8) : getD (doB d ++ r) = some (d, r) := by
 unfold getD
 rw [getD1_doB d ha (oneQ_iff.1 h) r]
 simp only
 rw [if_pos h]
theorem getD1_some {l : List UInt8} {d : DoQ} {r : List UInt8} (h : getD1 l = some (d, r)) (h1 : OneP d) : l = doB d ++ r ∧ ∀ c ∈ d.cl, c.a < 4294967296 := by
 cases l with
 | nil => simp [getD1] at h
 | cons b l =>
  have hb := b.toNat_lt
  have hbe : UInt8.ofNat b.toNat = b := by simp
  simp only [getD1, getT] at h
  split at h
  ·rename_i hk
   split at h
   ·cases h
   ·rename_i s q n t hh
    split at h
    ·cases h
    ·rename_i cl t' hm
     injection h with h
     injection h with e1 e2
     subst e1 e2
     obtain ⟨c1, c2, c3, c4⟩ := getH_some hh
     obtain ⟨m1, m2, m3⟩ := getM_some (p := cntB) (ok := fun c => c.a < 4294967296) (fun l x r hx => ⟨(getC_some hx).1, (getC_some hx).2.2⟩) n _ _ _ hm
     refine ⟨?_, m3⟩
     rw [← hbe, hk, c1, m1, ← m2]
     simp [doB, tailB, do0]
  ·split at h
   ·rename_i hk8 hk
    split at h
    ·cases h
    ·rename_i s q n t hh
     split at h
     ·cases h
     ·rename_i rl t' hm
      injection h with h
      injection h with e1 e2
      subst e1 e2
      obtain ⟨c1, c2, c3, c4⟩ := getH_some hh
      obtain ⟨m1, m2, m3⟩ := getM_some (p := carB) (ok := fun c => True) (fun l x r hx => ⟨(getR_some hx).1, trivial⟩) n _ _ _ hm
      refine ⟨?_, fun c hc => by cases hc⟩
      rw [← hbe, hk, c1, m1, ← m2]
      simp [doB, tailB, do0]
   ·split at h
    ·rename_i hk8 hk9 hk6
     split at h
     ·cases h
     ·rename_i ro t hw
      obtain ⟨w1, w2⟩ := getW_s1 hw
      split at h
      ·rename_i hk5
       split at h
       ·cases h
       ·rename_i n t' hw2
        obtain ⟨v1, v2⟩ := getW_some hw2
        split at h
        ·rename_i hn
         injection h with h
         injection h with e1 e2
         subst e1 e2
         refine ⟨?_, fun c hc => by cases hc⟩
         have ht : (t'.take n).length = n := by rw [List.length_take]; omega
         rw [← hbe, hk5, w1, v1]
         simp [doB, tailB, do0, ht, Nat.min_eq_left hn]
        ·cases h
      ·rename_i hk5
       split at h
       ·rename_i hk6'
        split at h
        ·cases h
        ·rename_i n t' hw2
         obtain ⟨v1, v2⟩ := getW_some hw2
         injection h with h
         injection h with e1 e2
         subst e1 e2
         refine ⟨?_, fun c hc => by cases hc⟩
         rw [← hbe, hk6', w1, v1]
         simp [doB, tailB, do0]
       ·rename_i hk6'
        injection h with h
        injection h with e1 e2
        subst e1 e2
        refine ⟨?_, fun c hc => by cases hc⟩
        have e5 : ¬ ((b.toNat : Nat) : Int) = 5 := by omega
        have e6 : ¬ ((b.toNat : Nat) : Int) = 6 := by omega
        have e8 : ¬ ((b.toNat : Nat) : Int) = 8 := by omega
        have e9 : ¬ ((b.toNat : Nat) : Int) = 9 := by omega
        have el : ((b.toNat : Nat) : Int) ≤ 6 := by omega
        rw [w1]
        simp [doB, tailB, do0, e5, e6, e8, e9, el]
    ·rename_i hk8 hk9 hk6
     injection h with h
     injection h with e1 e2
     subst e1 e2
     refine ⟨?_, fun c hc => by cases hc⟩
     have e5 : ¬ ((b.toNat : Nat) : Int) = 5 := by omega
     have e6 : ¬ ((b.toNat : Nat) : Int) = 6 := by omega
     have e8 : ¬ ((b.toNat : Nat) : Int) = 8 := by omega
     have e9 : ¬ ((b.toNat : Nat) : Int) = 9 := by omega
     have el : ¬ ((b.toNat : Nat) : Int) ≤ 6 := by omega
     simp [doB, tailB, do0, e5, e6, e8, e9, el]
theorem getD_some {l : List UInt8} {d : DoQ} {r : List UInt8} (h : getD l = some (d, r)) : l = doB d ++ r ∧ oneQ d = true ∧ ∀ c ∈ d.cl, c.a < 4294967296 := by
 unfold getD at h
 split at h
 ·cases h
 ·rename_i d' t hd
  split at h
  ·rename_i h1
   injection h with h
   injection h with e1 e2
   subst e1 e2
   obtain ⟨a, b⟩ := getD1_some hd (oneQ_iff.1 h1)
   exact ⟨a, h1, b⟩
  ·cases h
theorem getD_len {l : List UInt8} {d : DoQ} {t : List UInt8} (h : getD l = some (d, t)) : t.length < l.length := by
 obtain ⟨h1, _, _⟩ := getD_some h
 have := congrArg List.length h1
 rw [List.length_append] at this
 have h2 : 1 ≤ (doB d).length := by unfold doB; simp
 omega
def getL : Nat → List UInt8 → Option (List DoQ)
 | _, [] => some []
 | 0, _ :: _ => none
 | n + 1, b :: l => match getD (b :: l) with
  | none => none
  | some (d, r) => match getL n r with
   | none => none
   | some ds => some (d :: ds)
theorem getL_fuel : ∀ (n m : Nat) (l : List UInt8), l.length ≤ n → l.length ≤ m → getL n l = getL m l
 | 0, 0, _, _, _ => rfl
 | n, m, [], _, _ => by cases n <;> cases m <;> rfl
 | 0, _, _ :: _, h, _ => by simp at h
 | _, 0, _ :: _, _, h => by simp at h
 | n + 1, m + 1, b :: l, h1, h2 => by
  simp only [getL]
  cases hd : getD (b :: l) with
  | none => rfl
  | some x =>
   obtain ⟨d, r⟩ := x
   have hl := getD_len hd
   simp only
   rw [getL_fuel n m r (by omega) (by omega)]
def getA (l : List UInt8) : Option (List DoQ) := getL l.length l
theorem getA_nil : getA [] = some [] := rfl
theorem getA_cons {l : List UInt8} (hne : l ≠ []) : getA l = match getD l with
  | none => none
  | some (d, r) => match getA r with
   | none => none
   | some ds => some (d :: ds) := by
 cases l with
 | nil => exact absurd rfl hne
 | cons b l =>
  unfold getA
  simp only [List.length_cons, getL]
  cases hd : getD (b :: l) with
  | none => rfl
  | some x =>
   obtain ⟨d, r⟩ := x
   have hl := getD_len hd
   simp only [List.length_cons] at hl
   simp only
   rw [getL_fuel l.length r.length r (by omega) (Nat.le_refl _)]
def AllA (d : DoQ) : Prop := ∀ c ∈ d.cl, c.a < 4294967296
theorem getA_put : ∀ (ds : List DoQ), (∀ d ∈ ds, oneQ d = true ∧ AllA d) → getA (ds.flatMap doB) = some ds
 | [], _ => rfl
 | d :: ds, h => by
  obtain ⟨h1, h2⟩ := h d List.mem_cons_self
  have hne : (d :: ds).flatMap doB ≠ [] := by simp [doB]
  rw [getA_cons hne, List.flatMap_cons, getD_doB d h2 h1]
  simp only
  rw [getA_put ds (fun x hx => h x (List.mem_cons_of_mem _ hx))]
theorem getA_some : ∀ (n : Nat) (l : List UInt8), l.length ≤ n → ∀ ds, getA l = some ds → l = ds.flatMap doB ∧ ∀ d ∈ ds, oneQ d = true ∧ AllA d
 | n, [], _, ds, h => by
  rw [getA_nil] at h
  injection h with h
  subst h
  exact ⟨rfl, fun d hd => by cases hd⟩
 | 0, _ :: _, hn, _, _ => by simp at hn
 | n + 1, b :: l, hn, ds, h => by
  rw [getA_cons (by simp)] at h
  cases hd : getD (b :: l) with
  | none => rw [hd] at h; cases h
  | some x =>
   obtain ⟨d, r⟩ := x
   rw [hd] at h
   simp only at h
   cases ha : getA r with
   | none => rw [ha] at h; cases h
   | some xs =>
    rw [ha] at h
    injection h with h
    subst h
    have hl := getD_len hd
    obtain ⟨e1, e2, e3⟩ := getD_some hd
    obtain ⟨f1, f2⟩ := getA_some n r (by simp only [List.length_cons] at hl hn; omega) xs ha
    refine ⟨by rw [e1, List.flatMap_cons, f1], fun y hy => ?_⟩
    rcases List.mem_cons.1 hy with e | hy
    ·rw [e]; exact ⟨e2, e3⟩
    ·exact f2 y hy
def scOk (q : CfQ) (ds : List DoQ) : Bool := cfOk q && decide (ds.length ≤ 4096) && ds.all oneQ
def encM (q : CfQ) (ds : List DoQ) : List UInt8 := (be 2 (txt (linesOf q)).length ++ txt (linesOf q)) ++ ds.flatMap doB
def decH (b : List UInt8) : Option (CfQ × List UInt8) := match getW 2 b with
 | none => none
 | some (n, r) => if n ≤ r.length then match parM (r.take n) with
   | none => none
   | some q => some (q, r.drop n)
  else none
def decM (b : List UInt8) : Option (CfQ × List DoQ) := match decH b with
 | none => none
 | some (q, r) => match getA r with
  | none => none
  | some ds => if ds.length ≤ 4096 then some (q, ds) else none
theorem decH_enc (q : CfQ) (hw : CfW q) (hok : cfOk q = true) (r : List UInt8) : decH ((be 2 (txt (linesOf q)).length ++ txt (linesOf q)) ++ r) = some (q, r) := by
 have hl := text_len q hok (linesOf q).length
 rw [List.take_length] at hl
 unfold decH
 rw [List.append_assoc, getW_be 2 _ (by simp; omega)]
 simp only
 rw [if_pos (by rw [List.length_append]; omega), List.take_left' rfl, parM_txt q hw hok, List.drop_left' rfl]
theorem decH_some {b r : List UInt8} {q : CfQ} (h : decH b = some (q, r)) : b = (be 2 (txt (linesOf q)).length ++ txt (linesOf q)) ++ r ∧ CfW q ∧ cfOk q = true := by
 unfold decH at h
 split at h
 ·cases h
 ·rename_i n t hw
  obtain ⟨w1, w2⟩ := getW_some hw
  split at h
  ·rename_i hn
   split at h
   ·cases h
   ·rename_i q' hp
    injection h with h
    injection h with e1 e2
    subst e1 e2
    obtain ⟨p1, p2, p3⟩ := txt_parM hp
    refine ⟨?_, p2, p3⟩
    have hl : (txt (linesOf q')).length = n := by rw [p1, List.length_take]; omega
    rw [hl, w1, List.append_assoc, p1, List.take_append_drop]
  ·cases h
theorem dec_enc (q : CfQ) (ds : List DoQ) (hw : CfW q) (h : scOk q ds = true) (ha : ∀ d ∈ ds, AllA d) : decM (encM q ds) = some (q, ds) := by
 unfold scOk at h
 simp only [Bool.and_eq_true, decide_eq_true_eq, List.all_eq_true] at h
 unfold decM encM
 rw [decH_enc q hw h.1.1]
 simp only
 rw [getA_put ds (fun d hd => ⟨h.2 d hd, ha d hd⟩)]
 simp only
 rw [if_pos h.1.2]
theorem enc_dec {b : List UInt8} {q : CfQ} {ds : List DoQ} (h : decM b = some (q, ds)) : encM q ds = b ∧ scOk q ds = true ∧ CfW q ∧ ∀ d ∈ ds, AllA d := by
 unfold decM at h
 split at h
 ·cases h
 ·rename_i q' r hd
  split at h
  ·cases h
  ·rename_i ds' ha
   split at h
   ·rename_i hl
    injection h with h
    injection h with e1 e2
    subst e1 e2
    obtain ⟨d1, d2, d3⟩ := decH_some hd
    obtain ⟨g1, g2⟩ := getA_some _ r (Nat.le_refl _) ds' ha
    refine ⟨by unfold encM; rw [d1, g1], ?_, d2, fun d hd => (g2 d hd).2⟩
    unfold scOk
    simp only [Bool.and_eq_true, decide_eq_true_eq, List.all_eq_true]
    exact ⟨⟨d3, hl⟩, fun d hd => (g2 d hd).1⟩
   ·cases h
theorem enc_snoc (q : CfQ) (ds : List DoQ) (d : DoQ) : encM q (ds ++ [d]) = encM q ds ++ doB d := by
 unfold encM
 rw [List.flatMap_append, List.append_assoc, List.append_assoc]
 simp
theorem doB_len (d : DoQ) (h : OneP d) : (doB d).length ≤ 9000 := by
 have h1 := h.data
 have h2 := h.cl
 have h3 := h.rl
 have c1 : ∀ c : CntQ, (cntB c).length ≤ 9 := fun c => by
  unfold cntB pfB
  rw [List.length_append, List.length_cons, List.length_take, be_length, be_length]
  omega
 have c2 : ∀ c : CarQ, (carB c).length ≤ 9 := fun c => by
  unfold carB
  simp [be_length]
 have f : ∀ {α : Type} (p : α → List UInt8) (hp : ∀ x, (p x).length ≤ 9) (l : List α), (l.flatMap p).length ≤ 9 * l.length := by
  intro α p hp l
  induction l with
  | nil => simp
  | cons x l ih =>
   have := hp x
   rw [List.flatMap_cons, List.length_append, List.length_cons]
   omega
 have f1 := f cntB c1 d.cl
 have f2 := f carB c2 d.rl
 unfold doB tailB hdrB
 split <;> split <;> (try split) <;> (try split) <;> (try split) <;> simp only [List.length_append, List.length_cons, List.length_nil, be_length] <;> omega
attribute [local irreducible] HC HX HO Tri eP adr
def pfO : Option (Nat × Nat) → Nat × Nat
 | none => (0, 0)
 | some y => y
def pfxF (bad wr : Bool) (l : List UInt8) : (Nat × Nat) × Bool × Bool × List UInt8 :=
 let r1 := rdB bad l 1
 let k := (ngetR r1.1).1.toNat
 let r2 := rdB r1.2.1 r1.2.2 (((k + 7) / 8 : Nat) : Int)
 let bits := UInt8.ofNat k :: r2.1
 let g := pfG bits
 (pfO g, r2.2.1, wr || (g.isNone || !decide (bits = pfB (pfO g).1 (pfO g).2)), r2.2.2)
theorem rdB_len (bad : Bool) (l : List UInt8) (n : Int) : (rdB bad l n).1.length ≤ n.toNat ∧ (rdB bad l n).2.2.length ≤ l.length := by
 unfold rdB
 split
 ·simp
 ·rename_i h
  simp only [not_or, Int.not_lt] at h
  simp only [List.length_take, List.length_drop]
  omega
theorem nget_lt (bad : Bool) (l : List UInt8) : 0 ≤ (ngetR (rdB bad l 1).1).1 ∧ (ngetR (rdB bad l 1).1).1 < 256 := by
 have h := (rdB_len bad l 1).1
 have h2 := ge_lt (rdB bad l 1).1
 unfold ngetR
 split
 ·simp
 ·have : (256 : Nat) ^ (rdB bad l 1).1.length ≤ 256 ^ 1 := Nat.pow_le_pow_right (by decide) h
  simp only
  omega
theorem quo8b : ∀ k, k < 256 → bQuo .i64 ((k : Nat) + 7) 8 = (((k + 7) / 8 : Nat) : Int) := by decide +kernel
theorem pfG_ok {l : List UInt8} {a q : Nat} (h : pfG l = some (a, q)) : a < 4294967296 ∧ okX a q = true := by
 cases l with
 | nil => cases h
 | cons k t =>
  simp only [pfG] at h
  split at h
  ·rename_i hc
   injection h with h
   injection h with g1 g2
   subst g1 g2
   refine ⟨Nat.lt_of_le_of_lt (topN_le _ _) (adG_lt _ ?_), okX_top1 _ _ hc.1⟩
   rw [List.length_take]
   omega
  ·cases h
def rdN (bad : Bool) (l : List UInt8) (w : Nat) : Nat × Bool × List UInt8 := ((ngetR (rdB bad l w).1).1.toNat, (rdB bad l w).2.1, (rdB bad l w).2.2)
theorem nget_nn (l : List UInt8) : 0 ≤ (ngetR l).1 := by
 unfold ngetR
 split
 ·simp
 ·simp only
  omega
theorem rdN_lt (bad : Bool) (l : List UInt8) (w : Nat) (hw : w ≤ 4) : (rdN bad l w).1 < 256 ^ w ∧ (rdN bad l w).2.2.length ≤ l.length := by
 have h := rdB_len bad l w
 have h2 := ge_lt (rdB bad l w).1
 have hp : (256 : Nat) ^ (rdB bad l w).1.length ≤ 256 ^ w := Nat.pow_le_pow_right (by decide) (by simpa using h.1)
 have h0 : 0 < 256 ^ w := Nat.pow_pos (by decide)
 refine ⟨?_, h.2⟩
 unfold rdN ngetR
 split
 ·simpa using h0
 ·simp only [Int.toNat_natCast]
  omega
def rdH (bad : Bool) (l : List UInt8) : Nat × Nat × Nat × Bool × List UInt8 :=
 let r1 := rdN bad l 1
 let r2 := rdN r1.2.1 r1.2.2 4
 let r3 := rdN r2.2.1 r2.2.2 1
 (r1.1, r2.1, r3.1, r3.2.1, r3.2.2)
def rdC : Nat → Bool → Bool → List UInt8 → List CarQ × Bool × Bool × List UInt8
 | 0, bad, wr, l => ([], bad, wr, l)
 | n + 1, bad, wr, l => if bad || wr then ([], bad, wr, l) else
   let r1 := rdN bad l 4
   let r2 := rdN r1.2.1 r1.2.2 4
   let r3 := rdN r2.2.1 r2.2.2 1
   let t := rdC n r3.2.1 (wr || decide (r3.1 > 1)) r3.2.2
   (⟨r1.1, r2.1, decide (r3.1 = 1)⟩ :: t.1, t.2)
def rdK : Nat → Bool → Bool → List UInt8 → List CntQ × Bool × Bool × List UInt8
 | 0, bad, wr, l => ([], bad, wr, l)
 | n + 1, bad, wr, l => if bad || wr then ([], bad, wr, l) else
   let p := pfxF bad wr l
   let r := rdN p.2.1 p.2.2.2 4
   let t := rdK n r.2.1 p.2.2.1 r.2.2
   (⟨p.1.1, p.1.2, r.1⟩ :: t.1, t.2)
def rdD (bad wr : Bool) (l : List UInt8) : DoQ × Bool × Bool × List UInt8 :=
 let k := rdN bad l 1
 if k.1 = 8 then
  let h := rdH k.2.1 k.2.2
  let t := rdK h.2.2.1 h.2.2.2.1 wr h.2.2.2.2
  ({ do0 with k := 8, cs := h.1, cq := h.2.1, cl := t.1 }, t.2)
 else if k.1 = 9 then
  let h := rdH k.2.1 k.2.2
  let t := rdC h.2.2.1 h.2.2.2.1 wr h.2.2.2.2
  ({ do0 with k := 9, rs := h.1, rq := h.2.1, rl := t.1 }, t.2)
 else if k.1 ≤ 6 then
  let ro := rdN k.2.1 k.2.2 1
  if k.1 = 5 then
   let n := rdN ro.2.1 ro.2.2 2
   let b := rdB n.2.1 n.2.2 (n.1 : Int)
   ({ do0 with k := 5, r := ro.1, data := b.1 }, b.2.1, wr, b.2.2)
  else if k.1 = 6 then
   let n := rdN ro.2.1 ro.2.2 4
   ({ do0 with k := 6, r := ro.1, n := n.1 }, n.2.1, wr, n.2.2)
  else ({ do0 with k := k.1, r := ro.1 }, ro.2.1, wr, ro.2.2)
 else ({ do0 with k := k.1 }, k.2.1, wr, k.2.2)
def rdS : Nat → Bool → Bool → List UInt8 → List DoQ × Bool × Bool × List UInt8
 | 0, bad, wr, l => ([], bad, wr, l)
 | n + 1, bad, wr, l => if bad || wr || l.isEmpty then ([], bad, wr, l) else
   let d := rdD bad wr l
   let t := rdS n d.2.1 d.2.2.1 d.2.2.2
   (d.1 :: t.1, t.2)
theorem rdB_take (l : List UInt8) (n : Nat) (h : n ≤ l.length) : rdB false l (n : Int) = (l.take n, false, l.drop n) := by
 unfold rdB
 rw [if_neg (by simp; omega), Int.toNat_natCast]
theorem rdN_some {w n : Nat} {l r : List UInt8} (h1 : 1 ≤ w) (h4 : w ≤ 4) (h : getW w l = some (n, r)) : rdN false l w = (n, false, r) := by
 unfold getW at h
 split at h
 ·rename_i hl
  injection h with h
  injection h with e1 e2
  subst e1 e2
  have e : rdB false l w = (l.take w, false, l.drop w) := by
   unfold rdB
   rw [if_neg (by simp; omega)]
   simp
  unfold rdN ngetR
  rw [e]
  dsimp only
  rw [if_neg (by rw [List.length_take]; omega)]
  simp
 ·cases h
theorem rdN_none {w : Nat} {l : List UInt8} (h : getW w l = none) : (rdN false l w).2.1 = true := by
 unfold getW at h
 split at h
 ·cases h
 ·rename_i hl
  unfold rdN rdB
  rw [if_pos (by right; right; omega)]
theorem rdN_bad (l : List UInt8) (w : Nat) : (rdN true l w).2.1 = true := by unfold rdN rdB; simp
theorem rdN_one (k : UInt8) (t : List UInt8) : rdN false (k :: t) 1 = (k.toNat, false, t) := by
 refine rdN_some (by decide) (by decide) ?_
 unfold getW
 rw [if_pos (by simp)]
 simp [ge]
theorem pfx_cons (k : UInt8) (t : List UInt8) : pfxF false false (k :: t) =
  (pfO (pfG (k :: (rdB false t (((k.toNat + 7) / 8 : Nat) : Int)).1)), (rdB false t (((k.toNat + 7) / 8 : Nat) : Int)).2.1, ((pfG (k :: (rdB false t (((k.toNat + 7) / 8 : Nat) : Int)).1)).isNone || !decide (k :: (rdB false t (((k.toNat + 7) / 8 : Nat) : Int)).1 = pfB (pfO (pfG (k :: (rdB false t (((k.toNat + 7) / 8 : Nat) : Int)).1))).1 (pfO (pfG (k :: (rdB false t (((k.toNat + 7) / 8 : Nat) : Int)).1))).2)), (rdB false t (((k.toNat + 7) / 8 : Nat) : Int)).2.2) := by
 have e : (ngetR (rdB false (k :: t) 1).1).1.toNat = k.toNat := congrArg Prod.fst (rdN_one k t)
 unfold pfxF
 dsimp only
 rw [e, rd1]
 simp
theorem pfx_some {l : List UInt8} {a q : Nat} {r : List UInt8} (h : getP l = some (a, q, r)) : pfxF false false l = ((a, q), false, false, r) := by
 cases l with
 | nil => simp [getP] at h
 | cons k t =>
  simp only [getP] at h
  split at h
  ·rename_i hl
   have e : rdB false t (((k.toNat + 7) / 8 : Nat) : Int) = (t.take ((k.toNat + 7) / 8), false, t.drop ((k.toNat + 7) / 8)) := rdB_take t _ hl
   rw [pfx_cons, e]
   split at h
   ·rename_i hg
    split at h
    ·rename_i hp
     injection h with h
     injection h with h1 h
     injection h with h2 h3
     subst h1 h2 h3
     simp only [hg, pfO]
     simp [hp]
    ·cases h
   ·cases h
  ·cases h
theorem pfx_none {l : List UInt8} (h : getP l = none) : ((pfxF false false l).2.1 || (pfxF false false l).2.2.1) = true := by
 cases l with
 | nil => rfl
 | cons k t =>
  simp only [getP] at h
  rw [pfx_cons]
  split at h
  ·rename_i hl
   have e : rdB false t (((k.toNat + 7) / 8 : Nat) : Int) = (t.take ((k.toNat + 7) / 8), false, t.drop ((k.toNat + 7) / 8)) := rdB_take t _ hl
   rw [e]
   split at h
   ·rename_i hg
    split at h
    ·cases h
    ·rename_i hp
     simp only [hg, pfO]
     rw [decide_eq_false (fun hx => hp hx.symm)]
     simp
   ·rename_i hg
    simp only [hg]
    simp
  ·rename_i hl
   have e : (rdB false t (((k.toNat + 7) / 8 : Nat) : Int)).2.1 = true := by
    unfold rdB
    rw [if_pos (by right; right; omega)]
   rw [e]
   rfl
theorem rdK_stop {n : Nat} {bad wr : Bool} {l : List UInt8} (h : (bad || wr) = true) : rdK n bad wr l = ([], bad, wr, l) := by
 cases n with
 | zero => rfl
 | succ n => unfold rdK; rw [if_pos h]
theorem rdC_stop {n : Nat} {bad wr : Bool} {l : List UInt8} (h : (bad || wr) = true) : rdC n bad wr l = ([], bad, wr, l) := by
 cases n with
 | zero => rfl
 | succ n => unfold rdC; rw [if_pos h]
theorem rdK_some : ∀ {n : Nat} {l : List UInt8} {xs : List CntQ} {r : List UInt8}, getM getC n l = some (xs, r) → rdK n false false l = (xs, false, false, r)
 | 0, l, xs, r, h => by
  injection h with h
  injection h with h1 h2
  subst h1 h2
  rfl
 | n + 1, l, xs, r, h => by
  simp only [getM] at h
  unfold rdK
  rw [if_neg (by decide)]
  dsimp only
  cases hc : getC l with
  | none => rw [hc] at h; cases h
  | some x =>
   obtain ⟨x, t⟩ := x
   rw [hc] at h
   simp only at h
   cases hm : getM getC n t with
   | none => rw [hm] at h; cases h
   | some y =>
    obtain ⟨ys, r'⟩ := y
    rw [hm] at h
    injection h with h
    injection h with h1 h2
    subst h1 h2
    unfold getC at hc
    cases hp : getP l with
    | none => rw [hp] at hc; cases hc
    | some z =>
     obtain ⟨a, q, u⟩ := z
     rw [hp] at hc
     simp only at hc
     cases hw : getW 4 u with
     | none => rw [hw] at hc; cases hc
     | some v =>
      obtain ⟨v, u'⟩ := v
      rw [hw] at hc
      injection hc with hc
      injection hc with h1 h2
      subst h1 h2
      rw [pfx_some hp]
      dsimp only
      rw [rdN_some (by decide) (by decide) hw]
      dsimp only
      rw [rdK_some hm]
theorem rdK_none : ∀ {n : Nat} {l : List UInt8}, getM getC n l = none → ((rdK n false false l).2.1 || (rdK n false false l).2.2.1) = true
 | 0, l, h => by cases h
 | n + 1, l, h => by
  simp only [getM] at h
  unfold rdK
  rw [if_neg (by decide)]
  dsimp only
  cases hp : getP l with
  | none =>
   have e := pfx_none hp
   have e2 : ((rdN (pfxF false false l).2.1 (pfxF false false l).2.2.2 4).2.1 || (pfxF false false l).2.2.1) = true := by
    cases hb : (pfxF false false l).2.1 with
    | true => rw [rdN_bad]; rfl
    | false => rw [hb] at e; simp only [Bool.false_or] at e; rw [e]; simp
   rw [rdK_stop e2]
   exact e2
  | some z =>
   obtain ⟨a, q, u⟩ := z
   rw [pfx_some hp]
   dsimp only
   cases hw : getW 4 u with
   | none =>
    have e2 : ((rdN false u 4).2.1 || false) = true := by rw [rdN_none hw]; rfl
    rw [rdK_stop e2]
    exact e2
   | some v =>
    obtain ⟨v, u'⟩ := v
    rw [rdN_some (by decide) (by decide) hw]
    dsimp only
    have hc : getC l = some (⟨a, q, v⟩, u') := by
     unfold getC
     rw [hp]
     simp only
     rw [hw]
    rw [hc] at h
    simp only at h
    refine rdK_none ?_
    cases hm : getM getC n u' with
    | none => rfl
    | some y => rw [hm] at h; cases h
theorem rdC_some : ∀ {n : Nat} {l : List UInt8} {xs : List CarQ} {r : List UInt8}, getM getR n l = some (xs, r) → rdC n false false l = (xs, false, false, r)
 | 0, l, xs, r, h => by
  injection h with h
  injection h with h1 h2
  subst h1 h2
  rfl
 | n + 1, l, xs, r, h => by
  simp only [getM] at h
  unfold rdC
  rw [if_neg (by decide)]
  dsimp only
  cases hc : getR l with
  | none => rw [hc] at h; cases h
  | some x =>
   obtain ⟨x, t⟩ := x
   rw [hc] at h
   simp only at h
   cases hm : getM getR n t with
   | none => rw [hm] at h; cases h
   | some y =>
    obtain ⟨ys, r'⟩ := y
    rw [hm] at h
    injection h with h
    injection h with h1 h2
    subst h1 h2
    unfold getR at hc
    cases hw : getW 4 l with
    | none => rw [hw] at hc; cases hc
    | some z =>
     obtain ⟨i, u⟩ := z
     rw [hw] at hc
     simp only at hc
     cases hw2 : getW 4 u with
     | none => rw [hw2] at hc; cases hc
     | some z =>
      obtain ⟨c, v⟩ := z
      rw [hw2] at hc
      simp only at hc
      cases hw3 : getW 1 v with
      | none => rw [hw3] at hc; cases hc
      | some z =>
       obtain ⟨d, t'⟩ := z
       rw [hw3] at hc
       simp only at hc
       split at hc
       ·rename_i hd
        injection hc with hc
        injection hc with h1 h2
        subst h1 h2
        rw [rdN_some (by decide) (by decide) hw]
        dsimp only
        rw [rdN_some (by decide) (by decide) hw2]
        dsimp only
        rw [rdN_some (by decide) (by decide) hw3]
        dsimp only
        rw [decide_eq_false (by omega : ¬ d > 1)]
        simp only [Bool.or_false]
        rw [rdC_some hm]
       ·cases hc
theorem rdC_none : ∀ {n : Nat} {l : List UInt8}, getM getR n l = none → ((rdC n false false l).2.1 || (rdC n false false l).2.2.1) = true
 | 0, l, h => by cases h
 | n + 1, l, h => by
  simp only [getM] at h
  unfold rdC
  rw [if_neg (by decide)]
  dsimp only
  cases hw : getW 4 l with
  | none =>
   have e2 : ∀ x y z w, ((rdN (rdN (rdN false l 4).2.1 x y).2.1 z w).2.1) = true := fun x y z w => by rw [rdN_none hw]; rw [rdN_bad, rdN_bad]
   rw [e2]
   rw [rdC_stop (by simp)]
   simp
  | some z =>
   obtain ⟨i, u⟩ := z
   rw [rdN_some (by decide) (by decide) hw]
   dsimp only
   cases hw2 : getW 4 u with
   | none =>
    have e2 : ∀ x y, ((rdN (rdN false u 4).2.1 x y).2.1) = true := fun x y => by rw [rdN_none hw2, rdN_bad]
    rw [e2]
    rw [rdC_stop (by simp)]
    simp
   | some z =>
    obtain ⟨c, v⟩ := z
    rw [rdN_some (by decide) (by decide) hw2]
    dsimp only
    cases hw3 : getW 1 v with
    | none =>
     rw [rdN_none hw3]
     rw [rdC_stop (by simp)]
     simp
    | some z =>
     obtain ⟨d, t'⟩ := z
     rw [rdN_some (by decide) (by decide) hw3]
     dsimp only
     by_cases hd : d ≤ 1
     ·rw [decide_eq_false (by omega : ¬ d > 1)]
      simp only [Bool.or_false]
      have hc : getR l = some (⟨i, c, decide (d = 1)⟩, t') := by
       unfold getR
       rw [hw]
       simp only
       rw [hw2]
       simp only
       rw [hw3]
       simp only
       rw [if_pos hd]
      rw [hc] at h
      simp only at h
      refine rdC_none ?_
      cases hm : getM getR n t' with
      | none => rfl
      | some y => rw [hm] at h; cases h
     ·rw [decide_eq_true (by omega : d > 1)]
      rw [rdC_stop (by simp)]
      simp
theorem rdH_some {l : List UInt8} {s q n : Nat} {r : List UInt8} (h : getH l = some (s, q, n, r)) : rdH false l = (s, q, n, false, r) := by
 unfold getH at h
 unfold rdH
 dsimp only
 split at h
 ·cases h
 ·rename_i a t1 h1
  rw [rdN_some (by decide) (by decide) h1]
  split at h
  ·cases h
  ·rename_i b t2 h2
   dsimp only
   rw [rdN_some (by decide) (by decide) h2]
   split at h
   ·cases h
   ·rename_i c t3 h3
    dsimp only
    rw [rdN_some (by decide) (by decide) h3]
    injection h with h
    injection h with e1 h
    injection h with e2 h
    injection h with e3 e4
    subst e1 e2 e3 e4
    rfl
theorem rdH_none {l : List UInt8} (h : getH l = none) : (rdH false l).2.2.2.1 = true := by
 unfold getH at h
 unfold rdH
 dsimp only
 split at h
 ·rename_i h1
  have e2 : ∀ x y z w, ((rdN (rdN (rdN false l 1).2.1 x y).2.1 z w).2.1) = true := fun x y z w => by rw [rdN_none h1]; rw [rdN_bad, rdN_bad]
  exact e2 _ _ _ _
 ·rename_i a t1 h1
  rw [rdN_some (by decide) (by decide) h1]
  split at h
  ·rename_i h2
   dsimp only
   rw [rdN_none h2, rdN_bad]
  ·rename_i b t2 h2
   dsimp only
   rw [rdN_some (by decide) (by decide) h2]
   split at h
   ·rename_i h3
    dsimp only
    rw [rdN_none h3]
   ·cases h
theorem rdD_some {l : List UInt8} {d : DoQ} {r : List UInt8} (h : getD1 l = some (d, r)) : rdD false false l = (d, false, false, r) := by
 cases l with
 | nil => cases h
 | cons k t =>
  simp only [getD1, getT] at h
  unfold rdD
  dsimp only
  rw [rdN_one]
  dsimp only
  generalize k.toNat = k at h ⊢
  by_cases h8 : k = 8
  ·rw [if_pos h8] at h ⊢
   cases hh : getH t with
   | none => rw [hh] at h; cases h
   | some z =>
    obtain ⟨s, q, n, u⟩ := z
    rw [hh] at h
    simp only at h
    rw [rdH_some hh]
    dsimp only
    cases hm : getM getC n u with
    | none => rw [hm] at h; cases h
    | some y =>
     rw [hm] at h
     injection h with h
     injection h with h1 h2
     subst h1 h2
     rw [rdK_some hm]
  ·rw [if_neg h8] at h ⊢
   by_cases h9 : k = 9
   ·rw [if_pos h9] at h ⊢
    cases hh : getH t with
    | none => rw [hh] at h; cases h
    | some z =>
     obtain ⟨s, q, n, u⟩ := z
     rw [hh] at h
     simp only at h
     rw [rdH_some hh]
     dsimp only
     cases hm : getM getR n u with
     | none => rw [hm] at h; cases h
     | some y =>
      rw [hm] at h
      injection h with h
      injection h with h1 h2
      subst h1 h2
      rw [rdC_some hm]
   ·rw [if_neg h9] at h ⊢
    by_cases h6 : k ≤ 6
    ·rw [if_pos h6] at h ⊢
     cases hr : getW 1 t with
     | none => rw [hr] at h; cases h
     | some z =>
      obtain ⟨ro, u⟩ := z
      rw [hr] at h
      simp only at h
      rw [rdN_some (by decide) (by decide) hr]
      dsimp only
      by_cases h5 : k = 5
      ·rw [if_pos h5] at h ⊢
       cases hn : getW 2 u with
       | none => rw [hn] at h; cases h
       | some z =>
        obtain ⟨n, v⟩ := z
        rw [hn] at h
        simp only at h
        rw [rdN_some (by decide) (by decide) hn]
        dsimp only
        split at h
        ·rename_i hl
         injection h with h
         injection h with h1 h2
         subst h1 h2
         have e : rdB false v (n : Int) = (v.take n, false, v.drop n) := by
          unfold rdB
          rw [if_neg (by simp; omega)]
          simp
         rw [e]
        ·cases h
      ·rw [if_neg h5] at h ⊢
       by_cases h66 : k = 6
       ·rw [if_pos h66] at h ⊢
        cases hn : getW 4 u with
        | none => rw [hn] at h; cases h
        | some z =>
         rw [hn] at h
         injection h with h
         injection h with h1 h2
         subst h1 h2
         rw [rdN_some (by decide) (by decide) hn]
       ·rw [if_neg h66] at h ⊢
        injection h with h
        injection h with h1 h2
        subst h1 h2
        rfl
    ·rw [if_neg h6] at h ⊢
     injection h with h
     injection h with h1 h2
     subst h1 h2
     rfl
theorem rdD_none {l : List UInt8} (hne : l ≠ []) (h : getD1 l = none) : ((rdD false false l).2.1 || (rdD false false l).2.2.1) = true := by
 cases l with
 | nil => exact absurd rfl hne
 | cons k t =>
  simp only [getD1, getT] at h
  unfold rdD
  dsimp only
  rw [rdN_one]
  dsimp only
  generalize k.toNat = k at h ⊢
  by_cases h8 : k = 8
  ·rw [if_pos h8] at h ⊢
   cases hh : getH t with
   | none =>
    have e := rdH_none hh
    rw [e, rdK_stop rfl]
    rfl
   | some z =>
    obtain ⟨s, q, n, u⟩ := z
    rw [hh] at h
    simp only at h
    rw [rdH_some hh]
    dsimp only
    refine rdK_none ?_
    cases hm : getM getC n u with
    | none => rfl
    | some y => rw [hm] at h; cases h
  ·rw [if_neg h8] at h ⊢
   by_cases h9 : k = 9
   ·rw [if_pos h9] at h ⊢
    cases hh : getH t with
    | none =>
     have e := rdH_none hh
     rw [e, rdC_stop rfl]
     rfl
    | some z =>
     obtain ⟨s, q, n, u⟩ := z
     rw [hh] at h
     simp only at h
     rw [rdH_some hh]
     dsimp only
     refine rdC_none ?_
     cases hm : getM getR n u with
     | none => rfl
     | some y => rw [hm] at h; cases h
   ·rw [if_neg h9] at h ⊢
    by_cases h6 : k ≤ 6
    ·rw [if_pos h6] at h ⊢
     cases hr : getW 1 t with
     | none =>
      have e := rdN_none hr
      have eB : ∀ l n, (rdB true l n).2.1 = true := fun l n => by unfold rdB; simp
      by_cases h5 : k = 5
      ·rw [if_pos h5, e, rdN_bad, eB]
       rfl
      ·rw [if_neg h5]
       by_cases h66 : k = 6
       ·rw [if_pos h66, e, rdN_bad]
        rfl
       ·rw [if_neg h66, e]
        rfl
     | some z =>
      obtain ⟨ro, u⟩ := z
      rw [hr] at h
      simp only at h
      rw [rdN_some (by decide) (by decide) hr]
      dsimp only
      by_cases h5 : k = 5
      ·rw [if_pos h5] at h ⊢
       cases hn : getW 2 u with
       | none =>
        have eB : ∀ l n, (rdB true l n).2.1 = true := fun l n => by unfold rdB; simp
        rw [rdN_none hn, eB]
        rfl
       | some z =>
        obtain ⟨n, v⟩ := z
        rw [hn] at h
        simp only at h
        rw [rdN_some (by decide) (by decide) hn]
        dsimp only
        split at h
        ·cases h
        ·rename_i hl
         have e : (rdB false v (n : Int)).2.1 = true := by
          unfold rdB
          rw [if_pos (by right; right; omega)]
         rw [e]
         rfl
      ·rw [if_neg h5] at h ⊢
       by_cases h66 : k = 6
       ·rw [if_pos h66] at h ⊢
        cases hn : getW 4 u with
        | none =>
         rw [rdN_none hn]
         rfl
        | some z => rw [hn] at h; cases h
       ·rw [if_neg h66] at h
        cases h
    ·rw [if_neg h6] at h
     cases h
theorem rdS_stop {n : Nat} {bad wr : Bool} {l : List UInt8} (h : (bad || wr) = true) : rdS n bad wr l = ([], bad, wr, l) := by
 cases n with
 | zero => rfl
 | succ n => unfold rdS; rw [if_pos (by rw [h]; rfl)]
theorem rdS_some : ∀ (n : Nat) {l : List UInt8} {ds : List DoQ}, getA l = some ds → ds.length < n → rdS n false false l = (ds, false, false, [])
 | 0, l, ds, _, h => by omega
 | n + 1, [], ds, h, hn => by
  rw [getA_nil] at h
  injection h with h
  subst h
  rfl
 | n + 1, b :: l, ds, h, hn => by
  rw [getA_cons (by simp)] at h
  cases hd : getD (b :: l) with
  | none => rw [hd] at h; cases h
  | some x =>
   obtain ⟨d, r⟩ := x
   rw [hd] at h
   simp only at h
   cases ha : getA r with
   | none => rw [ha] at h; cases h
   | some xs =>
    rw [ha] at h
    injection h with h
    subst h
    have h1 : getD1 (b :: l) = some (d, r) := by
     unfold getD at hd
     split at hd
     ·cases hd
     ·rename_i h1
      split at hd
      ·rw [h1]; exact hd
      ·cases hd
    unfold rdS
    rw [if_neg (by simp), rdD_some h1]
    dsimp only
    rw [rdS_some n ha (by simpa using hn)]
theorem rdS_ok : ∀ (n : Nat) {l : List UInt8} {ds : List DoQ} {l' : List UInt8}, rdS n false false l = (ds, false, false, l') → ds.length < n → (∀ d ∈ ds, oneQ d = true) → getA l = some ds
 | 0, l, ds, _, _, h, _ => by omega
 | n + 1, [], ds, l', h, _, _ => by
  injection h with h
  subst h
  rfl
 | n + 1, b :: l, ds, l', h, hn, ho => by
  unfold rdS at h
  rw [if_neg (by simp)] at h
  dsimp only at h
  cases h1 : getD1 (b :: l) with
  | none =>
   have e := rdD_none (by simp) h1
   rw [rdS_stop e] at h
   injection h with _ h
   injection h with e1 h
   injection h with e2 h
   rw [e1, e2] at e
   cases e
  | some x =>
   obtain ⟨d, r⟩ := x
   rw [rdD_some h1] at h
   dsimp only at h
   injection h with e0 h
   subst e0
   have hd : getD (b :: l) = some (d, r) := by
    unfold getD
    rw [h1]
    simp only
    rw [if_pos (ho d List.mem_cons_self)]
   rw [getA_cons (by simp), hd]
   simp only
   rw [rdS_ok n (l := r) (ds := (rdS n false false r).1) (l' := l') (Prod.ext rfl h) (by simpa using hn) (fun d hd => ho d (List.mem_cons_of_mem _ hd))]
def decS (b : List UInt8) : Option (CfQ × List DoQ) := match decH b with
 | none => none
 | some (q, r) => if ((rdS 4097 false false r).2.1 || (rdS 4097 false false r).2.2.1) = true then none
  else if (decide ((rdS 4097 false false r).1.length ≤ 4096) && (rdS 4097 false false r).1.all oneQ) = true then some (q, (rdS 4097 false false r).1) else none
theorem decS_eq (b : List UInt8) : decS b = decM b := by
 unfold decS decM
 cases hd : decH b with
 | none => rfl
 | some x =>
  obtain ⟨q, r⟩ := x
  simp only
  cases ha : getA r with
  | none =>
   simp only
   split
   ·rfl
   ·rename_i h1
    split
    ·rename_i h2
     exfalso
     simp only [Bool.and_eq_true, decide_eq_true_eq, List.all_eq_true] at h2
     simp only [Bool.or_eq_true, not_or, Bool.not_eq_true] at h1
     have := rdS_ok 4097 (l := r) (ds := (rdS 4097 false false r).1) (l' := (rdS 4097 false false r).2.2.2) (Prod.ext rfl (Prod.ext h1.1 (Prod.ext h1.2 rfl))) (by omega) h2.2
     rw [ha] at this
     cases this
    ·rfl
  | some ds =>
   simp only
   by_cases hl : ds.length ≤ 4096
   ·rw [if_pos hl, rdS_some 4097 ha (by omega)]
    have ho := (getA_some _ r (Nat.le_refl _) ds ha).2
    have : ds.all oneQ = true := List.all_eq_true.2 fun d hd => (ho d hd).1
    simp [hl, this]
   ·rw [if_neg hl]
    split
    ·rfl
    ·rename_i h1
     split
     ·rename_i h2
      exfalso
      simp only [Bool.and_eq_true, decide_eq_true_eq, List.all_eq_true] at h2
      simp only [Bool.or_eq_true, not_or, Bool.not_eq_true] at h1
      have := rdS_ok 4097 (l := r) (ds := (rdS 4097 false false r).1) (l' := (rdS 4097 false false r).2.2.2) (Prod.ext rfl (Prod.ext h1.1 (Prod.ext h1.2 rfl))) (by omega) h2.2
      rw [ha] at this
      injection this with this
      rw [this] at hl
      omega
     ·rfl
end Go.Proofs.YtbhiojedmkcfoaaGreatDoor
