/- Part of a proof of many texts: what the theorem at its end leans on. -/
import Derived.Test.YtbhiojedmkcfoaaGreatDoorZScW
namespace Go.Proofs.YtbhiojedmkcfoaaGreatDoor
set_option linter.unusedVariables false
set_option linter.unusedSimpArgs false
open Go.RowKit
attribute [local irreducible] HC HX HO Tri eP adr
theorem SYScY {p q : Prop} (hq : q) (h : q → p := by intro hq; refine HO_k 3 rfl ?_; exact HO_lastG (by decide +kernel) rfl rfl (by decide +kernel) (by decide +kernel) rfl hq) : p := h hq
theorem ge_rdN (bad : Bool) (l : List UInt8) (w : Nat) (hw : w ≤ 4) : ge (rdB bad l w).1 = (rdN bad l w).1 := by
 have h := (rdB_len bad l w).1
 unfold rdN ngetR
 dsimp only
 split
 ·rename_i hc
  have : (rdB bad l w).1 = [] := List.eq_nil_of_length_eq_zero (by simp at h; omega)
  rw [this]
  rfl
 ·simp
theorem rnumQ_t (b : Nat) (x : OA) (bad : Bool) (l : List UInt8) (w : Nat) (hw : 1 ≤ w ∧ w ≤ 4) (hb : l.length ≤ 1000000000) (hc : l.length ≤ x.2) :
  Tri Tryz.prog 126 [pt b, .int .i64 w] [] (rqP b x.1 x.2 bad l) (fun x : OA => (rdN bad l w).2.2.length ≤ x.2) (fun _ => .int .i64 (rdN bad l w).1)
   (fun x => rqP b x.1 x.2 (rdN bad l w).2.1 (rdN bad l w).2.2) := by
 have h := rnum_t b x.1 x.2 bad l w (by omega) hb hc
 rw [ge_rdN bad l w hw.2] at h
 exact h
theorem getP_ref (l : List UInt8) : (pfG l = none → getP l = none) ∧ (∀ a q, pfG l = some (a, q) → (rdB false l ((1 + (q + 7) / 8 : Nat) : Int)).2.1 = false ∧
  getP l = if (rdB false l ((1 + (q + 7) / 8 : Nat) : Int)).1 = pfB a q then some (a, q, (rdB false l ((1 + (q + 7) / 8 : Nat) : Int)).2.2) else none) := by
 cases l with
 | nil => exact ⟨fun _ => rfl, fun a q h => by cases h⟩
 | cons c r =>
  have e1 : pfG (c :: r.take ((c.toNat + 7) / 8)) = if c.toNat ≤ 32 ∧ (c.toNat + 7) / 8 ≤ r.length then some (topN (adG (r.take ((c.toNat + 7) / 8))) c.toNat, c.toNat) else none := by
   simp only [pfG, List.length_take, List.take_take, Nat.min_self]
   by_cases h : (c.toNat + 7) / 8 ≤ r.length
   ·rw [Nat.min_eq_left h]; simp [h]
   ·rw [if_neg (by omega), if_neg (by omega)]
  constructor
  ·intro h
   simp only [pfG] at h
   split at h
   ·cases h
   ·rename_i hc
    simp only [getP]
    split
    ·rw [e1, if_neg hc]
    ·rfl
  ·intro a q h
   simp only [pfG] at h
   split at h
   ·rename_i hc
    injection h with h
    injection h with h1 h2
    subst h1 h2
    have e : rdB false (c :: r) ((1 + (c.toNat + 7) / 8 : Nat) : Int) = (c :: r.take ((c.toNat + 7) / 8), false, r.drop ((c.toNat + 7) / 8)) := by
     unfold rdB
     rw [if_neg (by simp; omega)]
     have : ((1 + (c.toNat + 7) / 8 : Nat) : Int).toNat = (c.toNat + 7) / 8 + 1 := by omega
     rw [this]
     rfl
    rw [e]
    refine ⟨rfl, ?_⟩
    simp only [getP]
    rw [if_pos hc.2, e1, if_pos hc]
    simp only
    by_cases hp : pfB (topN (adG (r.take ((c.toNat + 7) / 8))) c.toNat) c.toNat = c :: r.take ((c.toNat + 7) / 8)
    ·rw [if_pos hp, if_pos hp.symm]
    ·rw [if_neg hp, if_neg (fun x => hp x.symm)]
   ·cases h
def getV (g : Option (DoQ × List UInt8)) (e : DoS) (z : OA × OA × OA) : List Value := match g with
 | some (d, _) => (mkDo d z).e
 | none => e.e
def getPs (b : Nat) (g : Option (DoQ × List UInt8)) (y : OA) (z : OA × OA × OA) : List SL := match g with
 | some (d, r) => rqP b y.1 y.2 false r ++ (mkDo d z).ro
 | none => []
def getF (g : Option (DoQ × List UInt8)) (y : OA) : Prop := match g with
 | some (_, r) => r.length ≤ y.2
 | none => True
abbrev GetX := DoS × OA × OA × OA × OA
def dz : DoS := mkDo do0 ((none, 0), (none, 0), (none, 0))
theorem getD_bad {l : List UInt8} (h : getD1 l = none) : getD l = none := by unfold getD; rw [h]
theorem getD_yes {l r : List UInt8} {d : DoQ} (h : getD1 l = some (d, r)) (ho : oneQ d = true) : getD l = some (d, r) := by unfold getD; rw [h]; simp only; rw [if_pos ho]
theorem getD_not {l r : List UInt8} {d : DoQ} (h : getD1 l = some (d, r)) (ho : oneQ d = false) : getD l = none := by unfold getD; rw [h]; simp only; rw [if_neg (by rw [ho]; decide)]
def accM {α β : Type} (f : List α → β) (acc : List α) (g : Option (List α × List UInt8)) : Option (β × List UInt8) := match g with
 | some (xs, r) => some (f (acc ++ xs), r)
 | none => none
def mk8 (s q : Nat) (cl : List CntQ) : DoQ := { do0 with k := 8, cs := s, cq := q, cl := cl }
def mk9 (s q : Nat) (rl : List CarQ) : DoQ := { do0 with k := 9, rs := s, rq := q, rl := rl }
theorem getT8 {t l2 : List UInt8} {s q m : Nat} {bad2 : Bool} (h : rdH false t = (s, q, m, bad2, l2)) : (bad2 = true → getT 8 t = none) ∧ (bad2 = false → getT 8 t = accM (mk8 s q) [] (getM getC m l2)) := by
 unfold getT
 rw [if_pos rfl]
 cases hh : getH t with
 | none =>
  have := rdH_none hh
  rw [h] at this
  simp only at this
  subst this
  exact ⟨fun _ => rfl, fun h => (by cases h)⟩
 | some z =>
  obtain ⟨s', q', n', u⟩ := z
  have := rdH_some hh
  rw [h] at this
  injection this with e1 this
  injection this with e2 this
  injection this with e3 this
  injection this with e4 e5
  subst e1 e2 e3 e4 e5
  refine ⟨fun h => (by cases h), fun _ => ?_⟩
  simp only
  cases getM getC m l2 with
  | none => rfl
  | some y => rfl
theorem getT9 {t l2 : List UInt8} {s q m : Nat} {bad2 : Bool} (h : rdH false t = (s, q, m, bad2, l2)) : (bad2 = true → getT 9 t = none) ∧ (bad2 = false → getT 9 t = accM (mk9 s q) [] (getM getR m l2)) := by
 unfold getT
 rw [if_neg (by decide), if_pos rfl]
 cases hh : getH t with
 | none =>
  have := rdH_none hh
  rw [h] at this
  simp only at this
  subst this
  exact ⟨fun _ => rfl, fun h => (by cases h)⟩
 | some z =>
  obtain ⟨s', q', n', u⟩ := z
  have := rdH_some hh
  rw [h] at this
  injection this with e1 this
  injection this with e2 this
  injection this with e3 this
  injection this with e4 e5
  subst e1 e2 e3 e4 e5
  refine ⟨fun h => (by cases h), fun _ => ?_⟩
  simp only
  cases getM getR m l2 with
  | none => rfl
  | some y => rfl
theorem accM_none {α β : Type} {f : List α → β} {acc : List α} {g : List UInt8 → Option (α × List UInt8)} {n : Nat} {l : List UInt8} (h : g l = none) : accM f acc (getM g (n + 1) l) = none := by
 simp only [getM]
 rw [h]
 rfl
theorem accM_some {α β : Type} {f : List α → β} {acc : List α} {g : List UInt8 → Option (α × List UInt8)} {n : Nat} {l r : List UInt8} {x : α} (h : g l = some (x, r)) : accM f acc (getM g (n + 1) l) = accM f (acc ++ [x]) (getM g n r) := by
 simp only [getM]
 rw [h]
 simp only
 cases getM g n r with
 | none => rfl
 | some y =>
  simp only [accM]
  rw [List.append_assoc]
  rfl
theorem getR_rd {l l4 l5 l6 : List UInt8} {v1 v2 v3 : Nat} {b4 b5 b6 : Bool} (h1 : rdN false l 4 = (v1, b4, l4)) (h2 : rdN b4 l4 4 = (v2, b5, l5)) (h3 : rdN b5 l5 1 = (v3, b6, l6)) :
  (v3 > 1 → getR l = none) ∧ (b6 = true → getR l = none) ∧ (b6 = false → v3 ≤ 1 → getR l = some (⟨v1, v2, decide (v3 = 1)⟩, l6)) := by
 unfold getR
 cases hw : getW 4 l with
 | none =>
  have := rdN_none hw
  rw [h1] at this
  simp only at this
  subst this
  have e2 := rdN_bad l4 4
  rw [h2] at e2
  simp only at e2
  subst e2
  have e3 := rdN_bad l5 1
  rw [h3] at e3
  simp only at e3
  subst e3
  exact ⟨fun _ => rfl, fun _ => rfl, fun h => (by cases h)⟩
 | some z =>
  obtain ⟨i, u⟩ := z
  have := rdN_some (by decide) (by decide) hw
  rw [h1] at this
  injection this with e1 this
  injection this with e2 e3
  subst e1 e2 e3
  simp only
  cases hw2 : getW 4 l4 with
  | none =>
   have := rdN_none hw2
   rw [h2] at this
   simp only at this
   subst this
   have e3 := rdN_bad l5 1
   rw [h3] at e3
   simp only at e3
   subst e3
   exact ⟨fun _ => rfl, fun _ => rfl, fun h => (by cases h)⟩
  | some z =>
   obtain ⟨c, u⟩ := z
   have := rdN_some (by decide) (by decide) hw2
   rw [h2] at this
   injection this with e1 this
   injection this with e2 e3
   subst e1 e2 e3
   simp only
   cases hw3 : getW 1 l5 with
   | none =>
    have := rdN_none hw3
    rw [h3] at this
    simp only at this
    subst this
    exact ⟨fun _ => rfl, fun _ => rfl, fun h => (by cases h)⟩
   | some z =>
    obtain ⟨d, u⟩ := z
    have := rdN_some (by decide) (by decide) hw3
    rw [h3] at this
    injection this with e1 this
    injection this with e2 e3
    subst e1 e2 e3
    simp only
    refine ⟨fun h => (by rw [if_neg (by omega)]), fun h => (by cases h), fun _ h => (by rw [if_pos h])⟩
theorem getC_rd {l r l5 : List UInt8} {a q v : Nat} {b5 : Bool} (hp : getP l = some (a, q, r)) (h2 : rdN false r 4 = (v, b5, l5)) :
  (b5 = true → getC l = none) ∧ (b5 = false → getC l = some (⟨a, q, v⟩, l5)) := by
 unfold getC
 rw [hp]
 simp only
 cases hw : getW 4 r with
 | none =>
  have := rdN_none hw
  rw [h2] at this
  simp only at this
  subst this
  exact ⟨fun _ => rfl, fun h => (by cases h)⟩
 | some z =>
  obtain ⟨i, u⟩ := z
  have := rdN_some (by decide) (by decide) hw
  rw [h2] at this
  injection this with e1 this
  injection this with e2 e3
  subst e1 e2 e3
  exact ⟨fun h => (by cases h), fun _ => rfl⟩
theorem getC_no {l : List UInt8} (h : getP l = none) : getC l = none := by unfold getC; rw [h]
theorem W8 {s q : Nat} {cl : List CntQ} (hs : s < 256) (hq : q < 4294967296) (hl : cl.length ≤ 255) (ha : ∀ c ∈ cl, c.a < 4294967296) : DoW (mk8 s q cl) := by
 have z0 : i64R (0 : Int) := by unfold i64R; omega
 refine ⟨⟨by simp [mk8, do0], by simp only [mk8]; omega, by simp [mk8, do0]⟩, ⟨?_, ?_, z0, z0⟩, ha⟩
 ·unfold i64R; simp only [mk8]; omega
 ·unfold i64R; simp only [mk8]; omega
theorem W9 {s q : Nat} {rl : List CarQ} (hs : s < 256) (hq : q < 4294967296) (hl : rl.length ≤ 255) : DoW (mk9 s q rl) := by
 have z0 : i64R (0 : Int) := by unfold i64R; omega
 refine ⟨⟨by simp [mk9, do0], by simp [mk9, do0], by simp only [mk9]; omega⟩, ⟨z0, z0, ?_, ?_⟩, fun c hc => by cases hc⟩
 ·unfold i64R; simp only [mk9]; omega
 ·unfold i64R; simp only [mk9]; omega
theorem rdD_iff {l r : List UInt8} {d : DoQ} {bad : Bool} (hne : l ≠ []) (h : rdD false false l = (d, bad, false, r)) : (bad = false → getD1 l = some (d, r)) ∧ (bad = true → getD1 l = none) := by
 cases hg : getD1 l with
 | none =>
  have := rdD_none hne hg
  rw [h] at this
  simp only [Bool.or_false] at this
  subst this
  exact ⟨fun h => (by cases h), fun _ => rfl⟩
 | some x =>
  obtain ⟨d', r'⟩ := x
  have := rdD_some hg
  rw [h] at this
  injection this with e1 this
  injection this with e2 this
  injection this with e3 e4
  subst e1 e2 e4
  exact ⟨fun _ => rfl, fun h => (by cases h)⟩
theorem W7 (k r n : Int) (dt : List UInt8) (h : dt.length ≤ 1000000) : DoW { do0 with k := k, r := r, n := n, data := dt } := by
 have z0 : i64R (0 : Int) := by unfold i64R; omega
 exact ⟨⟨h, by simp [do0], by simp [do0]⟩, ⟨z0, z0, z0, z0⟩, fun c hc => (by cases hc)⟩
set_option maxHeartbeats 1000000000 in
theorem rget27_t (b : Nat) (x : OA) (c0 : UInt8) (t : List UInt8) (hb : (c0 :: t).length ≤ 1000000000) (hc : (c0 :: t).length ≤ x.2) :
  Tri Tryz.prog 128 [pt b] [] (rqP b x.1 x.2 false (c0 :: t)) (fun y : GetX => getF (getD (c0 :: t)) y.2.1)
   (fun y => .tuple #[.agg (getV (getD (c0 :: t)) y.1 y.2.2).toArray, .bool (getD (c0 :: t)).isSome]) (fun y => getPs b (getD (c0 :: t)) y.2.1 y.2.2) := by
 have n1 := rnumQ_t b x false (c0 :: t) 1 (by decide) hb hc
 have hk := rdN_one c0 t
 have hlt : c0.toNat < 256 := c0.toNat_lt
 have hG : getD1 (c0 :: t) = getT c0.toNat t := rfl
 rw [hk] at n1
 dsimp only at n1
 have hbt : t.length ≤ 1000000000 := by simp only [List.length_cons] at hb; omega
 obtain ⟨k, hkk⟩ : ∃ k, c0.toNat = k := ⟨_, rfl⟩
 rw [hkk] at n1 hG hlt
 have rD : getD (c0 :: t) = match getD1 (c0 :: t) with
  | none => none
  | some (d, r) => if oneQ d = true then some (d, r) else none := rfl
 have hrd : rdD false false (c0 :: t) = rdD false false (c0 :: t) := rfl
 conv at hrd =>
  rhs
  unfold rdD
 rw [hk] at hrd
 dsimp only at hrd
 rw [hkk] at hrd
 by_cases h8 : k = 8
 ·subst h8
  have n2 := fun x hx => rnumQ_t b x false t 1 (by decide) hbt hx
  have hH := rdH_W false t
  obtain ⟨⟨s, q, m, bad2, l2⟩, hr2⟩ : ∃ r, rdH false t = r := ⟨_, rfl⟩
  have hT := getT8 hr2
  rw [hr2] at hH
  dsimp only at hH
  unfold rdH at hr2
  dsimp only at hr2
  have j1 := rdN_lt false t 1 (by decide)
  obtain ⟨⟨v1, bq1, lq1⟩, hq1⟩ : ∃ r, rdN false t 1 = r := ⟨_, rfl⟩
  rw [hq1] at hr2 n2 j1
  dsimp only at hr2 n2 j1
  have n3 := fun x hx => rnumQ_t b x bq1 lq1 4 (by decide) (by omega) hx
  have j2 := rdN_lt bq1 lq1 4 (by decide)
  obtain ⟨⟨v2, bq2, lq2⟩, hq2⟩ : ∃ r, rdN bq1 lq1 4 = r := ⟨_, rfl⟩
  rw [hq2] at hr2 n3 j2
  dsimp only at hr2 n3 j2
  have n4 := fun x hx => rnumQ_t b x bq2 lq2 1 (by decide) (by omega) hx
  obtain ⟨⟨v3, bq3, lq3⟩, hq3⟩ : ∃ r, rdN bq2 lq2 1 = r := ⟨_, rfl⟩
  rw [hq3] at hr2 n4
  dsimp only at hr2 n4
  injection hr2 with e1 hr2
  injection hr2 with e2 hr2
  injection hr2 with e3 hr2
  injection hr2 with e4 e5
  subst e1 e2 e3 e4 e5
  clear hq1 hq2 hq3
  dsimp only [rqP] at n1 n2 n3 n4 ⊢
  refine Tri_of (N := Tryz.f128.ntmps) (c := bodyOf Tryz.f128) Tryz.func128 rfl rfl rfl rfl (fun w0 S0 => ?_)
  repeat' (first | refine SW ?_ | refine SD ?_ | (refine HO_k 12 rfl ?_; refine HO_mv 2 rfl rfl ?_; refine HO_mv 2 rfl rfl ?_; refine HO_call rfl rfl rfl rfl (n1) rfl (trivial) rfl rfl soA ?_; intro x1 hx1; dsimp only [lca, lna]) | (refine HO_k 12 rfl ?_; refine HO_mv 2 rfl rfl ?_; refine HO_mv 2 rfl rfl ?_; refine HO_call rfl rfl rfl rfl (n2 _ hx1) rfl (trivial) rfl rfl soA ?_; intro x2 hx2; dsimp only [lca, lna]) | (refine HO_k 12 rfl ?_; refine HO_call rfl rfl rfl rfl (n3 _ hx2) rfl (trivial) rfl rfl soA ?_; intro x3 hx3; dsimp only [lca, lna]) | (refine HO_k 12 rfl ?_; refine HO_call rfl rfl rfl rfl (n4 _ hx3) rfl (trivial) rfl rfl soA ?_; intro x4 hx4; dsimp only [lca, lna]) | exact HO_seg rfl rfl | refine S1 ?_ | (refine S2 ?_; intro _) | (refine S3 ?_; intro _ _) | (refine S4 ?_; intro _ _ _) | (refine HO_g 2 rfl ?_; first | apply HO_a1 rfl | apply HO_o1 rfl) | refine SYScY ?_ | refine S5 ?_ | (intro hb; try replace hb := simB hb; try exact kill hb))
  rename_i b2 b4
  clear n1 n2 n3 n4
  have j3 := hH.2.2.1
  refine HC_keeps (rw' := own idE 259 3 none 0 0 [] :: (rqP b x4.1 x4.2 bq3 lq3 ++ [cel b4 TDo (mkDo (mk8 v1 v2 []) ((none, 0), (none, 0), (none, 0))).e, cel b2 TDo (mkDo do0 ((none, 0), (none, 0), (none, 0))).e])) (Keeps.add (fun w => own_nil w) permA) ?_
  refine HC_keeps (rw' := rqP b x4.1 x4.2 bq3 lq3 ++ [cel b4 TDo (mkDo (mk8 v1 v2 []) ((none, 0), (none, 0), (none, 0))).e, own idE 259 3 none 0 0 [], cel b2 TDo (mkDo do0 ((none, 0), (none, 0), (none, 0))).e]) permA ?_
  refine HC_loop (α := Nat × Bool × List UInt8 × List CntQ × OA × OA) (fun y => (y.2.1 = true → getT 8 t = none) ∧ (y.2.1 = false → getT 8 t = accM (mk8 v1 v2) y.2.2.2.1 (getM getC (v3 - y.1) y.2.2.1)) ∧ y.2.2.1.length ≤ 1000000000 ∧ y.2.2.1.length ≤ y.2.2.2.2.1.2 ∧ y.1 ≤ v3 ∧ y.2.2.2.1.length = y.1 ∧ ∀ c ∈ y.2.2.2.1, c.a < 4294967296)
   (fun y => [(6, .int .i64 y.1), (5, .int .i64 v3), (4, pt b4), (2, pt b2), (0, pt b)])
   (fun y => rqP b y.2.2.2.2.1.1 y.2.2.2.2.1.2 y.2.1 y.2.2.1 ++ [cel b4 TDo (mkDo (mk8 v1 v2 y.2.2.2.1) ((none, 0), y.2.2.2.2.2, (none, 0))).e, own idE 259 3 y.2.2.2.2.2.1 y.2.2.2.1.length y.2.2.2.2.2.2 (y.2.2.2.1.map CntQ.e), cel b2 TDo (mkDo do0 ((none, 0), (none, 0), (none, 0))).e])
   (fun y => v3 - y.1) rfl (0, bq3, lq3, [], x4, (none, 0)) ⟨hT.1, hT.2, by dsimp only; omega, hx4, Nat.zero_le _, rfl, fun c hc => (by cases hc)⟩ ⟨rfl, rfl, rfl, rfl, rfl, trivial⟩ rfl ?_
  rintro ⟨j, bd, l', acc, xo, ao⟩ hinv
  obtain ⟨i1, i2, i3, i4, i5, i6, i7⟩ := hinv
  dsimp only at i1 i2 i3 i4 i5 i6 i7
  clear hT
  by_cases hex : bd = true ∨ j = v3
  ·cases bd with
   | true =>
    rw [getD_bad (hG.trans (i1 rfl))]
    dsimp only [rqP, mkDo, mk8, DoS.e, lca, lna]
    rcases Nat.lt_or_ge j v3 with hjv | hjv
    ·repeat' (first | refine SW ?_ | ((refine HO_g 2 rfl ?_); (refine HO_skip rfl rfl rfl rfl rdA ?_)) | refine SD ?_ | exact HO_seg rfl rfl | refine S1 ?_ | (refine S2 ?_; intro _) | (refine S3 ?_; intro _ _) | (refine S4 ?_; intro _ _ _) | (refine HO_g 2 rfl ?_; first | apply HO_a1 rfl | apply HO_o1 rfl) | refine SYScY ?_ | refine S5 ?_ | (intro hb; try replace hb := simB hb; try exact kill hb))
     (refine SR ?_; unfold RetQ; refine ⟨(mkDo (mk8 v1 v2 acc) ((none, 0), ao, (none, 0)), (none, 0), (none, 0), (none, 0), (none, 0)), trivial, rfl, Keeps.nil⟩)
    ·repeat' (first | refine SW ?_ | ((refine HO_g 2 rfl ?_); (refine HO_skip rfl rfl rfl rfl rdA ?_)) | refine SD ?_ | exact HO_seg rfl rfl | refine S1 ?_ | (refine S2 ?_; intro _) | (refine S3 ?_; intro _ _) | (refine S4 ?_; intro _ _ _) | (refine HO_g 2 rfl ?_; first | apply HO_a1 rfl | apply HO_o1 rfl) | refine SYScY ?_ | refine S5 ?_ | (intro hb; try replace hb := simB hb; try exact kill hb))
     (refine SR ?_; unfold RetQ; refine ⟨(mkDo (mk8 v1 v2 acc) ((none, 0), ao, (none, 0)), (none, 0), (none, 0), (none, 0), (none, 0)), trivial, rfl, Keeps.nil⟩)
   | false =>
    obtain rfl : j = v3 := by simpa using hex
    have hE := i2 rfl
    rw [Nat.sub_self] at hE
    have hE1 : getD1 (c0 :: t) = some (mk8 v1 v2 acc, l') := by
     rw [hG, hE]
     show some (mk8 v1 v2 (acc ++ []), l') = _
     rw [List.append_nil]
    have hW : DoW (mk8 v1 v2 acc) := W8 hH.1 hH.2.1 (by omega) i7
    have g1 := rone_t (mkDo (mk8 v1 v2 acc) ((none, 0), ao, (none, 0))) hW.1 hW.2.2
    dsimp only [rqP, mkDo, mk8, DoS.e, DoS.ro, lca, lna] at g1 ⊢
    cases ho : oneQ (mk8 v1 v2 acc) with
    | true =>
     rw [getD_yes hE1 ho]
     change Tri _ _ _ _ _ _ (fun _ => Value.bool (oneQ (mk8 v1 v2 acc))) _ at g1
     rw [ho] at g1
     repeat' (first | refine SW ?_ | ((refine HO_g 2 rfl ?_); (refine HO_skip rfl rfl rfl rfl rdA ?_)) | refine SD ?_ | (refine HO_k 12 rfl ?_; refine HO_callq rfl rfl rfl rfl (g1) (fun _ _ => rfl) ((AllSrc.free (fun w => arr_nil _ w) (AllSrc.own 3 rfl rfl (AllSrc.free (fun w => arr_nil _ w) trivial)))) rfl rfl sqA ?_) | exact HO_seg rfl rfl | refine S1 ?_ | (refine S2 ?_; intro _) | (refine S3 ?_; intro _ _) | (refine S4 ?_; intro _ _ _) | (refine HO_g 2 rfl ?_; first | apply HO_a1 rfl | apply HO_o1 rfl) | refine SYScY ?_ | refine S5 ?_ | (intro hb; try replace hb := simB hb; try exact kill hb))
     (refine SR ?_; unfold RetQ; refine ⟨(dz, xo, (none, 0), ao, (none, 0)), i4, rfl, Keeps.cmp (show Keeps _ (rqP b xo.1 xo.2 false l' ++ [own idE 259 3 ao.1 acc.length ao.2 (acc.map CntQ.e)]) from permA) (Keeps.pick 0 rfl rfl (Keeps.pick 0 rfl rfl (Keeps.add (fun w => arr_nil _ w) (Keeps.pickE 0 rfl rfl own_e (Keeps.add (fun w => arr_nil _ w) Keeps.nil)))))⟩)
    | false =>
     rw [getD_not hE1 ho]
     change Tri _ _ _ _ _ _ (fun _ => Value.bool (oneQ (mk8 v1 v2 acc))) _ at g1
     rw [ho] at g1
     repeat' (first | refine SW ?_ | ((refine HO_g 2 rfl ?_); (refine HO_skip rfl rfl rfl rfl rdA ?_)) | refine SD ?_ | (refine HO_k 12 rfl ?_; refine HO_callq rfl rfl rfl rfl (g1) (fun _ _ => rfl) ((AllSrc.free (fun w => arr_nil _ w) (AllSrc.own 3 rfl rfl (AllSrc.free (fun w => arr_nil _ w) trivial)))) rfl rfl sqA ?_) | exact HO_seg rfl rfl | refine S1 ?_ | (refine S2 ?_; intro _) | (refine S3 ?_; intro _ _) | (refine S4 ?_; intro _ _ _) | (refine HO_g 2 rfl ?_; first | apply HO_a1 rfl | apply HO_o1 rfl) | refine SYScY ?_ | refine S5 ?_ | (intro hb; try replace hb := simB hb; try exact kill hb))
     (refine SR ?_; unfold RetQ; refine ⟨(mkDo (mk8 v1 v2 acc) ((none, 0), ao, (none, 0)), (none, 0), (none, 0), (none, 0), (none, 0)), trivial, rfl, Keeps.nil⟩)
  ·obtain ⟨hbd, hjn⟩ : bd = false ∧ j ≠ v3 := by simpa using hex
   subst hbd
   obtain ⟨k', hk'⟩ : ∃ k', v3 - j = k' + 1 := ⟨v3 - j - 1, by omega⟩
   have hE := i2 rfl
   rw [hk'] at hE
   have hp := getP_ref l'
   have g0 := rpget_t xo.1 xo.2 l' i3 i4
   have hjv : j < v3 := by omega
   dsimp only [rqP, mkDo, mk8, DoS.e, lca, lna]
   cases hg : pfG l' with
   | none =>
    rw [hg] at g0
    rw [accM_none (getC_no (hp.1 hg))] at hE
    rw [getD_bad (hG.trans hE)]
    dsimp only [pgV, pfV] at g0
    repeat' (first | refine SW ?_ | ((refine HO_g 2 rfl ?_); (refine HO_skip rfl rfl rfl rfl rdA ?_)) | refine SD ?_ | (refine HO_k 12 rfl ?_; refine HO_callq rfl rfl rfl rfl (g0) (fun _ _ => rfl) (srcsA) rfl rfl sqA ?_) | exact HO_seg rfl rfl | refine S1 ?_ | (refine S2 ?_; intro _) | (refine S3 ?_; intro _ _) | (refine S4 ?_; intro _ _ _) | (refine HO_g 2 rfl ?_; first | apply HO_a1 rfl | apply HO_o1 rfl) | refine SYScY ?_ | refine S5 ?_ | (intro hb; try replace hb := simB hb; try exact kill hb))
    (refine SR ?_; unfold RetQ; refine ⟨(mkDo (mk8 v1 v2 acc) ((none, 0), ao, (none, 0)), (none, 0), (none, 0), (none, 0), (none, 0)), trivial, rfl, Keeps.nil⟩)
   | some aq =>
    obtain ⟨a, q'⟩ := aq
    rw [hg] at g0
    obtain ⟨ha, hok⟩ := pfG_ok hg
    have hq32 := (okX_top hok).2
    obtain ⟨hp1, hp2⟩ := hp.2 a q' hg
    have g2 := rpput_t a ha q' hq32
    have g3 := rbytes_t b xo.1 xo.2 false l' ((1 + (q' + 7) / 8 : Nat) : Int) i3 i4
    have k3 := rdB_len false l' ((1 + (q' + 7) / 8 : Nat) : Int)
    obtain ⟨⟨out, bad', l4⟩, hr4⟩ : ∃ r, rdB false l' ((1 + (q' + 7) / 8 : Nat) : Int) = r := ⟨_, rfl⟩
    rw [hr4] at hp1 hp2 g3 k3
    dsimp only at hp1 hp2 g3 k3
    subst hp1
    dsimp only [pgV, pfV, rqP] at g0 g2 g3
    by_cases he : out = pfB a q'
    ·rw [if_pos he] at hp2
     subst he
     have n5 := fun x hx => rnumQ_t b x false l4 4 (by decide) (by omega) hx
     obtain ⟨⟨v, bd5, l5⟩, hr5⟩ : ∃ r, rdN false l4 4 = r := ⟨_, rfl⟩
     have hC := getC_rd hp2 hr5
     have k5 := rdN_lt false l4 4 (by decide)
     rw [hr5] at n5 k5
     dsimp only [rqP] at n5 k5
     have hac : acc.length ≤ 255 := by omega
     have hstr : (!(ByteArray.toList ⟨(pfB a q').toArray⟩ == ByteArray.toList ⟨(pfB a q').toArray⟩)) = false := by rw [ba_eq]; simp
     repeat' (first | refine SW ?_ | (with_reducible refine HO_rw (congrArg Value.bool hstr) ?_) | (refine HC_lex rfl rfl (by decide +kernel) rfl rfl ?_) | ((refine HO_g 2 rfl ?_); (refine HO_skip rfl rfl rfl rfl rdA ?_)) | refine SD ?_ | (refine HO_k 12 rfl ?_; refine HO_callq rfl rfl rfl rfl (g0) (fun _ _ => rfl) (srcsA) rfl rfl sqA ?_) | (refine HO_k 12 rfl ?_; refine HO_call rfl rfl rfl rfl (g2) rfl (trivial) rfl rfl soA ?_; intro z1 hz1; dsimp only [lca, lna]) | (refine HO_k 7 rfl ?_; (first | (refine HO_holdA 0 rfl rfl ?_; refine HO_b2sr (l := pfB a q') 0 rfl rfl rfl rfl rfl rfl rfl rdA ?_) | (refine HO_holdA 1 rfl rfl ?_; refine HO_b2sr (l := pfB a q') 0 rfl rfl rfl rfl rfl rfl rfl rdA ?_) | (refine HO_holdA 2 rfl rfl ?_; refine HO_b2sr (l := pfB a q') 0 rfl rfl rfl rfl rfl rfl rfl rdA ?_) | (refine HO_holdA 3 rfl rfl ?_; refine HO_b2sr (l := pfB a q') 0 rfl rfl rfl rfl rfl rfl rfl rdA ?_) | (refine HO_holdA 4 rfl rfl ?_; refine HO_b2sr (l := pfB a q') 0 rfl rfl rfl rfl rfl rfl rfl rdA ?_) | (refine HO_holdA 5 rfl rfl ?_; refine HO_b2sr (l := pfB a q') 0 rfl rfl rfl rfl rfl rfl rfl rdA ?_) | (refine HO_holdA 6 rfl rfl ?_; refine HO_b2sr (l := pfB a q') 0 rfl rfl rfl rfl rfl rfl rfl rdA ?_) | (refine HO_holdA 7 rfl rfl ?_; refine HO_b2sr (l := pfB a q') 0 rfl rfl rfl rfl rfl rfl rfl rdA ?_) | (refine HO_holdA 8 rfl rfl ?_; refine HO_b2sr (l := pfB a q') 0 rfl rfl rfl rfl rfl rfl rfl rdA ?_) | (refine HO_holdA 9 rfl rfl ?_; refine HO_b2sr (l := pfB a q') 0 rfl rfl rfl rfl rfl rfl rfl rdA ?_) | (refine HO_holdA 10 rfl rfl ?_; refine HO_b2sr (l := pfB a q') 0 rfl rfl rfl rfl rfl rfl rfl rdA ?_) | (refine HO_holdA 11 rfl rfl ?_; refine HO_b2sr (l := pfB a q') 0 rfl rfl rfl rfl rfl rfl rfl rdA ?_))) | (refine HO_k 12 rfl ?_; refine HO_call rfl rfl rfl rfl (g3) rfl (trivial) rfl rfl soA ?_; intro z2 hz2; dsimp only [lca, lna]) | (refine HO_k 12 rfl ?_; refine HO_call rfl rfl rfl rfl (n5 _ hz2.2) rfl (trivial) rfl rfl soA ?_; intro z3 hz3; dsimp only [lca, lna]) | (refine HO_k 12 rfl ?_; refine HO_mv 2 rfl rfl ?_; refine HO_mv 2 rfl rfl ?_; refine HO_call rfl rfl rfl rfl (n5 _ hz2.2) rfl (trivial) rfl rfl soA ?_; intro z3 hz3; dsimp only [lca, lna]) | (refine HO_k 12 rfl ?_; refine HO_mv 3 rfl rfl ?_; refine HO_mv 3 rfl rfl ?_; refine HO_call rfl rfl rfl rfl (n5 _ hz2.2) rfl (trivial) rfl rfl soA ?_; intro z3 hz3; dsimp only [lca, lna]) | (refine HO_k 11 rfl ?_; refine HO_appw rfl rfl rfl rfl rfl rfl rfl rfl ?h1 ?h2 rfl rfl ?h3 ?h4 rfl rfl rfl ?h5 ?_; (case h1 => simp only [List.length_append, List.length_map, List.length_cons, List.length_nil, be_length]); (case h2 => repeat (first | exact WfL.nil | exact WfL.map | apply WfL.append | refine WfL.cons rfl rfl ?_ | assumption)); (case h3 => (try simp only [List.length_append, List.length_map, List.length_cons, List.length_nil, be_length]); (try omega)); (case h4 => (try simp only [List.length_append, List.length_map, List.length_cons, List.length_nil, be_length]); (try omega)); (case h5 => exact soA); intro _ _) | exact HO_seg rfl rfl | refine S1 ?_ | (refine S2 ?_; intro _) | (refine S3 ?_; intro _ _) | (refine S4 ?_; intro _ _ _) | (refine HO_g 2 rfl ?_; first | apply HO_a1 rfl | apply HO_o1 rfl) | refine SYScY ?_ | refine S5 ?_ | (intro hb; try replace hb := simB hb; try exact kill hb))
     rename_i bp bz A4 c4
     have eL : acc.length + 1 = (acc ++ [(⟨a, q', v⟩ : CntQ)]).length := by simp
     rw [eL]
     refine HX_keeps (rw' := rqP b z3.1 z3.2 bd5 l5 ++ [cel b4 TDo (mkDo (mk8 v1 v2 (acc ++ [(⟨a, q', v⟩ : CntQ)])) ((none, 0), (A4, c4), (none, 0))).e, own idE 259 3 A4 (acc ++ [(⟨a, q', v⟩ : CntQ)]).length c4 ((acc ++ [(⟨a, q', v⟩ : CntQ)]).map CntQ.e), cel b2 TDo (mkDo do0 ((none, 0), (none, 0), (none, 0))).e]) ?_ ?_
     ·rw [List.map_append]
      exact permA
     ·have hk2 : v3 - (j + 1) = k' := by omega
      exact HX_at (j + 1, bd5, l5, (acc ++ [(⟨a, q', v⟩ : CntQ)]), z3, (A4, c4)) ⟨⟨fun h => hE.trans (accM_none (hC.1 h)), fun h => (by rw [hk2]; exact hE.trans (accM_some (hC.2 h))), by dsimp only; omega, hz3, hjv, by simp; omega, fun c hc => (by
       rcases List.mem_append.1 hc with h | h
       ·exact i7 c h
       ·have := List.mem_singleton.1 h
        subst this
        exact ha)⟩, by show v3 - (j + 1) < v3 - j; omega⟩ ⟨rfl, rfl, rfl, rfl, rfl, trivial⟩ rfl
    ·rw [if_neg he] at hp2
     rw [accM_none (getC_no hp2)] at hE
     rw [getD_bad (hG.trans hE)]
     have hstr : (!(ByteArray.toList ⟨(pfB a q').toArray⟩ == ByteArray.toList ⟨out.toArray⟩)) = true := by rw [ba_eq, decide_eq_false (fun x => he x.symm)]; rfl
     repeat' (first | refine SW ?_ | (with_reducible refine HO_rw (congrArg Value.bool hstr) ?_) | (refine HC_lex rfl rfl (by decide +kernel) rfl rfl ?_) | ((refine HO_g 2 rfl ?_); (refine HO_skip rfl rfl rfl rfl rdA ?_)) | refine SD ?_ | (refine HO_k 12 rfl ?_; refine HO_callq rfl rfl rfl rfl (g0) (fun _ _ => rfl) (srcsA) rfl rfl sqA ?_) | (refine HO_k 12 rfl ?_; refine HO_call rfl rfl rfl rfl (g2) rfl (trivial) rfl rfl soA ?_; intro z1 hz1; dsimp only [lca, lna]) | (refine HO_k 7 rfl ?_; (first | (refine HO_holdA 0 rfl rfl ?_; refine HO_b2sr (l := pfB a q') 0 rfl rfl rfl rfl rfl rfl rfl rdA ?_) | (refine HO_holdA 1 rfl rfl ?_; refine HO_b2sr (l := pfB a q') 0 rfl rfl rfl rfl rfl rfl rfl rdA ?_) | (refine HO_holdA 2 rfl rfl ?_; refine HO_b2sr (l := pfB a q') 0 rfl rfl rfl rfl rfl rfl rfl rdA ?_) | (refine HO_holdA 3 rfl rfl ?_; refine HO_b2sr (l := pfB a q') 0 rfl rfl rfl rfl rfl rfl rfl rdA ?_) | (refine HO_holdA 4 rfl rfl ?_; refine HO_b2sr (l := pfB a q') 0 rfl rfl rfl rfl rfl rfl rfl rdA ?_) | (refine HO_holdA 5 rfl rfl ?_; refine HO_b2sr (l := pfB a q') 0 rfl rfl rfl rfl rfl rfl rfl rdA ?_) | (refine HO_holdA 6 rfl rfl ?_; refine HO_b2sr (l := pfB a q') 0 rfl rfl rfl rfl rfl rfl rfl rdA ?_) | (refine HO_holdA 7 rfl rfl ?_; refine HO_b2sr (l := pfB a q') 0 rfl rfl rfl rfl rfl rfl rfl rdA ?_) | (refine HO_holdA 8 rfl rfl ?_; refine HO_b2sr (l := pfB a q') 0 rfl rfl rfl rfl rfl rfl rfl rdA ?_) | (refine HO_holdA 9 rfl rfl ?_; refine HO_b2sr (l := pfB a q') 0 rfl rfl rfl rfl rfl rfl rfl rdA ?_) | (refine HO_holdA 10 rfl rfl ?_; refine HO_b2sr (l := pfB a q') 0 rfl rfl rfl rfl rfl rfl rfl rdA ?_) | (refine HO_holdA 11 rfl rfl ?_; refine HO_b2sr (l := pfB a q') 0 rfl rfl rfl rfl rfl rfl rfl rdA ?_))) | (refine HO_k 12 rfl ?_; refine HO_call rfl rfl rfl rfl (g3) rfl (trivial) rfl rfl soA ?_; intro z2 hz2; dsimp only [lca, lna]) | (refine HO_k 7 rfl ?_; (first | (refine HO_holdA 0 rfl rfl ?_; refine HO_b2sr (l := out) 0 rfl rfl rfl rfl rfl rfl rfl rdA ?_) | (refine HO_holdA 1 rfl rfl ?_; refine HO_b2sr (l := out) 0 rfl rfl rfl rfl rfl rfl rfl rdA ?_) | (refine HO_holdA 2 rfl rfl ?_; refine HO_b2sr (l := out) 0 rfl rfl rfl rfl rfl rfl rfl rdA ?_) | (refine HO_holdA 3 rfl rfl ?_; refine HO_b2sr (l := out) 0 rfl rfl rfl rfl rfl rfl rfl rdA ?_) | (refine HO_holdA 4 rfl rfl ?_; refine HO_b2sr (l := out) 0 rfl rfl rfl rfl rfl rfl rfl rdA ?_) | (refine HO_holdA 5 rfl rfl ?_; refine HO_b2sr (l := out) 0 rfl rfl rfl rfl rfl rfl rfl rdA ?_) | (refine HO_holdA 6 rfl rfl ?_; refine HO_b2sr (l := out) 0 rfl rfl rfl rfl rfl rfl rfl rdA ?_) | (refine HO_holdA 7 rfl rfl ?_; refine HO_b2sr (l := out) 0 rfl rfl rfl rfl rfl rfl rfl rdA ?_) | (refine HO_holdA 8 rfl rfl ?_; refine HO_b2sr (l := out) 0 rfl rfl rfl rfl rfl rfl rfl rdA ?_) | (refine HO_holdA 9 rfl rfl ?_; refine HO_b2sr (l := out) 0 rfl rfl rfl rfl rfl rfl rfl rdA ?_) | (refine HO_holdA 10 rfl rfl ?_; refine HO_b2sr (l := out) 0 rfl rfl rfl rfl rfl rfl rfl rdA ?_) | (refine HO_holdA 11 rfl rfl ?_; refine HO_b2sr (l := out) 0 rfl rfl rfl rfl rfl rfl rfl rdA ?_))) | exact HO_seg rfl rfl | refine S1 ?_ | (refine S2 ?_; intro _) | (refine S3 ?_; intro _ _) | (refine S4 ?_; intro _ _ _) | (refine HO_g 2 rfl ?_; first | apply HO_a1 rfl | apply HO_o1 rfl) | refine SYScY ?_ | refine S5 ?_ | (intro hb; try replace hb := simB hb; try exact kill hb))
     (refine SR ?_; unfold RetQ; refine ⟨(mkDo (mk8 v1 v2 acc) ((none, 0), ao, (none, 0)), (none, 0), (none, 0), (none, 0), (none, 0)), trivial, rfl, Keeps.nil⟩)
 by_cases h9 : k = 9
 ·subst h9
  have n2 := fun x hx => rnumQ_t b x false t 1 (by decide) hbt hx
  have hH := rdH_W false t
  obtain ⟨⟨s, q, m, bad2, l2⟩, hr2⟩ : ∃ r, rdH false t = r := ⟨_, rfl⟩
  have hT := getT9 hr2
  rw [hr2] at hH
  dsimp only at hH
  unfold rdH at hr2
  dsimp only at hr2
  have j1 := rdN_lt false t 1 (by decide)
  obtain ⟨⟨v1, bq1, lq1⟩, hq1⟩ : ∃ r, rdN false t 1 = r := ⟨_, rfl⟩
  rw [hq1] at hr2 n2 j1
  dsimp only at hr2 n2 j1
  have n3 := fun x hx => rnumQ_t b x bq1 lq1 4 (by decide) (by omega) hx
  have j2 := rdN_lt bq1 lq1 4 (by decide)
  obtain ⟨⟨v2, bq2, lq2⟩, hq2⟩ : ∃ r, rdN bq1 lq1 4 = r := ⟨_, rfl⟩
  rw [hq2] at hr2 n3 j2
  dsimp only at hr2 n3 j2
  have n4 := fun x hx => rnumQ_t b x bq2 lq2 1 (by decide) (by omega) hx
  obtain ⟨⟨v3, bq3, lq3⟩, hq3⟩ : ∃ r, rdN bq2 lq2 1 = r := ⟨_, rfl⟩
  rw [hq3] at hr2 n4
  dsimp only at hr2 n4
  injection hr2 with e1 hr2
  injection hr2 with e2 hr2
  injection hr2 with e3 hr2
  injection hr2 with e4 e5
  subst e1 e2 e3 e4 e5
  clear hq1 hq2 hq3
  dsimp only [rqP] at n1 n2 n3 n4 ⊢
  refine Tri_of (N := Tryz.f128.ntmps) (c := bodyOf Tryz.f128) Tryz.func128 rfl rfl rfl rfl (fun w0 S0 => ?_)
  repeat' (first | refine SW ?_ | refine SD ?_ | (refine HO_k 12 rfl ?_; refine HO_mv 2 rfl rfl ?_; refine HO_mv 2 rfl rfl ?_; refine HO_call rfl rfl rfl rfl (n1) rfl (trivial) rfl rfl soA ?_; intro x1 hx1; dsimp only [lca, lna]) | (refine HO_k 12 rfl ?_; refine HO_mv 2 rfl rfl ?_; refine HO_mv 2 rfl rfl ?_; refine HO_call rfl rfl rfl rfl (n2 _ hx1) rfl (trivial) rfl rfl soA ?_; intro x2 hx2; dsimp only [lca, lna]) | (refine HO_k 12 rfl ?_; refine HO_call rfl rfl rfl rfl (n3 _ hx2) rfl (trivial) rfl rfl soA ?_; intro x3 hx3; dsimp only [lca, lna]) | (refine HO_k 12 rfl ?_; refine HO_call rfl rfl rfl rfl (n4 _ hx3) rfl (trivial) rfl rfl soA ?_; intro x4 hx4; dsimp only [lca, lna]) | exact HO_seg rfl rfl | refine S1 ?_ | (refine S2 ?_; intro _) | (refine S3 ?_; intro _ _) | (refine S4 ?_; intro _ _ _) | (refine HO_g 2 rfl ?_; first | apply HO_a1 rfl | apply HO_o1 rfl) | refine SYScY ?_ | refine S5 ?_ | (intro hb; try replace hb := simB hb; try exact kill hb))
  rename_i b2 b4
  clear n1 n2 n3 n4
  have j3 := hH.2.2.1
  refine HC_keeps (rw' := own idE 174 3 none 0 0 [] :: (rqP b x4.1 x4.2 bq3 lq3 ++ [cel b4 TDo (mkDo (mk9 v1 v2 []) ((none, 0), (none, 0), (none, 0))).e, cel b2 TDo (mkDo do0 ((none, 0), (none, 0), (none, 0))).e])) (Keeps.add (fun w => own_nil w) permA) ?_
  refine HC_keeps (rw' := rqP b x4.1 x4.2 bq3 lq3 ++ [cel b4 TDo (mkDo (mk9 v1 v2 []) ((none, 0), (none, 0), (none, 0))).e, own idE 174 3 none 0 0 [], cel b2 TDo (mkDo do0 ((none, 0), (none, 0), (none, 0))).e]) permA ?_
  refine HC_loop (α := Nat × Bool × List UInt8 × List CarQ × OA × OA) (fun y => (y.2.1 = true → getT 9 t = none) ∧ (y.2.1 = false → getT 9 t = accM (mk9 v1 v2) y.2.2.2.1 (getM getR (v3 - y.1) y.2.2.1)) ∧ y.2.2.1.length ≤ 1000000000 ∧ y.2.2.1.length ≤ y.2.2.2.2.1.2 ∧ y.1 ≤ v3 ∧ y.2.2.2.1.length = y.1)
   (fun y => [(11, .int .i64 y.1), (10, .int .i64 v3), (4, pt b4), (2, pt b2), (0, pt b)])
   (fun y => rqP b y.2.2.2.2.1.1 y.2.2.2.2.1.2 y.2.1 y.2.2.1 ++ [cel b4 TDo (mkDo (mk9 v1 v2 y.2.2.2.1) ((none, 0), (none, 0), y.2.2.2.2.2)).e, own idE 174 3 y.2.2.2.2.2.1 y.2.2.2.1.length y.2.2.2.2.2.2 (y.2.2.2.1.map CarQ.e), cel b2 TDo (mkDo do0 ((none, 0), (none, 0), (none, 0))).e])
   (fun y => v3 - y.1) rfl (0, bq3, lq3, [], x4, (none, 0)) ⟨hT.1, hT.2, by dsimp only; omega, hx4, Nat.zero_le _, rfl⟩ ⟨rfl, rfl, rfl, rfl, rfl, trivial⟩ rfl ?_
  rintro ⟨j, bd, l', acc, xo, ao⟩ hinv
  obtain ⟨i1, i2, i3, i4, i5, i6⟩ := hinv
  dsimp only at i1 i2 i3 i4 i5 i6
  clear hT
  by_cases hex : bd = true ∨ j = v3
  ·cases bd with
   | true =>
    rw [getD_bad (hG.trans (i1 rfl))]
    dsimp only [rqP, mkDo, mk9, DoS.e, lca, lna]
    rcases Nat.lt_or_ge j v3 with hjv | hjv
    ·repeat' (first | refine SW ?_ | ((refine HO_g 2 rfl ?_); (refine HO_skip rfl rfl rfl rfl rdA ?_)) | refine SD ?_ | exact HO_seg rfl rfl | refine S1 ?_ | (refine S2 ?_; intro _) | (refine S3 ?_; intro _ _) | (refine S4 ?_; intro _ _ _) | (refine HO_g 2 rfl ?_; first | apply HO_a1 rfl | apply HO_o1 rfl) | refine SYScY ?_ | refine S5 ?_ | (intro hb; try replace hb := simB hb; try exact kill hb))
     (refine SR ?_; unfold RetQ; refine ⟨(mkDo (mk9 v1 v2 acc) ((none, 0), (none, 0), ao), (none, 0), (none, 0), (none, 0), (none, 0)), trivial, rfl, Keeps.nil⟩)
    ·repeat' (first | refine SW ?_ | ((refine HO_g 2 rfl ?_); (refine HO_skip rfl rfl rfl rfl rdA ?_)) | refine SD ?_ | exact HO_seg rfl rfl | refine S1 ?_ | (refine S2 ?_; intro _) | (refine S3 ?_; intro _ _) | (refine S4 ?_; intro _ _ _) | (refine HO_g 2 rfl ?_; first | apply HO_a1 rfl | apply HO_o1 rfl) | refine SYScY ?_ | refine S5 ?_ | (intro hb; try replace hb := simB hb; try exact kill hb))
     (refine SR ?_; unfold RetQ; refine ⟨(mkDo (mk9 v1 v2 acc) ((none, 0), (none, 0), ao), (none, 0), (none, 0), (none, 0), (none, 0)), trivial, rfl, Keeps.nil⟩)
   | false =>
    obtain rfl : j = v3 := by simpa using hex
    have hE := i2 rfl
    rw [Nat.sub_self] at hE
    have hE1 : getD1 (c0 :: t) = some (mk9 v1 v2 acc, l') := by
     rw [hG, hE]
     show some (mk9 v1 v2 (acc ++ []), l') = _
     rw [List.append_nil]
    have hW : DoW (mk9 v1 v2 acc) := W9 hH.1 hH.2.1 (by omega)
    have g1 := rone_t (mkDo (mk9 v1 v2 acc) ((none, 0), (none, 0), ao)) hW.1 hW.2.2
    dsimp only [rqP, mkDo, mk9, DoS.e, DoS.ro, lca, lna] at g1 ⊢
    cases ho : oneQ (mk9 v1 v2 acc) with
    | true =>
     rw [getD_yes hE1 ho]
     change Tri _ _ _ _ _ _ (fun _ => Value.bool (oneQ (mk9 v1 v2 acc))) _ at g1
     rw [ho] at g1
     repeat' (first | refine SW ?_ | ((refine HO_g 2 rfl ?_); (refine HO_skip rfl rfl rfl rfl rdA ?_)) | refine SD ?_ | (refine HO_k 12 rfl ?_; refine HO_callq rfl rfl rfl rfl (g1) (fun _ _ => rfl) ((AllSrc.free (fun w => arr_nil _ w) (AllSrc.free (fun w => arr_nil _ w) (AllSrc.own 3 rfl rfl trivial)))) rfl rfl sqA ?_) | exact HO_seg rfl rfl | refine S1 ?_ | (refine S2 ?_; intro _) | (refine S3 ?_; intro _ _) | (refine S4 ?_; intro _ _ _) | (refine HO_g 2 rfl ?_; first | apply HO_a1 rfl | apply HO_o1 rfl) | refine SYScY ?_ | refine S5 ?_ | (intro hb; try replace hb := simB hb; try exact kill hb))
     (refine SR ?_; unfold RetQ; refine ⟨(dz, xo, (none, 0), (none, 0), ao), i4, rfl, Keeps.cmp (show Keeps _ (rqP b xo.1 xo.2 false l' ++ [own idE 174 3 ao.1 acc.length ao.2 (acc.map CarQ.e)]) from permA) (Keeps.pick 0 rfl rfl (Keeps.pick 0 rfl rfl (Keeps.add (fun w => arr_nil _ w) (Keeps.add (fun w => arr_nil _ w) (Keeps.pickE 0 rfl rfl own_e Keeps.nil)))))⟩)
    | false =>
     rw [getD_not hE1 ho]
     change Tri _ _ _ _ _ _ (fun _ => Value.bool (oneQ (mk9 v1 v2 acc))) _ at g1
     rw [ho] at g1
     repeat' (first | refine SW ?_ | ((refine HO_g 2 rfl ?_); (refine HO_skip rfl rfl rfl rfl rdA ?_)) | refine SD ?_ | (refine HO_k 12 rfl ?_; refine HO_callq rfl rfl rfl rfl (g1) (fun _ _ => rfl) ((AllSrc.free (fun w => arr_nil _ w) (AllSrc.free (fun w => arr_nil _ w) (AllSrc.own 3 rfl rfl trivial)))) rfl rfl sqA ?_) | exact HO_seg rfl rfl | refine S1 ?_ | (refine S2 ?_; intro _) | (refine S3 ?_; intro _ _) | (refine S4 ?_; intro _ _ _) | (refine HO_g 2 rfl ?_; first | apply HO_a1 rfl | apply HO_o1 rfl) | refine SYScY ?_ | refine S5 ?_ | (intro hb; try replace hb := simB hb; try exact kill hb))
     (refine SR ?_; unfold RetQ; refine ⟨(mkDo (mk9 v1 v2 acc) ((none, 0), (none, 0), ao), (none, 0), (none, 0), (none, 0), (none, 0)), trivial, rfl, Keeps.nil⟩)
  ·obtain ⟨hbd, hjn⟩ : bd = false ∧ j ≠ v3 := by simpa using hex
   subst hbd
   obtain ⟨k', hk'⟩ : ∃ k', v3 - j = k' + 1 := ⟨v3 - j - 1, by omega⟩
   have hE := i2 rfl
   rw [hk'] at hE
   have hjv : j < v3 := by omega
   dsimp only [rqP, mkDo, mk9, DoS.e, lca, lna]
   have n1 := rnumQ_t b xo false l' 4 (by decide) i3 i4
   have k1 := rdN_lt false l' 4 (by decide)
   obtain ⟨⟨w1, bd4, l4⟩, hr4⟩ : ∃ r, rdN false l' 4 = r := ⟨_, rfl⟩
   rw [hr4] at n1 k1
   dsimp only at n1 k1
   have n2 := fun x hx => rnumQ_t b x bd4 l4 4 (by decide) (by omega) hx
   have k2 := rdN_lt bd4 l4 4 (by decide)
   obtain ⟨⟨w2, bd5, l5⟩, hr5⟩ : ∃ r, rdN bd4 l4 4 = r := ⟨_, rfl⟩
   rw [hr5] at n2 k2
   dsimp only at n2 k2
   have n3 := fun x hx => rnumQ_t b x bd5 l5 1 (by decide) (by omega) hx
   have k3 := rdN_lt bd5 l5 1 (by decide)
   obtain ⟨⟨w3, bd6, l6⟩, hr6⟩ : ∃ r, rdN bd5 l5 1 = r := ⟨_, rfl⟩
   rw [hr6] at n3 k3
   dsimp only at n3 k3
   have hC := getR_rd hr4 hr5 hr6
   clear hr4 hr5 hr6
   dsimp only [rqP] at n1 n2 n3
   have hac : acc.length ≤ 255 := by omega
   have hw3 := k3.1
   have ed1 : decide ((w3 : Int) = 1) = decide (w3 = 1) := decide_eq_decide.2 (by omega)
   by_cases hw : w3 > 1
   ·rw [accM_none (hC.1 hw)] at hE
    rw [getD_bad (hG.trans hE)]
    repeat' (first | refine SW ?_ | ((refine HO_g 2 rfl ?_); (refine HO_skip rfl rfl rfl rfl rdA ?_)) | refine SD ?_ | (refine HO_k 12 rfl ?_; refine HO_call rfl rfl rfl rfl (n1) rfl (trivial) rfl rfl soA ?_; intro z1 hz1; dsimp only [lca, lna]) | (refine HO_k 12 rfl ?_; refine HO_call rfl rfl rfl rfl (n2 _ hz1) rfl (trivial) rfl rfl soA ?_; intro z2 hz2; dsimp only [lca, lna]) | (refine HO_k 12 rfl ?_; refine HO_call rfl rfl rfl rfl (n3 _ hz2) rfl (trivial) rfl rfl soA ?_; intro z3 hz3; dsimp only [lca, lna]) | (refine HO_k 12 rfl ?_; refine HO_mv 2 rfl rfl ?_; refine HO_mv 2 rfl rfl ?_; refine HO_call rfl rfl rfl rfl (n3 _ hz2) rfl (trivial) rfl rfl soA ?_; intro z3 hz3; dsimp only [lca, lna]) | exact HO_seg rfl rfl | refine S1 ?_ | (refine S2 ?_; intro _) | (refine S3 ?_; intro _ _) | (refine S4 ?_; intro _ _ _) | (refine HO_g 2 rfl ?_; first | apply HO_a1 rfl | apply HO_o1 rfl) | refine SYScY ?_ | refine S5 ?_ | (intro hb; try replace hb := simB hb; try exact kill hb))
    (refine SR ?_; unfold RetQ; refine ⟨(mkDo (mk9 v1 v2 acc) ((none, 0), (none, 0), ao), (none, 0), (none, 0), (none, 0), (none, 0)), trivial, rfl, Keeps.nil⟩)
   ·have hw' : w3 ≤ 1 := by omega
    repeat' (first | refine SW ?_ | ((refine HO_g 2 rfl ?_); (refine HO_skip rfl rfl rfl rfl rdA ?_)) | refine SD ?_ | (refine HO_k 12 rfl ?_; refine HO_call rfl rfl rfl rfl (n1) rfl (trivial) rfl rfl soA ?_; intro z1 hz1; dsimp only [lca, lna]) | (refine HO_k 12 rfl ?_; refine HO_call rfl rfl rfl rfl (n2 _ hz1) rfl (trivial) rfl rfl soA ?_; intro z2 hz2; dsimp only [lca, lna]) | (refine HO_k 12 rfl ?_; refine HO_call rfl rfl rfl rfl (n3 _ hz2) rfl (trivial) rfl rfl soA ?_; intro z3 hz3; dsimp only [lca, lna]) | (refine HO_k 12 rfl ?_; refine HO_mv 2 rfl rfl ?_; refine HO_mv 2 rfl rfl ?_; refine HO_call rfl rfl rfl rfl (n3 _ hz2) rfl (trivial) rfl rfl soA ?_; intro z3 hz3; dsimp only [lca, lna]) | (refine HO_k 11 rfl ?_; refine HO_appw rfl rfl rfl rfl rfl rfl rfl rfl ?h1 ?h2 rfl rfl ?h3 ?h4 rfl rfl rfl ?h5 ?_; (case h1 => simp only [List.length_append, List.length_map, List.length_cons, List.length_nil, be_length]); (case h2 => repeat (first | exact WfL.nil | exact WfL.map | apply WfL.append | refine WfL.cons rfl rfl ?_ | assumption)); (case h3 => (try simp only [List.length_append, List.length_map, List.length_cons, List.length_nil, be_length]); (try omega)); (case h4 => (try simp only [List.length_append, List.length_map, List.length_cons, List.length_nil, be_length]); (try omega)); (case h5 => exact soA); intro _ _) | exact HO_seg rfl rfl | refine S1 ?_ | (refine S2 ?_; intro _) | (refine S3 ?_; intro _ _) | (refine S4 ?_; intro _ _ _) | (refine HO_g 2 rfl ?_; first | apply HO_a1 rfl | apply HO_o1 rfl) | refine SYScY ?_ | refine S5 ?_ | (intro hb; try replace hb := simB hb; try exact kill hb))
    rename_i bp bz A4 c4
    have eL : acc.length + 1 = (acc ++ [(⟨w1, w2, decide (w3 = 1)⟩ : CarQ)]).length := by simp
    rw [eL, ed1]
    refine HX_keeps (rw' := rqP b z3.1 z3.2 bd6 l6 ++ [cel b4 TDo (mkDo (mk9 v1 v2 (acc ++ [(⟨w1, w2, decide (w3 = 1)⟩ : CarQ)])) ((none, 0), (none, 0), (A4, c4))).e, own idE 174 3 A4 (acc ++ [(⟨w1, w2, decide (w3 = 1)⟩ : CarQ)]).length c4 ((acc ++ [(⟨w1, w2, decide (w3 = 1)⟩ : CarQ)]).map CarQ.e), cel b2 TDo (mkDo do0 ((none, 0), (none, 0), (none, 0))).e]) ?_ ?_
    ·rw [List.map_append]
     exact permA
    ·have hk2 : v3 - (j + 1) = k' := by omega
     exact HX_at (j + 1, bd6, l6, (acc ++ [(⟨w1, w2, decide (w3 = 1)⟩ : CarQ)]), z3, (A4, c4)) ⟨⟨fun h => hE.trans (accM_none (hC.2.1 h)), fun h => (by rw [hk2]; exact hE.trans (accM_some (hC.2.2 h hw'))), by dsimp only; omega, hz3, hjv, by simp; omega⟩, by show v3 - (j + 1) < v3 - j; omega⟩ ⟨rfl, rfl, rfl, rfl, rfl, trivial⟩ rfl
 by_cases h7 : k = 7
 ·subst h7
  have hE1 : getD1 (c0 :: t) = some ({ do0 with k := 7 }, t) := by rw [hG]; simp [getT]
  dsimp only [rqP] at n1 ⊢
  refine Tri_of (N := Tryz.f128.ntmps) (c := bodyOf Tryz.f128) Tryz.func128 rfl rfl rfl rfl (fun w0 S0 => ?_)
  repeat' (first | refine SW ?_ | refine SD ?_ | (refine HO_k 12 rfl ?_; refine HO_mv 2 rfl rfl ?_; refine HO_mv 2 rfl rfl ?_; refine HO_call rfl rfl rfl rfl (n1) rfl (trivial) rfl rfl soA ?_; intro x1 hx1; dsimp only [lca, lna]) | exact HO_seg rfl rfl | refine S1 ?_ | (refine S2 ?_; intro _) | (refine S3 ?_; intro _ _) | (refine S4 ?_; intro _ _ _) | (refine HO_g 2 rfl ?_; first | apply HO_a1 rfl | apply HO_o1 rfl) | refine SYScY ?_ | refine S5n ?_ | (intro hb; try replace hb := simB hb; try exact kill hb))
  have hW : DoW { do0 with k := 7 } := W7 7 0 0 [] (by decide)
  have g1 := rone_t (mkDo { do0 with k := 7 } ((none, 0), (none, 0), (none, 0))) hW.1 hW.2.2
  change Tri _ _ _ _ _ _ (fun _ => Value.bool (oneQ { do0 with k := 7 })) _ at g1
  dsimp only [mkDo, DoS.e, DoS.ro] at g1
  cases ho : oneQ { do0 with k := 7 } with
  | true =>
   rw [getD_yes hE1 ho]
   rw [ho] at g1
   repeat' (first | refine SW ?_ | ((refine HO_g 2 rfl ?_); (refine HO_skip rfl rfl rfl rfl rdA ?_)) | refine SD ?_ | (refine HO_k 12 rfl ?_; refine HO_callq rfl rfl rfl rfl (g1) (fun _ _ => rfl) ((AllSrc.free (fun w => arr_nil _ w) (AllSrc.free (fun w => arr_nil _ w) (AllSrc.free (fun w => arr_nil _ w) trivial)))) rfl rfl sqA ?_) | exact HO_seg rfl rfl | refine S1 ?_ | (refine S2 ?_; intro _) | (refine S3 ?_; intro _ _) | (refine S4 ?_; intro _ _ _) | (refine HO_g 2 rfl ?_; first | apply HO_a1 rfl | apply HO_o1 rfl) | refine SYScY ?_ | refine S5 ?_ | (intro hb; try replace hb := simB hb; try exact kill hb))
   (refine SR ?_; unfold RetQ; refine ⟨(dz, x1, ((none, 0), (none, 0), (none, 0))), hx1, rfl, Keeps.cmp (show Keeps _ (rqP b x1.1 x1.2 false t) from permA) (Keeps.pick 0 rfl rfl (Keeps.pick 0 rfl rfl (Keeps.add (fun w => arr_nil _ w) (Keeps.add (fun w => arr_nil _ w) (Keeps.add (fun w => arr_nil _ w) (Keeps.nil))))))⟩)
  | false =>
   rw [getD_not hE1 ho]
   rw [ho] at g1
   repeat' (first | refine SW ?_ | ((refine HO_g 2 rfl ?_); (refine HO_skip rfl rfl rfl rfl rdA ?_)) | refine SD ?_ | (refine HO_k 12 rfl ?_; refine HO_callq rfl rfl rfl rfl (g1) (fun _ _ => rfl) ((AllSrc.free (fun w => arr_nil _ w) (AllSrc.free (fun w => arr_nil _ w) (AllSrc.free (fun w => arr_nil _ w) trivial)))) rfl rfl sqA ?_) | exact HO_seg rfl rfl | refine S1 ?_ | (refine S2 ?_; intro _) | (refine S3 ?_; intro _ _) | (refine S4 ?_; intro _ _ _) | (refine HO_g 2 rfl ?_; first | apply HO_a1 rfl | apply HO_o1 rfl) | refine SYScY ?_ | refine S5 ?_ | (intro hb; try replace hb := simB hb; try exact kill hb))
   (refine SR ?_; unfold RetQ; refine ⟨(mkDo { do0 with k := 7 } ((none, 0), (none, 0), (none, 0)), (none, 0), (none, 0), (none, 0), (none, 0)), trivial, rfl, Keeps.nil⟩)
 have n2 := fun x hx => rnumQ_t b x false t 1 (by decide) hbt hx
 have k2 := rdN_lt false t 1 (by decide)
 obtain ⟨⟨ro, bad2, l2⟩, hr2⟩ : ∃ r, rdN false t 1 = r := ⟨_, rfl⟩
 rw [hr2] at n2 k2 hrd
 dsimp only at n2 k2 hrd
 rw [if_neg h8, if_neg h9] at hrd
 by_cases h5 : k = 5
 ·subst h5
  rw [if_pos (by decide), if_pos rfl] at hrd
  have n3 := fun x hx => rnumQ_t b x bad2 l2 2 (by decide) (by omega) hx
  have k3 := rdN_lt bad2 l2 2 (by decide)
  obtain ⟨⟨n, bad3, l3⟩, hr3⟩ : ∃ r, rdN bad2 l2 2 = r := ⟨_, rfl⟩
  rw [hr3] at n3 k3 hrd
  dsimp only at n3 k3 hrd
  have n4 := fun (x : OA) hx => rbytes_t b x.1 x.2 bad3 l3 (n : Int) (by omega) hx
  have k4 := rdB_len bad3 l3 (n : Int)
  obtain ⟨⟨dt, bad4, l4⟩, hr4⟩ : ∃ r, rdB bad3 l3 (n : Int) = r := ⟨_, rfl⟩
  rw [hr4] at n4 k4 hrd
  dsimp only at n4 k4 hrd
  have hE := rdD_iff (by simp) hrd
  have hdl : dt.length ≤ 1000000 := by have := k3.1; have := k4.1; omega
  dsimp only [rqP] at n1 n2 n3 n4 ⊢
  refine Tri_of (N := Tryz.f128.ntmps) (c := bodyOf Tryz.f128) Tryz.func128 rfl rfl rfl rfl (fun w0 S0 => ?_)
  repeat' (first | refine SW ?_ | refine SD ?_ | (refine HO_k 12 rfl ?_; refine HO_mv 2 rfl rfl ?_; refine HO_mv 2 rfl rfl ?_; refine HO_call rfl rfl rfl rfl (n1) rfl (trivial) rfl rfl soA ?_; intro x1 hx1; dsimp only [lca, lna]) | (refine HO_k 12 rfl ?_; refine HO_mv 2 rfl rfl ?_; refine HO_mv 2 rfl rfl ?_; refine HO_call rfl rfl rfl rfl (n2 _ hx1) rfl (trivial) rfl rfl soA ?_; intro x2 hx2; dsimp only [lca, lna]) | (refine HO_k 12 rfl ?_; refine HO_call rfl rfl rfl rfl (n3 _ hx2) rfl (trivial) rfl rfl soA ?_; intro x3 hx3; dsimp only [lca, lna]) | (refine HO_k 12 rfl ?_; refine HO_call rfl rfl rfl rfl (n4 _ hx3) rfl (trivial) rfl rfl soA ?_; intro x4 hx4; dsimp only [lca, lna]) | exact HO_seg rfl rfl | refine S1 ?_ | (refine S2 ?_; intro _) | (refine S3 ?_; intro _ _) | (refine S4 ?_; intro _ _ _) | (refine HO_g 2 rfl ?_; first | apply HO_a1 rfl | apply HO_o1 rfl) | refine SYScY ?_ | refine S5n ?_ | (intro hb; try replace hb := simB hb; try exact kill hb))
  cases bad4 with
  | true =>
   rw [getD_bad (hE.2 rfl)]
   repeat' (first | refine SW ?_ | ((refine HO_g 2 rfl ?_); (refine HO_skip rfl rfl rfl rfl rdA ?_)) | refine SD ?_ | exact HO_seg rfl rfl | refine S1 ?_ | (refine S2 ?_; intro _) | (refine S3 ?_; intro _ _) | (refine S4 ?_; intro _ _ _) | (refine HO_g 2 rfl ?_; first | apply HO_a1 rfl | apply HO_o1 rfl) | refine SYScY ?_ | refine S5 ?_ | (intro hb; try replace hb := simB hb; try exact kill hb))
   (refine SR ?_; unfold RetQ; refine ⟨(mkDo { do0 with k := 5, r := ro, data := dt } (x4.1, (none, 0), (none, 0)), (none, 0), (none, 0), (none, 0), (none, 0)), trivial, rfl, Keeps.nil⟩)
  | false =>
   have hW : DoW { do0 with k := 5, r := ro, data := dt } := W7 5 ro 0 dt hdl
   have g1 := rone_t (mkDo { do0 with k := 5, r := ro, data := dt } (x4.1, (none, 0), (none, 0))) hW.1 hW.2.2
   change Tri _ _ _ _ _ _ (fun _ => Value.bool (oneQ { do0 with k := 5, r := ro, data := dt })) _ at g1
   dsimp only [mkDo, DoS.e, DoS.ro] at g1
   cases ho : oneQ { do0 with k := 5, r := ro, data := dt } with
   | true =>
    rw [getD_yes (hE.1 rfl) ho]
    rw [ho] at g1
    repeat' (first | refine SW ?_ | ((refine HO_g 2 rfl ?_); (refine HO_skip rfl rfl rfl rfl rdA ?_)) | refine SD ?_ | (refine HO_k 12 rfl ?_; refine HO_callq rfl rfl rfl rfl (g1) (fun _ _ => rfl) ((by first | exact AllSrc.own 0 rfl rfl (AllSrc.free (fun w => arr_nil _ w) (AllSrc.free (fun w => arr_nil _ w) trivial)) | exact AllSrc.own 1 rfl rfl (AllSrc.free (fun w => arr_nil _ w) (AllSrc.free (fun w => arr_nil _ w) trivial)) | exact AllSrc.own 2 rfl rfl (AllSrc.free (fun w => arr_nil _ w) (AllSrc.free (fun w => arr_nil _ w) trivial)) | exact AllSrc.own 3 rfl rfl (AllSrc.free (fun w => arr_nil _ w) (AllSrc.free (fun w => arr_nil _ w) trivial)) | exact AllSrc.own 4 rfl rfl (AllSrc.free (fun w => arr_nil _ w) (AllSrc.free (fun w => arr_nil _ w) trivial)) | exact AllSrc.own 5 rfl rfl (AllSrc.free (fun w => arr_nil _ w) (AllSrc.free (fun w => arr_nil _ w) trivial)) | exact AllSrc.own 6 rfl rfl (AllSrc.free (fun w => arr_nil _ w) (AllSrc.free (fun w => arr_nil _ w) trivial)))) rfl rfl sqA ?_) | exact HO_seg rfl rfl | refine S1 ?_ | (refine S2 ?_; intro _) | (refine S3 ?_; intro _ _) | (refine S4 ?_; intro _ _ _) | (refine HO_g 2 rfl ?_; first | apply HO_a1 rfl | apply HO_o1 rfl) | refine SYScY ?_ | refine S5 ?_ | (intro hb; try replace hb := simB hb; try exact kill hb))
    (refine SR ?_; unfold RetQ; refine ⟨(dz, x4.2, (x4.1, (none, 0), (none, 0))), hx4.2, rfl, Keeps.cmp (show Keeps _ (rqP b x4.2.1 x4.2.2 false l4 ++ [ownB x4.1 dt]) from permA) (Keeps.pick 0 rfl rfl (Keeps.pick 0 rfl rfl (Keeps.pickE 0 rfl rfl own_byte (Keeps.add (fun w => arr_nil _ w) (Keeps.add (fun w => arr_nil _ w) (Keeps.nil))))))⟩)
   | false =>
    rw [getD_not (hE.1 rfl) ho]
    rw [ho] at g1
    repeat' (first | refine SW ?_ | ((refine HO_g 2 rfl ?_); (refine HO_skip rfl rfl rfl rfl rdA ?_)) | refine SD ?_ | (refine HO_k 12 rfl ?_; refine HO_callq rfl rfl rfl rfl (g1) (fun _ _ => rfl) ((by first | exact AllSrc.own 0 rfl rfl (AllSrc.free (fun w => arr_nil _ w) (AllSrc.free (fun w => arr_nil _ w) trivial)) | exact AllSrc.own 1 rfl rfl (AllSrc.free (fun w => arr_nil _ w) (AllSrc.free (fun w => arr_nil _ w) trivial)) | exact AllSrc.own 2 rfl rfl (AllSrc.free (fun w => arr_nil _ w) (AllSrc.free (fun w => arr_nil _ w) trivial)) | exact AllSrc.own 3 rfl rfl (AllSrc.free (fun w => arr_nil _ w) (AllSrc.free (fun w => arr_nil _ w) trivial)) | exact AllSrc.own 4 rfl rfl (AllSrc.free (fun w => arr_nil _ w) (AllSrc.free (fun w => arr_nil _ w) trivial)) | exact AllSrc.own 5 rfl rfl (AllSrc.free (fun w => arr_nil _ w) (AllSrc.free (fun w => arr_nil _ w) trivial)) | exact AllSrc.own 6 rfl rfl (AllSrc.free (fun w => arr_nil _ w) (AllSrc.free (fun w => arr_nil _ w) trivial)))) rfl rfl sqA ?_) | exact HO_seg rfl rfl | refine S1 ?_ | (refine S2 ?_; intro _) | (refine S3 ?_; intro _ _) | (refine S4 ?_; intro _ _ _) | (refine HO_g 2 rfl ?_; first | apply HO_a1 rfl | apply HO_o1 rfl) | refine SYScY ?_ | refine S5 ?_ | (intro hb; try replace hb := simB hb; try exact kill hb))
    (refine SR ?_; unfold RetQ; refine ⟨(mkDo { do0 with k := 5, r := ro, data := dt } (x4.1, (none, 0), (none, 0)), (none, 0), (none, 0), (none, 0), (none, 0)), trivial, rfl, Keeps.nil⟩)
 by_cases h6 : k = 6
 ·subst h6
  rw [if_pos (by decide), if_neg (by decide), if_pos rfl] at hrd
  have n3 := fun x hx => rnumQ_t b x bad2 l2 4 (by decide) (by omega) hx
  obtain ⟨⟨n, bad3, l3⟩, hr3⟩ : ∃ r, rdN bad2 l2 4 = r := ⟨_, rfl⟩
  rw [hr3] at n3 hrd
  dsimp only at n3 hrd
  have hE := rdD_iff (by simp) hrd
  dsimp only [rqP] at n1 n2 n3 ⊢
  refine Tri_of (N := Tryz.f128.ntmps) (c := bodyOf Tryz.f128) Tryz.func128 rfl rfl rfl rfl (fun w0 S0 => ?_)
  repeat' (first | refine SW ?_ | refine SD ?_ | (refine HO_k 12 rfl ?_; refine HO_mv 2 rfl rfl ?_; refine HO_mv 2 rfl rfl ?_; refine HO_call rfl rfl rfl rfl (n1) rfl (trivial) rfl rfl soA ?_; intro x1 hx1; dsimp only [lca, lna]) | (refine HO_k 12 rfl ?_; refine HO_mv 2 rfl rfl ?_; refine HO_mv 2 rfl rfl ?_; refine HO_call rfl rfl rfl rfl (n2 _ hx1) rfl (trivial) rfl rfl soA ?_; intro x2 hx2; dsimp only [lca, lna]) | (refine HO_k 12 rfl ?_; refine HO_call rfl rfl rfl rfl (n3 _ hx2) rfl (trivial) rfl rfl soA ?_; intro x3 hx3; dsimp only [lca, lna]) | exact HO_seg rfl rfl | refine S1 ?_ | (refine S2 ?_; intro _) | (refine S3 ?_; intro _ _) | (refine S4 ?_; intro _ _ _) | (refine HO_g 2 rfl ?_; first | apply HO_a1 rfl | apply HO_o1 rfl) | refine SYScY ?_ | refine S5n ?_ | (intro hb; try replace hb := simB hb; try exact kill hb))
  cases bad3 with
  | true =>
   rw [getD_bad (hE.2 rfl)]
   repeat' (first | refine SW ?_ | ((refine HO_g 2 rfl ?_); (refine HO_skip rfl rfl rfl rfl rdA ?_)) | refine SD ?_ | exact HO_seg rfl rfl | refine S1 ?_ | (refine S2 ?_; intro _) | (refine S3 ?_; intro _ _) | (refine S4 ?_; intro _ _ _) | (refine HO_g 2 rfl ?_; first | apply HO_a1 rfl | apply HO_o1 rfl) | refine SYScY ?_ | refine S5 ?_ | (intro hb; try replace hb := simB hb; try exact kill hb))
   (refine SR ?_; unfold RetQ; refine ⟨(mkDo { do0 with k := 6, r := ro, n := n } ((none, 0), (none, 0), (none, 0)), (none, 0), (none, 0), (none, 0), (none, 0)), trivial, rfl, Keeps.nil⟩)
  | false =>
   have hW : DoW { do0 with k := 6, r := ro, n := n } := W7 6 ro n [] (by decide)
   have g1 := rone_t (mkDo { do0 with k := 6, r := ro, n := n } ((none, 0), (none, 0), (none, 0))) hW.1 hW.2.2
   change Tri _ _ _ _ _ _ (fun _ => Value.bool (oneQ { do0 with k := 6, r := ro, n := n })) _ at g1
   dsimp only [mkDo, DoS.e, DoS.ro] at g1
   cases ho : oneQ { do0 with k := 6, r := ro, n := n } with
   | true =>
    rw [getD_yes (hE.1 rfl) ho]
    rw [ho] at g1
    repeat' (first | refine SW ?_ | ((refine HO_g 2 rfl ?_); (refine HO_skip rfl rfl rfl rfl rdA ?_)) | refine SD ?_ | (refine HO_k 12 rfl ?_; refine HO_callq rfl rfl rfl rfl (g1) (fun _ _ => rfl) ((AllSrc.free (fun w => arr_nil _ w) (AllSrc.free (fun w => arr_nil _ w) (AllSrc.free (fun w => arr_nil _ w) trivial)))) rfl rfl sqA ?_) | exact HO_seg rfl rfl | refine S1 ?_ | (refine S2 ?_; intro _) | (refine S3 ?_; intro _ _) | (refine S4 ?_; intro _ _ _) | (refine HO_g 2 rfl ?_; first | apply HO_a1 rfl | apply HO_o1 rfl) | refine SYScY ?_ | refine S5 ?_ | (intro hb; try replace hb := simB hb; try exact kill hb))
    (refine SR ?_; unfold RetQ; refine ⟨(dz, x3, ((none, 0), (none, 0), (none, 0))), hx3, rfl, Keeps.cmp (show Keeps _ (rqP b x3.1 x3.2 false l3) from permA) (Keeps.pick 0 rfl rfl (Keeps.pick 0 rfl rfl (Keeps.add (fun w => arr_nil _ w) (Keeps.add (fun w => arr_nil _ w) (Keeps.add (fun w => arr_nil _ w) (Keeps.nil))))))⟩)
   | false =>
    rw [getD_not (hE.1 rfl) ho]
    rw [ho] at g1
    repeat' (first | refine SW ?_ | ((refine HO_g 2 rfl ?_); (refine HO_skip rfl rfl rfl rfl rdA ?_)) | refine SD ?_ | (refine HO_k 12 rfl ?_; refine HO_callq rfl rfl rfl rfl (g1) (fun _ _ => rfl) ((AllSrc.free (fun w => arr_nil _ w) (AllSrc.free (fun w => arr_nil _ w) (AllSrc.free (fun w => arr_nil _ w) trivial)))) rfl rfl sqA ?_) | exact HO_seg rfl rfl | refine S1 ?_ | (refine S2 ?_; intro _) | (refine S3 ?_; intro _ _) | (refine S4 ?_; intro _ _ _) | (refine HO_g 2 rfl ?_; first | apply HO_a1 rfl | apply HO_o1 rfl) | refine SYScY ?_ | refine S5 ?_ | (intro hb; try replace hb := simB hb; try exact kill hb))
    (refine SR ?_; unfold RetQ; refine ⟨(mkDo { do0 with k := 6, r := ro, n := n } ((none, 0), (none, 0), (none, 0)), (none, 0), (none, 0), (none, 0), (none, 0)), trivial, rfl, Keeps.nil⟩)
 by_cases hle : k ≤ 6
 ·rw [if_pos hle, if_neg h5, if_neg h6] at hrd
  have hE := rdD_iff (by simp) hrd
  dsimp only [rqP] at n1 n2 ⊢
  refine Tri_of (N := Tryz.f128.ntmps) (c := bodyOf Tryz.f128) Tryz.func128 rfl rfl rfl rfl (fun w0 S0 => ?_)
  repeat' (first | refine SW ?_ | refine SD ?_ | (refine HO_k 12 rfl ?_; refine HO_mv 2 rfl rfl ?_; refine HO_mv 2 rfl rfl ?_; refine HO_call rfl rfl rfl rfl (n1) rfl (trivial) rfl rfl soA ?_; intro x1 hx1; dsimp only [lca, lna]) | (refine HO_k 12 rfl ?_; refine HO_mv 2 rfl rfl ?_; refine HO_mv 2 rfl rfl ?_; refine HO_call rfl rfl rfl rfl (n2 _ hx1) rfl (trivial) rfl rfl soA ?_; intro x2 hx2; dsimp only [lca, lna]) | exact HO_seg rfl rfl | refine S1 ?_ | (refine S2 ?_; intro _) | (refine S3 ?_; intro _ _) | (refine S4 ?_; intro _ _ _) | (refine HO_g 2 rfl ?_; first | apply HO_a1 rfl | apply HO_o1 rfl) | refine SYScY ?_ | refine S5n ?_ | (intro hb; try replace hb := simB hb; try exact kill hb))
  cases bad2 with
  | true =>
   rw [getD_bad (hE.2 rfl)]
   repeat' (first | refine SW ?_ | ((refine HO_g 2 rfl ?_); (refine HO_skip rfl rfl rfl rfl rdA ?_)) | refine SD ?_ | exact HO_seg rfl rfl | refine S1 ?_ | (refine S2 ?_; intro _) | (refine S3 ?_; intro _ _) | (refine S4 ?_; intro _ _ _) | (refine HO_g 2 rfl ?_; first | apply HO_a1 rfl | apply HO_o1 rfl) | refine SYScY ?_ | refine S5 ?_ | (intro hb; try replace hb := simB hb; try exact kill hb))
   (refine SR ?_; unfold RetQ; refine ⟨(mkDo { do0 with k := k, r := ro } ((none, 0), (none, 0), (none, 0)), (none, 0), (none, 0), (none, 0), (none, 0)), trivial, rfl, Keeps.nil⟩)
  | false =>
   have hW : DoW { do0 with k := k, r := ro } := W7 k ro 0 [] (by decide)
   have g1 := rone_t (mkDo { do0 with k := k, r := ro } ((none, 0), (none, 0), (none, 0))) hW.1 hW.2.2
   change Tri _ _ _ _ _ _ (fun _ => Value.bool (oneQ { do0 with k := k, r := ro })) _ at g1
   dsimp only [mkDo, DoS.e, DoS.ro] at g1
   cases ho : oneQ { do0 with k := k, r := ro } with
   | true =>
    rw [getD_yes (hE.1 rfl) ho]
    rw [ho] at g1
    repeat' (first | refine SW ?_ | ((refine HO_g 2 rfl ?_); (refine HO_skip rfl rfl rfl rfl rdA ?_)) | refine SD ?_ | (refine HO_k 12 rfl ?_; refine HO_callq rfl rfl rfl rfl (g1) (fun _ _ => rfl) ((AllSrc.free (fun w => arr_nil _ w) (AllSrc.free (fun w => arr_nil _ w) (AllSrc.free (fun w => arr_nil _ w) trivial)))) rfl rfl sqA ?_) | exact HO_seg rfl rfl | refine S1 ?_ | (refine S2 ?_; intro _) | (refine S3 ?_; intro _ _) | (refine S4 ?_; intro _ _ _) | (refine HO_g 2 rfl ?_; first | apply HO_a1 rfl | apply HO_o1 rfl) | refine SYScY ?_ | refine S5 ?_ | (intro hb; try replace hb := simB hb; try exact kill hb))
    (refine SR ?_; unfold RetQ; refine ⟨(dz, x2, ((none, 0), (none, 0), (none, 0))), hx2, rfl, Keeps.cmp (show Keeps _ (rqP b x2.1 x2.2 false l2) from permA) (Keeps.pick 0 rfl rfl (Keeps.pick 0 rfl rfl (Keeps.add (fun w => arr_nil _ w) (Keeps.add (fun w => arr_nil _ w) (Keeps.add (fun w => arr_nil _ w) (Keeps.nil))))))⟩)
   | false =>
    rw [getD_not (hE.1 rfl) ho]
    rw [ho] at g1
    repeat' (first | refine SW ?_ | ((refine HO_g 2 rfl ?_); (refine HO_skip rfl rfl rfl rfl rdA ?_)) | refine SD ?_ | (refine HO_k 12 rfl ?_; refine HO_callq rfl rfl rfl rfl (g1) (fun _ _ => rfl) ((AllSrc.free (fun w => arr_nil _ w) (AllSrc.free (fun w => arr_nil _ w) (AllSrc.free (fun w => arr_nil _ w) trivial)))) rfl rfl sqA ?_) | exact HO_seg rfl rfl | refine S1 ?_ | (refine S2 ?_; intro _) | (refine S3 ?_; intro _ _) | (refine S4 ?_; intro _ _ _) | (refine HO_g 2 rfl ?_; first | apply HO_a1 rfl | apply HO_o1 rfl) | refine SYScY ?_ | refine S5 ?_ | (intro hb; try replace hb := simB hb; try exact kill hb))
    (refine SR ?_; unfold RetQ; refine ⟨(mkDo { do0 with k := k, r := ro } ((none, 0), (none, 0), (none, 0)), (none, 0), (none, 0), (none, 0), (none, 0)), trivial, rfl, Keeps.nil⟩)
 ·have hn : getD (c0 :: t) = none := by
   rw [if_neg hle] at hrd
   have hE := rdD_iff (by simp) hrd
   refine getD_not (hE.1 rfl) ?_
   unfold oneQ
   rw [decide_eq_false (by simp only; omega : ¬ (({ do0 with k := k } : DoQ).k ≤ 9))]
   simp
  have ho : oneQ { do0 with k := k, r := ro } = false := by
   unfold oneQ
   rw [decide_eq_false (by simp only; omega : ¬ (({ do0 with k := k, r := ro } : DoQ).k ≤ 9))]
   simp
  have hW : DoW { do0 with k := k, r := ro } := W7 k ro 0 [] (by decide)
  have g1 := rone_t (mkDo { do0 with k := k, r := ro } ((none, 0), (none, 0), (none, 0))) hW.1 hW.2.2
  change Tri _ _ _ _ _ _ (fun _ => Value.bool (oneQ { do0 with k := k, r := ro })) _ at g1
  dsimp only [mkDo, DoS.e, DoS.ro] at g1
  rw [ho] at g1
  rw [hn]
  dsimp only [rqP] at n1 n2 ⊢
  refine Tri_of (N := Tryz.f128.ntmps) (c := bodyOf Tryz.f128) Tryz.func128 rfl rfl rfl rfl (fun w0 S0 => ?_)
  repeat' (first | refine SW ?_ | refine SD ?_ | (refine HO_k 12 rfl ?_; refine HO_mv 2 rfl rfl ?_; refine HO_mv 2 rfl rfl ?_; refine HO_call rfl rfl rfl rfl (n1) rfl (trivial) rfl rfl soA ?_; intro x1 hx1; dsimp only [lca, lna]) | (refine HO_k 12 rfl ?_; refine HO_mv 2 rfl rfl ?_; refine HO_mv 2 rfl rfl ?_; refine HO_call rfl rfl rfl rfl (n2 _ hx1) rfl (trivial) rfl rfl soA ?_; intro x2 hx2; dsimp only [lca, lna]) | exact HO_seg rfl rfl | refine S1 ?_ | (refine S2 ?_; intro _) | (refine S3 ?_; intro _ _) | (refine S4 ?_; intro _ _ _) | (refine HO_g 2 rfl ?_; first | apply HO_a1 rfl | apply HO_o1 rfl) | refine SYScY ?_ | refine S5n ?_ | (intro hb; try replace hb := simB hb; try exact kill hb))
  cases bad2 with
  | true =>
   repeat' (first | refine SW ?_ | ((refine HO_g 2 rfl ?_); (refine HO_skip rfl rfl rfl rfl rdA ?_)) | refine SD ?_ | exact HO_seg rfl rfl | refine S1 ?_ | (refine S2 ?_; intro _) | (refine S3 ?_; intro _ _) | (refine S4 ?_; intro _ _ _) | (refine HO_g 2 rfl ?_; first | apply HO_a1 rfl | apply HO_o1 rfl) | refine SYScY ?_ | refine S5 ?_ | (intro hb; try replace hb := simB hb; try exact kill hb))
   (refine SR ?_; unfold RetQ; refine ⟨(mkDo { do0 with k := k, r := ro } ((none, 0), (none, 0), (none, 0)), (none, 0), (none, 0), (none, 0), (none, 0)), trivial, rfl, Keeps.nil⟩)
  | false =>
   repeat' (first | refine SW ?_ | ((refine HO_g 2 rfl ?_); (refine HO_skip rfl rfl rfl rfl rdA ?_)) | refine SD ?_ | (refine HO_k 12 rfl ?_; refine HO_callq rfl rfl rfl rfl (g1) (fun _ _ => rfl) ((AllSrc.free (fun w => arr_nil _ w) (AllSrc.free (fun w => arr_nil _ w) (AllSrc.free (fun w => arr_nil _ w) trivial)))) rfl rfl sqA ?_) | exact HO_seg rfl rfl | refine S1 ?_ | (refine S2 ?_; intro _) | (refine S3 ?_; intro _ _) | (refine S4 ?_; intro _ _ _) | (refine HO_g 2 rfl ?_; first | apply HO_a1 rfl | apply HO_o1 rfl) | refine SYScY ?_ | refine S5 ?_ | (intro hb; try replace hb := simB hb; try exact kill hb))
   (refine SR ?_; unfold RetQ; refine ⟨(mkDo { do0 with k := k, r := ro } ((none, 0), (none, 0), (none, 0)), (none, 0), (none, 0), (none, 0), (none, 0)), trivial, rfl, Keeps.nil⟩)
end Go.Proofs.YtbhiojedmkcfoaaGreatDoor
