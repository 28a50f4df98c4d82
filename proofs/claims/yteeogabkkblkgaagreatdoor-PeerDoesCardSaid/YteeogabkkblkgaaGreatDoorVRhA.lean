/- Part of a proof of many texts: what the theorem at its end leans on. -/
import Derived.Test.YteeogabkkblkgaaGreatDoorVPfA
import Derived.Test.YteeogabkkblkgaaGreatDoorVAttRD
import Derived.Test.YteeogabkkblkgaaGreatDoorVAdr
import Derived.Test.YteeogabkkblkgaaGreatDoorVKc
namespace Go.Proofs.YteeogabkkblkgaaGreatDoor
set_option maxHeartbeats 1000000000
set_option linter.unusedVariables false
set_option linter.unusedSimpArgs false
open Go.RowKit
attribute [local irreducible] HC HX HO Tri eP adr
theorem rnote_t (k : Int) : Tri Tryz.prog 160 [.int .i64 k] [] [] (fun _ : Unit => True) (fun _ => .agg #[.int .i64 2, .int .i64 k, .slice none 0 0]) (fun _ => []) := by
 refine Tri_in Tryz.func160 rfl (fun w0 S0 => ?_)
 repeat' (first | refine SB ?_ | (refine S2 ?_; intro _) | fail)
 (refine SRt ?_; refine RU ?_)
 rfl
theorem four_cons {d : List UInt8} {j : Nat} (h : j + 4 ≤ d.length) : ∃ a b c e, d.drop j = a :: b :: c :: e :: d.drop (j + 4) ∧ d[j]? = some a ∧ d[j + 1]? = some b ∧ d[j + 2]? = some c ∧ d[j + 3]? = some e := by
 refine ⟨d[j]'(by omega), d[j + 1]'(by omega), d[j + 2]'(by omega), d[j + 3]'(by omega), ?_, List.getElem?_eq_getElem _, List.getElem?_eq_getElem _, List.getElem?_eq_getElem _, List.getElem?_eq_getElem _⟩
 rw [List.drop_eq_getElem_cons (show j < d.length by omega), List.drop_eq_getElem_cons (show j + 1 < d.length by omega), List.drop_eq_getElem_cons (show j + 1 + 1 < d.length by omega), List.drop_eq_getElem_cons (show j + 1 + 1 + 1 < d.length by omega)]
@[reducible] def opCel (s : Nat) (o : OpQ) : SL := cel s 40 [.int .i64 o.as, .int .i64 o.hold, .int .u32 o.id, .bool o.four, .int .i64 o.paths]
structure CpI where
 rA : Option Addr
 rc : Nat
 l : List UInt8
 o : OpQ
theorem cap_bad (o : OpQ) (k : Nat) : (if 0 < (capM o k []).2 then (capM o k []).2 else 0) = 0 := by
 unfold capM
 repeat' split
 all_goals first | rfl | (rename_i h _; simp at h; done) | (exfalso; simp at *; done) | simp_all
set_option maxRecDepth 100000 in
theorem rcaps_t (s b : Nat) (o : OpQ) (A : Option Addr) (c : Nat) (l : List UInt8) (hl : l.length ≤ 100000) (hc : l.length ≤ c) :
  Tri Tryz.prog 164 [pt s, pt b] [] (rqP b A c false l ++ [opCel s o]) (fun x : OpQ => (eachM capM l.length o l).2 < 0 → x = (eachM capM l.length o l).1)
   (fun _ => .bool (decide ((eachM capM l.length o l).2 < 0))) (fun x => [opCel s x]) := by
 obtain ⟨⟨R1, R2⟩, hR⟩ : ∃ R, eachM capM l.length o l = R := ⟨_, rfl⟩
 rw [hR]
 refine Tri_in Tryz.func164 rfl (fun w0 S0 => ?_)
 repeat' (first | refine SY ?_ | refine SB ?_ | fail)
 refine HC_loop (α := CpI) (fun x => x.l.length ≤ l.length ∧ x.l.length ≤ x.rc ∧ eachM capM x.l.length x.o x.l = (R1, R2)) (fun _ => [(0, pt s), (0 + 1, pt b)])
  (fun x => rqP b x.rA x.rc false x.l ++ [opCel s x.o]) (fun x => x.l.length) rfl ⟨A, c, l, o⟩ ⟨Nat.le_refl _, hc, hR⟩ ⟨rfl, rfl, trivial⟩ rfl ?_
 clear hR
 intro ⟨rA, rc, l', o'⟩ ⟨hll, hlc, hR⟩
 dsimp only [rqP, opCel, pt, lca, lna] at hll hlc hR ⊢
 rcases l' with _ | ⟨k, l1⟩
 ·obtain ⟨rfl, rfl⟩ : o' = R1 ∧ -1 = R2 := Prod.mk.inj hR
  repeat' (first | refine SY ?_ | (refine KC ?_; refine HO_callq rfl rfl rfl rfl (rleftF_t _ _ _ _) (fun _ _ => rfl) (srcsA) rfl rfl sqA ?_) | refine SB ?_ | fail)
  (refine SRt ?_; unfold RetQ; refine ⟨o', (fun _ => rfl), rfl, permA⟩)
 have hk8 := k.toNat_lt
 have hlp : 0 < (((k :: l1).length : Nat) : Int) := by simp only [List.length_cons]; omega
 simp only [List.length_cons] at hll hlc
 rcases l1 with _ | ⟨n, r⟩
 ·have hz : R2 = 0 := by
   have h := congrArg Prod.snd hR
   rw [show ([k] : List UInt8).length = 0 + 1 from rfl, eachM_1] at h
   exact h.symm.trans (cap_bad o' k.toNat)
  subst hz
  repeat' (first | refine SY ?_ | (refine KC ?_; refine HO_callq rfl rfl rfl rfl (rleftF_t _ _ _ _) (fun _ _ => rfl) (srcsA) rfl rfl sqA ?_) | (refine KC ?_; refine HO_call rfl rfl rfl rfl (rnum1_t b rA rc k [] (by simp) (by simpa using hlc)) rfl (trivial) rfl rfl soA ?_; intro ⟨xA, xc⟩ hx1; dsimp only [rqP, pt, lca, lna]) | (refine KC ?_; refine HO_call rfl rfl rfl rfl (rnum0_t b xA xc) rfl (trivial) rfl rfl soA ?_; intro ⟨yA, yc⟩ hy1; dsimp only [rqP, pt, lca, lna]) | (refine KC ?_; refine HO_call rfl rfl rfl rfl (rbytesB_t b yA yc [] 0 (by simp) hy1) rfl (trivial) rfl rfl soA ?_; intro ⟨⟨zA, zc⟩, ⟨uA, uc⟩⟩ hz1; dsimp only [rqP, pt, lca, lna]) | refine SB ?_ | fail)
  (refine SRt ?_; unfold RetQ; refine ⟨o', (fun h => absurd h (by decide)), rfl, permA⟩)
 have hn8 := n.toNat_lt
 simp only [List.length_cons] at hll hlc
 by_cases hr : r.length < n.toNat
 ·have hz : R2 = 0 := by
   have h := congrArg Prod.snd hR
   rw [show (k :: n :: r : List UInt8).length = (n :: r).length + 1 from rfl, eachM_2 _ _ _ _ _ _ hr] at h
   exact h.symm.trans (cap_bad o' k.toNat)
  subst hz
  repeat' (first | refine SY ?_ | (refine KC ?_; refine HO_callq rfl rfl rfl rfl (rleftF_t _ _ _ _) (fun _ _ => rfl) (srcsA) rfl rfl sqA ?_) | (refine KC ?_; refine HO_call rfl rfl rfl rfl (rnum1_t b rA rc k (n :: r) (by simp; omega) (by simp; omega)) rfl (trivial) rfl rfl soA ?_; intro ⟨xA, xc⟩ hx1; dsimp only [rqP, pt, lca, lna]) | (refine KC ?_; refine HO_call rfl rfl rfl rfl (rnum1_t b xA xc n r (by omega) hx1) rfl (trivial) rfl rfl soA ?_; intro ⟨yA, yc⟩ hy1; dsimp only [rqP, pt, lca, lna]) | (refine KC ?_; refine HO_call rfl rfl rfl rfl (rbytesS_t b yA yc r n.toNat hr (by omega) hy1) rfl (trivial) rfl rfl soA ?_; intro ⟨⟨zA, zc⟩, ⟨uA, uc⟩⟩ hz1; dsimp only [rqP, pt, lca, lna]) | refine SB ?_ | fail)
  (refine SRt ?_; unfold RetQ; refine ⟨o', (fun h => absurd h (by decide)), rfl, permA⟩)
 have hstep : (0 ≤ (capM o' k.toNat (r.take n.toNat)).2 → capM o' k.toNat (r.take n.toNat) = (R1, R2)) ∧ (¬ 0 ≤ (capM o' k.toNat (r.take n.toNat)).2 → eachM capM (r.drop n.toNat).length (capM o' k.toNat (r.take n.toNat)).1 (r.drop n.toNat) = (R1, R2)) := by
  rw [show (k :: n :: r : List UInt8).length = (n :: r).length + 1 from rfl] at hR
  refine ⟨fun h => ?_, fun h => ?_⟩
  ·rw [eachM_3 _ _ _ _ _ _ hr h] at hR
   exact hR
  ·rw [eachM_4 _ _ _ _ _ _ hr h] at hR
   rw [eachM_fuel capM _ (n :: r).length _ _ (Nat.le_refl _) (by simp only [List.length_drop, List.length_cons]; omega)]
   exact hR
 clear hR
 have c3 := fun yA yc hy => rbytesL_t b yA yc r n.toNat (by omega) (by omega) hy
 have hld : (r.drop n.toNat).length ≤ r.length := by rw [List.length_drop]; omega
 obtain ⟨d, hd⟩ : ∃ d, r.take n.toNat = d := ⟨_, rfl⟩
 obtain ⟨q, hq⟩ : ∃ q, r.drop n.toNat = q := ⟨_, rfl⟩
 have hdl : d.length ≤ 255 := by rw [← hd, List.length_take]; omega
 rw [hd] at hstep
 rw [hq] at hstep hld
 rw [hd, hq] at c3
 have hrm := rem4 d.length
 have hkp : ∀ (zA : Option Addr) (zc : Nat), True := fun _ _ => trivial
 obtain ⟨V, hV⟩ : ∃ V, capM o' k.toNat d = V := ⟨_, rfl⟩
 rw [hV] at hstep
 unfold capM at hV
 by_cases h1 : k.toNat = 65 ∧ d.length = 4
 ·rw [if_pos h1] at hV
  subst hV
  have hnx := hstep.2 (show ¬ (0 : Int) ≤ -1 by decide)
  clear hstep
  have k1 : (k.toNat : Int) = 65 := by omega
  have k2 : (d.length : Int) = 4 := by omega
  repeat' (first | refine SY ?_ | (refine KC ?_; refine HO_callq rfl rfl rfl rfl (rleftF_t _ _ _ _) (fun _ _ => rfl) (srcsA) rfl rfl sqA ?_) | (refine KC ?_; refine HO_call rfl rfl rfl rfl (rnum1_t b rA rc k (n :: r) (by simp; omega) (by simp; omega)) rfl (trivial) rfl rfl soA ?_; intro ⟨xA, xc⟩ hx1; dsimp only [rqP, pt, lca, lna]) | (refine KC ?_; refine HO_call rfl rfl rfl rfl (rnum1_t b xA xc n r (by omega) hx1) rfl (trivial) rfl rfl soA ?_; intro ⟨yA, yc⟩ hy1; dsimp only [rqP, pt, lca, lna]) | (refine KC ?_; refine HO_call rfl rfl rfl rfl (c3 yA yc hy1) rfl (trivial) rfl rfl soA ?_; intro ⟨⟨zA, zc⟩, ⟨uA, uc⟩⟩ hz1; dsimp only [rqP, pt, lca, lna]) | (refine KC ?_; refine HO_callq rfl rfl rfl rfl (rget_t _ _ _ d rfl (by omega)) (fun _ _ => rfl) (AllSrc.via 0 rfl own_byte trivial) rfl rfl sqA ?_) | refine SB ?_ | fail)
  refine HX_keeps (rw' := rqP b uA uc false q ++ [opCel s ⟨((ge d : Nat) : Int), o'.hold, o'.id, true, o'.paths⟩]) permA ?_
  exact HX_at ⟨uA, uc, q, ⟨((ge d : Nat) : Int), o'.hold, o'.id, true, o'.paths⟩⟩ ⟨⟨by simp only; omega, hz1.2, hnx⟩, by simp only [List.length_cons]; omega⟩ ⟨rfl, rfl, trivial⟩ rfl
 rw [if_neg h1] at hV
 by_cases h2 : k.toNat = 69 ∧ d.length % 4 = 0
 ·rw [if_pos h2] at hV
  subst hV
  have hnx := hstep.2 (show ¬ (0 : Int) ≤ -1 by decide)
  clear hstep
  have k1 : ¬ (k.toNat : Int) = 65 := by omega
  have k2 : (k.toNat : Int) = 69 := by omega
  rw [h2.2] at hrm
  obtain ⟨F, hF⟩ : ∃ F, pathsM (d.length / 4) o'.paths d = F := ⟨_, rfl⟩
  rw [hF] at hnx
  repeat' (first | refine SY ?_ | (refine KC ?_; refine HO_callq rfl rfl rfl rfl (rleftF_t _ _ _ _) (fun _ _ => rfl) (srcsA) rfl rfl sqA ?_) | (refine KC ?_; refine HO_call rfl rfl rfl rfl (rnum1_t b rA rc k (n :: r) (by simp; omega) (by simp; omega)) rfl (trivial) rfl rfl soA ?_; intro ⟨xA, xc⟩ hx1; dsimp only [rqP, pt, lca, lna]) | (refine KC ?_; refine HO_call rfl rfl rfl rfl (rnum1_t b xA xc n r (by omega) hx1) rfl (trivial) rfl rfl soA ?_; intro ⟨yA, yc⟩ hy1; dsimp only [rqP, pt, lca, lna]) | (refine KC ?_; refine HO_call rfl rfl rfl rfl (c3 yA yc hy1) rfl (trivial) rfl rfl soA ?_; intro ⟨⟨zA, zc⟩, ⟨uA, uc⟩⟩ hz1; dsimp only [rqP, pt, lca, lna]) | refine SB ?_ | fail)
  refine HC_loop (α := Nat × Int) (fun x => 4 * x.1 ≤ d.length ∧ pathsM (d.length / 4 - x.1) x.2 (d.drop (4 * x.1)) = F) (fun x => [(7, .int .i64 (4 * x.1 : Nat)), (6, .slice zA d.length zc), (5, .int .i64 k.toNat), (0, pt s), (0 + 1, pt b)])
   (fun x => ownB (zA, zc) d :: (rqP b uA uc false q ++ [opCel s { o' with paths := x.2 }])) (fun x => d.length - 4 * x.1) rfl (0, o'.paths) ⟨by simp, by simpa using hF⟩ ⟨rfl, rfl, rfl, rfl, rfl, trivial⟩ rfl ?_
  rintro ⟨i, p⟩ ⟨hi, hp⟩
  dsimp only [rqP, opCel, pt, lca, lna] at hi hp ⊢
  obtain ⟨j, hj⟩ : ∃ j, 4 * i = j := ⟨_, rfl⟩
  rw [hj] at hi hp ⊢
  rcases Nat.lt_or_ge j d.length with hlt | hge
  ·obtain ⟨a, b1, b2, e, he, g0, g1, g2, g3⟩ := four_cons (d := d) (j := j) (by omega)
   have e1 : (j : Int) + 1 = ((j + 1 : Nat) : Int) := by omega
   have e2 : (j : Int) + 2 = ((j + 2 : Nat) : Int) := by omega
   have e3 : (j : Int) + 3 = ((j + 3 : Nat) : Int) := by omega
   have e4 : (j : Int) + 4 = ((4 * (i + 1) : Nat) : Int) := by omega
   have hm : d.length / 4 - i = (d.length / 4 - (i + 1)) + 1 := by omega
   rw [hm, he] at hp
   unfold pathsM at hp
   have h4j : 4 * (i + 1) = j + 4 := by omega
   rw [← h4j] at hp
   have ie : ∀ {x : UInt8} {m : Nat}, m < 256 → (x.toNat : Int) = (m : Nat) → x = UInt8.ofNat m := fun hm h => u8_eq.1 (by simpa [Nat.mod_eq_of_lt hm] using h)
   by_cases ha : (a.toNat : Int) = 0
   rotate_left
   ·rw [if_neg (fun h => ha (by rw [h.1]; rfl))] at hp
    repeat' (first | refine SY ?_ | (with_reducible refine HO_rw (congrArg (Value.int .i64) e4) ?_) | (with_reducible refine HO_rw (congrArg (Value.int .i64) e1) ?_) | refine SB ?_ | fail)
    exact HX_at (i + 1, p) ⟨⟨by simp only; omega, hp⟩, by simp only; omega⟩ ⟨rfl, rfl, rfl, rfl, rfl, trivial⟩ rfl
   by_cases hb : (b1.toNat : Int) = 1
   rotate_left
   ·rw [if_neg (fun h => hb (by rw [h.2.1]; rfl))] at hp
    repeat' (first | refine SY ?_ | (with_reducible refine HO_rw (congrArg (Value.int .i64) e4) ?_) | (with_reducible refine HO_rw (congrArg (Value.int .i64) e1) ?_) | refine SB ?_ | fail)
    exact HX_at (i + 1, p) ⟨⟨by simp only; omega, hp⟩, by simp only; omega⟩ ⟨rfl, rfl, rfl, rfl, rfl, trivial⟩ rfl
   by_cases hcz : (b2.toNat : Int) = 1
   rotate_left
   ·rw [if_neg (fun h => hcz (by rw [h.2.2.1]; rfl))] at hp
    repeat' (first | refine SY ?_ | (with_reducible refine HO_rw (congrArg (Value.int .i64) e4) ?_) | (with_reducible refine HO_rw (congrArg (Value.int .i64) e1) ?_) | (with_reducible refine HO_rw (congrArg (Value.int .i64) e2) ?_) | refine SB ?_ | fail)
    exact HX_at (i + 1, p) ⟨⟨by simp only; omega, hp⟩, by simp only; omega⟩ ⟨rfl, rfl, rfl, rfl, rfl, trivial⟩ rfl
   by_cases hd1 : (e.toNat : Int) ≥ 1
   rotate_left
   ·rw [if_neg (fun h => hd1 (by have := h.2.2.2.1; omega))] at hp
    repeat' (first | refine SY ?_ | (with_reducible refine HO_rw (congrArg (Value.int .i64) e4) ?_) | (with_reducible refine HO_rw (congrArg (Value.int .i64) e1) ?_) | (with_reducible refine HO_rw (congrArg (Value.int .i64) e2) ?_) | (with_reducible refine HO_rw (congrArg (Value.int .i64) e3) ?_) | refine SB ?_ | fail)
    exact HX_at (i + 1, p) ⟨⟨by simp only; omega, hp⟩, by simp only; omega⟩ ⟨rfl, rfl, rfl, rfl, rfl, trivial⟩ rfl
   by_cases hd3 : (e.toNat : Int) ≤ 3
   rotate_left
   ·rw [if_neg (fun h => hd3 (by have := h.2.2.2.2; omega))] at hp
    repeat' (first | refine SY ?_ | (with_reducible refine HO_rw (congrArg (Value.int .i64) e4) ?_) | (with_reducible refine HO_rw (congrArg (Value.int .i64) e1) ?_) | (with_reducible refine HO_rw (congrArg (Value.int .i64) e2) ?_) | (with_reducible refine HO_rw (congrArg (Value.int .i64) e3) ?_) | refine SB ?_ | fail)
    exact HX_at (i + 1, p) ⟨⟨by simp only; omega, hp⟩, by simp only; omega⟩ ⟨rfl, rfl, rfl, rfl, rfl, trivial⟩ rfl
   rw [if_pos ⟨ie (m := 0) (by decide) ha, ie (m := 1) (by decide) hb, ie (m := 1) (by decide) hcz, by omega, by omega⟩] at hp
   repeat' (first | refine SY ?_ | (with_reducible refine HO_rw (congrArg (Value.int .i64) e4) ?_) | (with_reducible refine HO_rw (congrArg (Value.int .i64) e1) ?_) | (with_reducible refine HO_rw (congrArg (Value.int .i64) e2) ?_) | (with_reducible refine HO_rw (congrArg (Value.int .i64) e3) ?_) | refine SB ?_ | fail)
   exact HX_at (i + 1, (e.toNat : Int)) ⟨⟨by simp only; omega, hp⟩, by simp only; omega⟩ ⟨rfl, rfl, rfl, rfl, rfl, trivial⟩ rfl
  obtain rfl : j = d.length := by omega
  rw [show d.length / 4 - i = 0 by omega] at hp
  unfold pathsM at hp
  rw [← hp] at hnx
  repeat' (first | refine SY ?_ | refine SB ?_ | fail)
  refine HX_keeps (rw' := rqP b uA uc false q ++ [opCel s { o' with paths := p }]) permA ?_
  exact HX_at ⟨uA, uc, q, { o' with paths := p }⟩ ⟨⟨by simp only; omega, hz1.2, hnx⟩, by simp only [List.length_cons]; omega⟩ ⟨rfl, rfl, trivial⟩ rfl
 rw [if_neg h2] at hV
 by_cases h3 : k.toNat = 65 ∨ k.toNat = 69
 ·rw [if_pos h3] at hV
  subst hV
  obtain ⟨rfl, rfl⟩ : o' = R1 ∧ 0 = R2 := Prod.mk.inj (hstep.1 (show (0 : Int) ≤ 0 by decide))
  clear hstep
  rcases h3 with h3 | h3
  ·have k1 : (k.toNat : Int) = 65 := by omega
   have k2 : ¬ (d.length : Int) = 4 := by omega
   repeat' (first | refine SY ?_ | (refine KC ?_; refine HO_callq rfl rfl rfl rfl (rleftF_t _ _ _ _) (fun _ _ => rfl) (srcsA) rfl rfl sqA ?_) | (refine KC ?_; refine HO_call rfl rfl rfl rfl (rnum1_t b rA rc k (n :: r) (by simp; omega) (by simp; omega)) rfl (trivial) rfl rfl soA ?_; intro ⟨xA, xc⟩ hx1; dsimp only [rqP, pt, lca, lna]) | (refine KC ?_; refine HO_call rfl rfl rfl rfl (rnum1_t b xA xc n r (by omega) hx1) rfl (trivial) rfl rfl soA ?_; intro ⟨yA, yc⟩ hy1; dsimp only [rqP, pt, lca, lna]) | (refine KC ?_; refine HO_call rfl rfl rfl rfl (c3 yA yc hy1) rfl (trivial) rfl rfl soA ?_; intro ⟨⟨zA, zc⟩, ⟨uA, uc⟩⟩ hz1; dsimp only [rqP, pt, lca, lna]) | refine SB ?_ | fail)
   (refine SRt ?_; unfold RetQ; refine ⟨o', (fun h => absurd h (by decide)), rfl, permA⟩)
  ·have k1 : ¬ (k.toNat : Int) = 65 := by omega
   have k2 : (k.toNat : Int) = 69 := by omega
   have k3 : ¬ (bRem (d.length : Int) 4 = 0) := by omega
   repeat' (first | refine SY ?_ | (refine KC ?_; refine HO_callq rfl rfl rfl rfl (rleftF_t _ _ _ _) (fun _ _ => rfl) (srcsA) rfl rfl sqA ?_) | (refine KC ?_; refine HO_call rfl rfl rfl rfl (rnum1_t b rA rc k (n :: r) (by simp; omega) (by simp; omega)) rfl (trivial) rfl rfl soA ?_; intro ⟨xA, xc⟩ hx1; dsimp only [rqP, pt, lca, lna]) | (refine KC ?_; refine HO_call rfl rfl rfl rfl (rnum1_t b xA xc n r (by omega) hx1) rfl (trivial) rfl rfl soA ?_; intro ⟨yA, yc⟩ hy1; dsimp only [rqP, pt, lca, lna]) | (refine KC ?_; refine HO_call rfl rfl rfl rfl (c3 yA yc hy1) rfl (trivial) rfl rfl soA ?_; intro ⟨⟨zA, zc⟩, ⟨uA, uc⟩⟩ hz1; dsimp only [rqP, pt, lca, lna]) | refine SB ?_ | fail)
   (refine SRt ?_; unfold RetQ; refine ⟨o', (fun h => absurd h (by decide)), rfl, permA⟩)
 ·rw [if_neg h3] at hV
  subst hV
  have hnx := hstep.2 (show ¬ (0 : Int) ≤ -1 by decide)
  clear hstep
  have k1 : ¬ (k.toNat : Int) = 65 := by omega
  have k2 : ¬ (k.toNat : Int) = 69 := by omega
  repeat' (first | refine SY ?_ | (refine KC ?_; refine HO_callq rfl rfl rfl rfl (rleftF_t _ _ _ _) (fun _ _ => rfl) (srcsA) rfl rfl sqA ?_) | (refine KC ?_; refine HO_call rfl rfl rfl rfl (rnum1_t b rA rc k (n :: r) (by simp; omega) (by simp; omega)) rfl (trivial) rfl rfl soA ?_; intro ⟨xA, xc⟩ hx1; dsimp only [rqP, pt, lca, lna]) | (refine KC ?_; refine HO_call rfl rfl rfl rfl (rnum1_t b xA xc n r (by omega) hx1) rfl (trivial) rfl rfl soA ?_; intro ⟨yA, yc⟩ hy1; dsimp only [rqP, pt, lca, lna]) | (refine KC ?_; refine HO_call rfl rfl rfl rfl (c3 yA yc hy1) rfl (trivial) rfl rfl soA ?_; intro ⟨⟨zA, zc⟩, ⟨uA, uc⟩⟩ hz1; dsimp only [rqP, pt, lca, lna]) | refine SB ?_ | fail)
  refine HX_keeps (rw' := rqP b uA uc false q ++ [opCel s o']) permA ?_
  exact HX_at ⟨uA, uc, q, o'⟩ ⟨⟨by simp only; omega, hz1.2, hnx⟩, by simp only [List.length_cons]; omega⟩ ⟨rfl, rfl, trivial⟩ rfl
def pgV : Option (Nat × Nat) → Value
 | none => .tuple #[pfV 0 0, .int .i64 0, .bool false]
 | some (a, q) => .tuple #[pfV a q, .int .i64 ((1 + (q + 7) / 8 : Nat)), .bool true]
theorem pad4 (t : List UInt8) (h : t.length ≤ 4) : (t ++ [0, 0, 0, 0]).take 4 = t ++ List.replicate (4 - t.length) 0 := by
 rw [List.take_append, List.take_of_length_le h]
 have hn : 4 - t.length = 0 ∨ 4 - t.length = 1 ∨ 4 - t.length = 2 ∨ 4 - t.length = 3 ∨ 4 - t.length = 4 := by omega
 rcases hn with e | e | e | e | e <;> rw [e] <;> rfl
theorem HC_knowH {P : Program} {N : Nat} {w0 : World} {S0 : Foot} {c : Code} {env : Env} {ro rw : List SL} {C : Prop} {Q : Exit → Act → World → Prop} (hC : ∀ w, RoOk (ro ++ rw) w → C) (h : C → HC P N w0 S0 c env ro rw Q) : HC P N w0 S0 c env ro rw Q := by
 unfold HC at h ⊢
 exact fun a S w ha hf => h (hC w hf.roOk) a S w ha hf
theorem rpget_t (A : Option Addr) (c : Nat) (l : List UInt8) (hb : l.length ≤ 1000000000) (hc : l.length ≤ c) :
  Tri Tryz.prog 198 [.slice A l.length c] [arr bE 1 A l] [] (fun _ : Unit => True) (fun _ => pgV (pfG l)) (fun _ => []) := by
 rcases l with _ | ⟨k, r⟩
 ·refine Tri_in Tryz.func198 rfl (fun w0 S0 => ?_)
  repeat' (first | refine SX ?_ | refine SB ?_ | (refine T2 ?_; intros) | fail)
  (refine SRt ?_; refine RU ?_)
  rfl
 have hk := k.toNat_lt
 simp only [List.length_cons] at hb hc
 have hkr : (k :: r).length = r.length + 1 := rfl
 by_cases h32 : 32 < k.toNat
 ·rw [show pfG (k :: r) = none from if_neg (fun h => by omega)]
  refine Tri_in Tryz.func198 rfl (fun w0 S0 => ?_)
  repeat' (first | refine SX ?_ | refine SB ?_ | (refine T2 ?_; intros) | fail)
  (refine SRt ?_; refine RU ?_)
  rfl
 have h8 := quo8 k.toNat (by omega)
 by_cases hsh : r.length < (k.toNat + 7) / 8
 ·rw [show pfG (k :: r) = none from if_neg (fun h => by omega)]
  refine Tri_in Tryz.func198 rfl (fun w0 S0 => ?_)
  repeat' (first | refine SX ?_ | (with_reducible refine HO_rw (congrArg (Value.int .i64) h8) ?_) | refine SB ?_ | (refine T2 ?_; intros) | fail)
  (refine SRt ?_; refine RU ?_)
  rfl
 rw [show pfG (k :: r) = some (topN (adG (r.take ((k.toNat + 7) / 8))) k.toNat, k.toNat) from if_pos ⟨by omega, by omega⟩]
 dsimp only [pgV, pfV]
 obtain ⟨s, hs0⟩ : ∃ s, (k.toNat + 7) / 8 = s := ⟨_, rfl⟩
 have hs4 : s ≤ 4 := by omega
 rw [hs0] at hsh h8 ⊢
 obtain ⟨t, ht⟩ : ∃ t, r.take s = t := ⟨_, rfl⟩
 have htl : t.length = s := by rw [← ht, List.length_take]; omega
 have ht4 : t.length ≤ 4 := by omega
 rw [ht]
 have hlt := adG_lt t ht4
 have h1s : (1 : Int) + ((s : Nat) : Int) = ((1 + s : Nat) : Int) := by omega
 have hg := fun B cc => rget_t B 4 cc ((t ++ [0, 0, 0, 0]).take 4) (by rw [pad4 t ht4]; simp; omega) (by rw [pad4 t ht4]; simp; omega)
 have hgv : ge ((t ++ [0, 0, 0, 0]).take 4) = adG t := by rw [pad4 t ht4]; rfl
 rw [hgv] at hg
 have hmk := rmake_t (adG t) hlt k.toNat
 rw [clN_nat _ (by omega)] at hmk
 dsimp only [pfV] at hmk
 refine Tri_in Tryz.func198 rfl (fun w0 S0 => ?_)
 repeat' (first | refine SX ?_ | (with_reducible refine HO_rw (congrArg (Value.int .i64) h8) ?_) | (with_reducible refine HO_rw (congrArg (Value.int .i64) h1s) ?_) | refine S1 ?_ | (refine T2 ?_; intros) | refine S5n ?_ | fail)
 have hq : (((1 + s : Nat) : Int)).toNat - Int.toNat 1 = t.length := by rw [htl]; omega
 rw [hq]
 refine HO_k 11 rfl ?_
 refine HO_app (k := 0) (k2 := 0) (l2 := t.map bE) rfl rfl rfl rfl rfl rfl rfl rfl ⟨_, rfl, fun _ S w h => arr_raw S w (by rw [← ht]; exact arr_cut c 1 s (fun e => by omega) S w h)⟩ (by simp) WfL.map rfl rfl (by simp; omega) (by simp; omega) rfl rfl rfl soA ?_
 intro A1 c1
 repeat' (first | refine SX ?_ | refine S1 ?_ | (refine T2 ?_; intros) | refine S5n ?_ | fail)
 rename_i b0 b1 b2 A2 c2
 have eM : [] ++ List.map bE t ++ [[Value.int .u8 0], [Value.int .u8 0], [Value.int .u8 0], [Value.int .u8 0]] = List.map bE (t ++ [0, 0, 0, 0]) := by rw [List.map_append]; rfl
 have eL : 0 + t.length + 4 = (t ++ [0, 0, 0, 0]).length := by rw [List.length_append]; simp
 rw [eM, eL]
 refine HC_knowH (C := (t ++ [0, 0, 0, 0]).length ≤ c2) (fun w h => own_cap 1 rfl h) (fun hc2 => ?_)
 rw [← eL] at hc2
 have h4c : 4 ≤ c2 := by omega
 repeat' (first | refine SX ?_ | (with_reducible refine HO_rw (congrArg (Value.int .i64) h1s) ?_) | (refine KC ?_; refine HO_callq rfl rfl rfl rfl (hg _ _) (fun _ _ => rfl) (AllSrc.via 1 rfl (fun S w h => arr_take 4 S w (own_e S w h)) trivial) rfl rfl sqA ?_) | (refine KC ?_; refine HO_callq rfl rfl rfl rfl (hmk) (fun _ _ => rfl) (trivial) rfl rfl sqA ?_) | refine SB ?_ | (refine T2 ?_; intros) | fail)
 (refine SRt ?_; refine RU ?_)
 rfl
end Go.Proofs.YteeogabkkblkgaaGreatDoor
