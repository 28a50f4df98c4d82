/- Part of a proof of many texts: what the theorem at its end leans on. -/
import Derived.Test.YteeogabkkblkgaaGreatDoorVRgA
import Derived.Test.YteeogabkkblkgaaGreatDoorVPgA
namespace Go.Proofs.YteeogabkkblkgaaGreatDoor
set_option maxHeartbeats 1000000000
set_option linter.unusedVariables false
set_option linter.unusedSimpArgs false
open Go.RowKit
attribute [local irreducible] HC HX HO Tri eP adr
theorem tri_up {g : Nat} {args : List Value} {R : Res} {dA : Option Addr} {dc : Nat} {C : OA → Prop} (h : TriS g args R.t (R.acts dA dc)) (hC : C (dA, dc)) :
  Tri Tryz.prog g args [] [] (fun x : OA × OA => C x.2) (fun x => outV R.t x.1.1 (R.acts x.2.1 x.2.2).length x.1.2) (fun x => [own idE 138 5 x.1.1 (R.acts x.2.1 x.2.2).length x.1.2 ((R.acts x.2.1 x.2.2).map ActS.e)]) :=
 Tri_map h (fun x => (x, (dA, dc))) (fun _ _ => hC) (fun _ _ => rfl) (fun _ _ => Keeps.refl)
theorem stopR_eq (s : Sta) : (stopR s).t = (if s.ph = 1 then s else idlS) ∧ (stopR s).acts none 0 = stopA s := by
 unfold stopR stopA
 split <;> exact ⟨rfl, rfl⟩
theorem fall9_eq (l : Loc) (s : Sta) (c n : Int) (dA : Option Addr) (dc : Nat) (d : List UInt8) : (fallR l s c n d).acts dA dc = endA s.ph l.retry c n dA d.length dc := by
 unfold fallR endD endA
 by_cases h : c = 0
 ·rw [h]; rfl
 ·rw [if_pos h]
set_option maxRecDepth 100000 in
theorem rst_no (l : Loc) (s : Sta) (e : EvS) (h : ¬ (locOk l.asn l.hold l.id l.paths l.retry l.four = true ∧ 1 ≤ s.ph ∧ s.ph ≤ 5)) :
  TriS 112 [.agg l.c.toArray, .agg s.c.toArray, .agg e.c.toArray] s [] := by
 have c0 := rcheck11_t l.asn l.hold l.id l.paths l.retry l.four
 rcases Bool.eq_false_or_eq_true (locOk l.asn l.hold l.id l.paths l.retry l.four) with hl | hl
 ·have hph : s.ph < 1 ∨ 5 < s.ph := by
   rcases Decidable.em (1 ≤ s.ph ∧ s.ph ≤ 5) with g | g
   ·exact absurd ⟨hl, g.1, g.2⟩ h
   ·omega
  rw [hl] at c0
  dsimp only [Sta.c, Loc.c, EvS.c] at c0 ⊢
  rcases hph with hph | hph
  ·refine Tri_in Tryz.func112 rfl (fun w0 S0 => ?_)
   repeat' (first | refine SK ?_ | refine SD ?_ | (refine KC ?_; refine HO_callq rfl rfl rfl rfl (c0) (fun _ _ => rfl) (trivial) rfl rfl sqA ?_) | refine SB ?_ | (refine S2 ?_; intro _) | fail)
   (refine SRt ?_; unfold RetQ; refine ⟨(none, 0), trivial, rfl, (Keeps.add (fun w => own_nil w) Keeps.nil)⟩)
  ·refine Tri_in Tryz.func112 rfl (fun w0 S0 => ?_)
   repeat' (first | refine SK ?_ | refine SD ?_ | (refine KC ?_; refine HO_callq rfl rfl rfl rfl (c0) (fun _ _ => rfl) (trivial) rfl rfl sqA ?_) | refine SB ?_ | (refine S2 ?_; intro _) | fail)
   (refine SRt ?_; unfold RetQ; refine ⟨(none, 0), trivial, rfl, (Keeps.add (fun w => own_nil w) Keeps.nil)⟩)
 ·rw [hl] at c0
  dsimp only [Sta.c, Loc.c, EvS.c] at c0 ⊢
  refine Tri_in Tryz.func112 rfl (fun w0 S0 => ?_)
  repeat' (first | refine SK ?_ | refine SD ?_ | (refine KC ?_; refine HO_callq rfl rfl rfl rfl (c0) (fun _ _ => rfl) (trivial) rfl rfl sqA ?_) | refine SB ?_ | (refine S2 ?_; intro _) | fail)
  (refine SRt ?_; unfold RetQ; refine ⟨(none, 0), trivial, rfl, (Keeps.add (fun w => own_nil w) Keeps.nil)⟩)
set_option maxRecDepth 100000 in
theorem rst_stop (l : Loc) (s : Sta) (e : EvS) (hl : locOk l.asn l.hold l.id l.paths l.retry l.four = true) (hp : 1 ≤ s.ph ∧ s.ph ≤ 5) (hk : e.kind = 2) :
  TriS 112 [.agg l.c.toArray, .agg s.c.toArray, .agg e.c.toArray] (if s.ph = 1 then s else idlS) (stopA s) := by
 have c0 := rcheck11_t l.asn l.hold l.id l.paths l.retry l.four
 rw [hl] at c0
 have c1 := rstop_t s hp.1
 dsimp only [Sta.c, Loc.c, EvS.c] at c0 c1 ⊢
 refine Tri_in Tryz.func112 rfl (fun w0 S0 => ?_)
 repeat' (first | refine SD ?_ | (refine KC ?_; refine HO_callq rfl rfl rfl rfl (c0) (fun _ _ => rfl) (trivial) rfl rfl sqA ?_) | (refine KC ?_; refine HO_call rfl rfl rfl rfl (c1) rfl (trivial) rfl rfl soA ?_; intro ⟨x1, x2⟩ hx; dsimp only [lca, lna]) | refine SB ?_ | (refine S2 ?_; intro _) | fail)
 (refine SRt ?_; unfold RetQ; refine ⟨(x1, x2), trivial, rfl, permA⟩)
set_option maxRecDepth 100000 in
theorem rst_below (l : Loc) (s : Sta) (e : EvS) (hl : locOk l.asn l.hold l.id l.paths l.retry l.four = true) (hp : 1 ≤ s.ph ∧ s.ph ≤ 5) (hk : e.kind ≠ 2) (hb : s.ph = 1 ∨ s.ph = 2) :
  TriS 112 [.agg l.c.toArray, .agg s.c.toArray, .agg e.c.toArray] (belowR l s e.kind).t ((belowR l s e.kind).acts none 0) := by
 have c0 := rcheck11_t l.asn l.hold l.id l.paths l.retry l.four
 rw [hl] at c0
 have c1 := rbelow_t l s e hb
 have hbz : s.ph < 3 := by omega
 dsimp only [Sta.c, Loc.c, EvS.c] at c0 c1 ⊢
 refine Tri_in Tryz.func112 rfl (fun w0 S0 => ?_)
 repeat' (first | refine SD ?_ | (refine KC ?_; refine HO_callq rfl rfl rfl rfl (c0) (fun _ _ => rfl) (trivial) rfl rfl sqA ?_) | (refine KC ?_; refine HO_call rfl rfl rfl rfl (c1) rfl (trivial) rfl rfl soA ?_; intro ⟨x1, x2⟩ hx; dsimp only [lca, lna]) | refine SB ?_ | (refine S2 ?_; intro _) | fail)
 (refine SRt ?_; unfold RetQ; refine ⟨(x1, x2), trivial, rfl, permA⟩)
set_option maxRecDepth 100000 in
theorem rst_5a (l : Loc) (s : Sta) (e : EvS) (hl : locOk l.asn l.hold l.id l.paths l.retry l.four = true) (hp : 1 ≤ s.ph ∧ s.ph ≤ 5) (h3 : s.ph = 3) (hk : e.kind = 5) :
  TriS 112 [.agg l.c.toArray, .agg s.c.toArray, .agg e.c.toArray] (openedR l s e.oas e.ohold e.oid e.opaths e.ofour).t ((openedR l s e.oas e.ohold e.oid e.opaths e.ofour).acts none 0) := by
 have c0 := rcheck11_t l.asn l.hold l.id l.paths l.retry l.four
 rw [hl] at c0
 have hpa : 0 ≤ l.paths ∧ l.paths ≤ 3 := by
  simp [locOk, openOk] at hl
  omega
 have c1 := ropened_t l s e.oas e.ohold e.oid e.opaths e.ofour h3 hpa
 dsimp only [Sta.c, Loc.c, EvS.c] at c0 c1 ⊢
 refine Tri_in Tryz.func112 rfl (fun w0 S0 => ?_)
 repeat' (first | refine SD ?_ | (refine KC ?_; refine HO_callq rfl rfl rfl rfl (c0) (fun _ _ => rfl) (trivial) rfl rfl sqA ?_) | (refine KC ?_; refine HO_call rfl rfl rfl rfl (c1) rfl (trivial) rfl rfl soA ?_; intro ⟨x1, x2⟩ hx; dsimp only [lca, lna]) | (refine KC ?_; refine HO_callq rfl rfl rfl rfl (ract_t _ _) (fun _ _ => rfl) (trivial) rfl rfl sqA ?_) | refine SB ?_ | (refine S2 ?_; intro _) | fail)
 (refine SRt ?_; unfold RetQ; refine ⟨(x1, x2), trivial, rfl, permA⟩)
set_option maxRecDepth 100000 in
theorem rst_5b (l : Loc) (s : Sta) (e : EvS) (hl : locOk l.asn l.hold l.id l.paths l.retry l.four = true) (hp : 1 ≤ s.ph ∧ s.ph ≤ 5) (h3 : ¬ s.ph < 3) (h4 : s.ph ≠ 3) (hk : e.kind = 5) :
  TriS 112 [.agg l.c.toArray, .agg s.c.toArray, .agg e.c.toArray] conS (endA s.ph l.retry (5) (s.ph - 2) none 0 0) := by
 have c0 := rcheck11_t l.asn l.hold l.id l.paths l.retry l.four
 rw [hl] at c0
 have c1 := rfall_t l s (5) (s.ph - 2)
 dsimp only [Sta.c, Loc.c, EvS.c] at c0 c1 ⊢
 refine Tri_in Tryz.func112 rfl (fun w0 S0 => ?_)
 repeat' (first | refine SX ?_ | (refine KC ?_; refine HO_callq rfl rfl rfl rfl (c0) (fun _ _ => rfl) (trivial) rfl rfl sqA ?_) | (refine KC ?_; refine HO_call rfl rfl rfl rfl (c1) rfl (trivial) rfl rfl soA ?_; intro ⟨x1, x2⟩ hx; dsimp only [lca, lna]) | (refine KC ?_; refine HO_callq rfl rfl rfl rfl (ract_t _ _) (fun _ _ => rfl) (trivial) rfl rfl sqA ?_) | refine SB ?_ | (refine S2 ?_; intro _) | fail)
 (refine SRt ?_; unfold RetQ; refine ⟨(x1, x2), trivial, rfl, permA⟩)
set_option maxRecDepth 100000 in
theorem rst_6x (l : Loc) (s : Sta) (e : EvS) (hl : locOk l.asn l.hold l.id l.paths l.retry l.four = true) (hp : 1 ≤ s.ph ∧ s.ph ≤ 5) (h3 : ¬ s.ph < 3) (h4 : s.ph ≠ 5) (h5 : ¬ (s.ph = 4 ∧ e.kind = 6)) (hk : e.kind = 6 ∨ e.kind = 7) :
  TriS 112 [.agg l.c.toArray, .agg s.c.toArray, .agg e.c.toArray] conS (endA s.ph l.retry (5) (s.ph - 2) none 0 0) := by
 rcases hk with hk | hk
 ·have h6 : s.ph ≠ 4 := fun g => h5 ⟨g, hk⟩
  have c0 := rcheck11_t l.asn l.hold l.id l.paths l.retry l.four
  rw [hl] at c0
  have c1 := rfall_t l s (5) (s.ph - 2)
  dsimp only [Sta.c, Loc.c, EvS.c] at c0 c1 ⊢
  refine Tri_in Tryz.func112 rfl (fun w0 S0 => ?_)
  repeat' (first | refine SY ?_ | (refine KC ?_; refine HO_callq rfl rfl rfl rfl (c0) (fun _ _ => rfl) (trivial) rfl rfl sqA ?_) | (refine KC ?_; refine HO_call rfl rfl rfl rfl (c1) rfl (trivial) rfl rfl soA ?_; intro ⟨x1, x2⟩ hx; dsimp only [lca, lna]) | (refine KC ?_; refine HO_callq rfl rfl rfl rfl (ract_t _ _) (fun _ _ => rfl) (trivial) rfl rfl sqA ?_) | refine SB ?_ | (refine S2 ?_; intro _) | fail)
  (refine SRt ?_; unfold RetQ; refine ⟨(x1, x2), trivial, rfl, permA⟩)
 ·rcases Decidable.em (s.ph = 4) with h6 | h6
  ·have c0 := rcheck11_t l.asn l.hold l.id l.paths l.retry l.four
   rw [hl] at c0
   have c1 := rfall_t l s (5) (s.ph - 2)
   dsimp only [Sta.c, Loc.c, EvS.c] at c0 c1 ⊢
   refine Tri_in Tryz.func112 rfl (fun w0 S0 => ?_)
   repeat' (first | refine SY ?_ | (refine KC ?_; refine HO_callq rfl rfl rfl rfl (c0) (fun _ _ => rfl) (trivial) rfl rfl sqA ?_) | (refine KC ?_; refine HO_call rfl rfl rfl rfl (c1) rfl (trivial) rfl rfl soA ?_; intro ⟨x1, x2⟩ hx; dsimp only [lca, lna]) | (refine KC ?_; refine HO_callq rfl rfl rfl rfl (ract_t _ _) (fun _ _ => rfl) (trivial) rfl rfl sqA ?_) | refine SB ?_ | (refine S2 ?_; intro _) | fail)
   (refine SRt ?_; unfold RetQ; refine ⟨(x1, x2), trivial, rfl, permA⟩)
  ·have c0 := rcheck11_t l.asn l.hold l.id l.paths l.retry l.four
   rw [hl] at c0
   have c1 := rfall_t l s (5) (s.ph - 2)
   dsimp only [Sta.c, Loc.c, EvS.c] at c0 c1 ⊢
   refine Tri_in Tryz.func112 rfl (fun w0 S0 => ?_)
   repeat' (first | refine SY ?_ | (refine KC ?_; refine HO_callq rfl rfl rfl rfl (c0) (fun _ _ => rfl) (trivial) rfl rfl sqA ?_) | (refine KC ?_; refine HO_call rfl rfl rfl rfl (c1) rfl (trivial) rfl rfl soA ?_; intro ⟨x1, x2⟩ hx; dsimp only [lca, lna]) | (refine KC ?_; refine HO_callq rfl rfl rfl rfl (ract_t _ _) (fun _ _ => rfl) (trivial) rfl rfl sqA ?_) | refine SB ?_ | (refine S2 ?_; intro _) | fail)
   (refine SRt ?_; unfold RetQ; refine ⟨(x1, x2), trivial, rfl, permA⟩)
set_option maxRecDepth 100000 in
theorem rst_10 (l : Loc) (s : Sta) (e : EvS) (hl : locOk l.asn l.hold l.id l.paths l.retry l.four = true) (hp : 1 ≤ s.ph ∧ s.ph ≤ 5) (h3 : ¬ s.ph < 3) (hk : e.kind = 10) :
  TriS 112 [.agg l.c.toArray, .agg s.c.toArray, .agg e.c.toArray] conS (endA s.ph l.retry (4) (0) none 0 0) := by
 have c0 := rcheck11_t l.asn l.hold l.id l.paths l.retry l.four
 rw [hl] at c0
 have c1 := rfall_t l s (4) (0)
 dsimp only [Sta.c, Loc.c, EvS.c] at c0 c1 ⊢
 refine Tri_in Tryz.func112 rfl (fun w0 S0 => ?_)
 repeat' (first | refine SD ?_ | (refine KC ?_; refine HO_callq rfl rfl rfl rfl (c0) (fun _ _ => rfl) (trivial) rfl rfl sqA ?_) | (refine KC ?_; refine HO_call rfl rfl rfl rfl (c1) rfl (trivial) rfl rfl soA ?_; intro ⟨x1, x2⟩ hx; dsimp only [lca, lna]) | (refine KC ?_; refine HO_callq rfl rfl rfl rfl (ract_t _ _) (fun _ _ => rfl) (trivial) rfl rfl sqA ?_) | refine SB ?_ | (refine S2 ?_; intro _) | fail)
 (refine SRt ?_; unfold RetQ; refine ⟨(x1, x2), trivial, rfl, permA⟩)
set_option maxRecDepth 100000 in
theorem rst_48 (l : Loc) (s : Sta) (e : EvS) (hl : locOk l.asn l.hold l.id l.paths l.retry l.four = true) (hp : 1 ≤ s.ph ∧ s.ph ≤ 5) (h3 : ¬ s.ph < 3) (hk : e.kind = 4 ∨ e.kind = 8) :
  TriS 112 [.agg l.c.toArray, .agg s.c.toArray, .agg e.c.toArray] conS (endA s.ph l.retry (0) (0) none 0 0) := by
 rcases hk with hk | hk
 ·have c0 := rcheck11_t l.asn l.hold l.id l.paths l.retry l.four
  rw [hl] at c0
  have c1 := rfall_t l s (0) (0)
  dsimp only [Sta.c, Loc.c, EvS.c] at c0 c1 ⊢
  refine Tri_in Tryz.func112 rfl (fun w0 S0 => ?_)
  repeat' (first | refine SD ?_ | (refine KC ?_; refine HO_callq rfl rfl rfl rfl (c0) (fun _ _ => rfl) (trivial) rfl rfl sqA ?_) | (refine KC ?_; refine HO_call rfl rfl rfl rfl (c1) rfl (trivial) rfl rfl soA ?_; intro ⟨x1, x2⟩ hx; dsimp only [lca, lna]) | (refine KC ?_; refine HO_callq rfl rfl rfl rfl (ract_t _ _) (fun _ _ => rfl) (trivial) rfl rfl sqA ?_) | refine SB ?_ | (refine S2 ?_; intro _) | fail)
  (refine SRt ?_; unfold RetQ; refine ⟨(x1, x2), trivial, rfl, permA⟩)
 ·have c0 := rcheck11_t l.asn l.hold l.id l.paths l.retry l.four
  rw [hl] at c0
  have c1 := rfall_t l s (0) (0)
  dsimp only [Sta.c, Loc.c, EvS.c] at c0 c1 ⊢
  refine Tri_in Tryz.func112 rfl (fun w0 S0 => ?_)
  repeat' (first | refine SD ?_ | (refine KC ?_; refine HO_callq rfl rfl rfl rfl (c0) (fun _ _ => rfl) (trivial) rfl rfl sqA ?_) | (refine KC ?_; refine HO_call rfl rfl rfl rfl (c1) rfl (trivial) rfl rfl soA ?_; intro ⟨x1, x2⟩ hx; dsimp only [lca, lna]) | (refine KC ?_; refine HO_callq rfl rfl rfl rfl (ract_t _ _) (fun _ _ => rfl) (trivial) rfl rfl sqA ?_) | refine SB ?_ | (refine S2 ?_; intro _) | fail)
  (refine SRt ?_; unfold RetQ; refine ⟨(x1, x2), trivial, rfl, permA⟩)
set_option maxRecDepth 100000 in
theorem rst_6a (l : Loc) (s : Sta) (e : EvS) (hl : locOk l.asn l.hold l.id l.paths l.retry l.four = true) (hp : 1 ≤ s.ph ∧ s.ph ≤ 5) (h3 : s.ph = 5) (hk : e.kind = 6 ∨ e.kind = 7) :
  TriS 112 [.agg l.c.toArray, .agg s.c.toArray, .agg e.c.toArray] s [act0 6 s.hold] := by
 have c0 := rcheck11_t l.asn l.hold l.id l.paths l.retry l.four
 rw [hl] at c0
 dsimp only [Sta.c, Loc.c, EvS.c] at c0 ⊢
 rcases hk with hk | hk
 ·refine Tri_in Tryz.func112 rfl (fun w0 S0 => ?_)
  repeat' (first | refine SD ?_ | (refine KC ?_; refine HO_callq rfl rfl rfl rfl (c0) (fun _ _ => rfl) (trivial) rfl rfl sqA ?_) | (refine KC ?_; refine HO_callq rfl rfl rfl rfl (ract_t _ _) (fun _ _ => rfl) (trivial) rfl rfl sqA ?_) | (refine HO_2p 2 3 (by decide +kernel) rfl rfl (by decide +kernel) ?_ ?_) | refine SB ?_ | (refine S2 ?_; intro _) | fail)
  all_goals rename_i bn
  all_goals (refine SRt ?_; unfold RetQ; refine ⟨(some ⟨bn, 0, none⟩, 1), trivial, rfl, permA⟩)
 ·refine Tri_in Tryz.func112 rfl (fun w0 S0 => ?_)
  repeat' (first | refine SD ?_ | (refine KC ?_; refine HO_callq rfl rfl rfl rfl (c0) (fun _ _ => rfl) (trivial) rfl rfl sqA ?_) | (refine KC ?_; refine HO_callq rfl rfl rfl rfl (ract_t _ _) (fun _ _ => rfl) (trivial) rfl rfl sqA ?_) | (refine HO_2p 2 3 (by decide +kernel) rfl rfl (by decide +kernel) ?_ ?_) | refine SB ?_ | (refine S2 ?_; intro _) | fail)
  all_goals rename_i bn
  all_goals (refine SRt ?_; unfold RetQ; refine ⟨(some ⟨bn, 0, none⟩, 1), trivial, rfl, permA⟩)
set_option maxRecDepth 100000 in
theorem rst_6b (l : Loc) (s : Sta) (e : EvS) (hl : locOk l.asn l.hold l.id l.paths l.retry l.four = true) (hp : 1 ≤ s.ph ∧ s.ph ≤ 5) (h3 : s.ph = 4) (hk : e.kind = 6) :
  TriS 112 [.agg l.c.toArray, .agg s.c.toArray, .agg e.c.toArray] { s with ph := 5 } ([act0 6 s.hold, act0 9 0]) := by
 have c0 := rcheck11_t l.asn l.hold l.id l.paths l.retry l.four
 rw [hl] at c0
 dsimp only [Sta.c, Loc.c, EvS.c] at c0 ⊢
 refine Tri_in Tryz.func112 rfl (fun w0 S0 => ?_)
 repeat' (first | refine SD ?_ | (refine KC ?_; refine HO_callq rfl rfl rfl rfl (c0) (fun _ _ => rfl) (trivial) rfl rfl sqA ?_) | (refine KC ?_; refine HO_callq rfl rfl rfl rfl (ract_t _ _) (fun _ _ => rfl) (trivial) rfl rfl sqA ?_) | (refine HO_2p 3 4 (by decide +kernel) rfl rfl (by decide +kernel) ?_ ?_) | refine SB ?_ | (refine S2 ?_; intro _) | fail)
 all_goals rename_i bn
 all_goals (refine SRt ?_; unfold RetQ; refine ⟨(some ⟨bn, 0, none⟩, 2), trivial, rfl, permA⟩)
set_option maxRecDepth 100000 in
theorem rst_11a (l : Loc) (s : Sta) (e : EvS) (hl : locOk l.asn l.hold l.id l.paths l.retry l.four = true) (hp : 1 ≤ s.ph ∧ s.ph ≤ 5) (h3 : s.ph = 3) (hk : e.kind = 11) :
  TriS 112 [.agg l.c.toArray, .agg s.c.toArray, .agg e.c.toArray] s ([]) := by
 have c0 := rcheck11_t l.asn l.hold l.id l.paths l.retry l.four
 rw [hl] at c0
 dsimp only [Sta.c, Loc.c, EvS.c] at c0 ⊢
 refine Tri_in Tryz.func112 rfl (fun w0 S0 => ?_)
 repeat' (first | refine SK ?_ | refine SD ?_ | (refine KC ?_; refine HO_callq rfl rfl rfl rfl (c0) (fun _ _ => rfl) (trivial) rfl rfl sqA ?_) | (refine KC ?_; refine HO_callq rfl rfl rfl rfl (ract_t _ _) (fun _ _ => rfl) (trivial) rfl rfl sqA ?_) | refine SB ?_ | (refine S2 ?_; intro _) | fail)
 (refine SRt ?_; unfold RetQ; refine ⟨(none, 0), trivial, rfl, (Keeps.add (fun w => own_nil w) Keeps.nil)⟩)
set_option maxRecDepth 100000 in
theorem rst_11b (l : Loc) (s : Sta) (e : EvS) (hl : locOk l.asn l.hold l.id l.paths l.retry l.four = true) (hp : 1 ≤ s.ph ∧ s.ph ≤ 5) (h3 : ¬ s.ph < 3) (h4 : s.ph ≠ 3) (h5 : s.hold = 0) (hk : e.kind = 11) :
  TriS 112 [.agg l.c.toArray, .agg s.c.toArray, .agg e.c.toArray] s ([]) := by
 have c0 := rcheck11_t l.asn l.hold l.id l.paths l.retry l.four
 rw [hl] at c0
 dsimp only [Sta.c, Loc.c, EvS.c] at c0 ⊢
 refine Tri_in Tryz.func112 rfl (fun w0 S0 => ?_)
 repeat' (first | refine SD ?_ | (refine KC ?_; refine HO_callq rfl rfl rfl rfl (c0) (fun _ _ => rfl) (trivial) rfl rfl sqA ?_) | (refine KC ?_; refine HO_callq rfl rfl rfl rfl (ract_t _ _) (fun _ _ => rfl) (trivial) rfl rfl sqA ?_) | refine SB ?_ | (refine S2 ?_; intro _) | fail)
 (refine SRt ?_; unfold RetQ; refine ⟨(none, 0), trivial, rfl, (Keeps.add (fun w => own_nil w) Keeps.nil)⟩)
set_option maxRecDepth 100000 in
theorem rst_11c (l : Loc) (s : Sta) (e : EvS) (hl : locOk l.asn l.hold l.id l.paths l.retry l.four = true) (hp : 1 ≤ s.ph ∧ s.ph ≤ 5) (h3 : ¬ s.ph < 3) (h4 : s.ph ≠ 3) (h5 : s.hold ≠ 0) (hk : e.kind = 11) :
  TriS 112 [.agg l.c.toArray, .agg s.c.toArray, .agg e.c.toArray] s ([act0 3 0, act0 7 (bQuo .i64 s.hold 3)]) := by
 have c0 := rcheck11_t l.asn l.hold l.id l.paths l.retry l.four
 rw [hl] at c0
 dsimp only [Sta.c, Loc.c, EvS.c] at c0 ⊢
 refine Tri_in Tryz.func112 rfl (fun w0 S0 => ?_)
 repeat' (first | refine SD ?_ | (refine KC ?_; refine HO_callq rfl rfl rfl rfl (c0) (fun _ _ => rfl) (trivial) rfl rfl sqA ?_) | (refine KC ?_; refine HO_callq rfl rfl rfl rfl (ract_t _ _) (fun _ _ => rfl) (trivial) rfl rfl sqA ?_) | (refine HO_2p 6 7 (by decide +kernel) rfl rfl (by decide +kernel) ?_ ?_) | refine SB ?_ | (refine S2 ?_; intro _) | fail)
 all_goals rename_i bn
 all_goals (refine SRt ?_; unfold RetQ; refine ⟨(some ⟨bn, 0, none⟩, 2), trivial, rfl, permA⟩)
set_option maxRecDepth 100000 in
theorem rst_9 (l : Loc) (s : Sta) (e : EvS) (hl : locOk l.asn l.hold l.id l.paths l.retry l.four = true) (hp : 1 ≤ s.ph ∧ s.ph ≤ 5) (h3 : ¬ s.ph < 3) (hk : e.kind = 9) :
  TriS 112 [.agg l.c.toArray, .agg s.c.toArray, .agg e.c.toArray] conS (endA s.ph l.retry e.nc e.ns e.dA e.data.length e.dc) := by
 have c0 := rcheck11_t l.asn l.hold l.id l.paths l.retry l.four
 rw [hl] at c0
 have c1 := rend_t s e.nc e.ns l.retry e.dA e.data.length e.dc
 dsimp only [Sta.c, Loc.c, EvS.c] at c0 c1 ⊢
 refine Tri_in Tryz.func112 rfl (fun w0 S0 => ?_)
 repeat' (first | refine SD ?_ | (refine KC ?_; refine HO_callq rfl rfl rfl rfl (c0) (fun _ _ => rfl) (trivial) rfl rfl sqA ?_) | (refine KC ?_; refine HO_call rfl rfl rfl rfl (c1) rfl (trivial) rfl rfl soA ?_; intro ⟨x1, x2⟩ hx; dsimp only [lca, lna]) | (refine KC ?_; refine HO_callq rfl rfl rfl rfl (ract_t _ _) (fun _ _ => rfl) (trivial) rfl rfl sqA ?_) | refine SB ?_ | (refine S2 ?_; intro _) | fail)
 (refine SRt ?_; unfold RetQ; refine ⟨(x1, x2), trivial, rfl, permA⟩)
set_option maxRecDepth 100000 in
theorem rst_e (l : Loc) (s : Sta) (e : EvS) (hl : locOk l.asn l.hold l.id l.paths l.retry l.four = true) (hp : 1 ≤ s.ph ∧ s.ph ≤ 5) (h3 : ¬ s.ph < 3) (k2 : e.kind ≠ 2) (k5 : e.kind ≠ 5) (k6 : ¬ (e.kind = 6 ∨ e.kind = 7)) (k11 : e.kind ≠ 11) (k10 : e.kind ≠ 10) (k48 : ¬ (e.kind = 4 ∨ e.kind = 8)) (k9 : e.kind ≠ 9) :
  TriS 112 [.agg l.c.toArray, .agg s.c.toArray, .agg e.c.toArray] s ([]) := by
 have c0 := rcheck11_t l.asn l.hold l.id l.paths l.retry l.four
 rw [hl] at c0
 obtain ⟨k6, k7⟩ : e.kind ≠ 6 ∧ e.kind ≠ 7 := by omega
 obtain ⟨k4, k8⟩ : e.kind ≠ 4 ∧ e.kind ≠ 8 := by omega
 dsimp only [Sta.c, Loc.c, EvS.c] at c0 ⊢
 refine Tri_in Tryz.func112 rfl (fun w0 S0 => ?_)
 repeat' (first | refine SD ?_ | (refine KC ?_; refine HO_callq rfl rfl rfl rfl (c0) (fun _ _ => rfl) (trivial) rfl rfl sqA ?_) | (refine KC ?_; refine HO_callq rfl rfl rfl rfl (ract_t _ _) (fun _ _ => rfl) (trivial) rfl rfl sqA ?_) | refine SB ?_ | (refine S2 ?_; intro _) | fail)
 (refine SRt ?_; unfold RetQ; refine ⟨(none, 0), trivial, rfl, (Keeps.add (fun w => own_nil w) Keeps.nil)⟩)
theorem rstep_t (l : Loc) (s : Sta) (e : EvS) : Tri Tryz.prog 112 [.agg l.c.toArray, .agg s.c.toArray, .agg e.c.toArray] [] []
  (fun x : OA × OA => (stepR l s e).data = [] ∨ x.2 = (e.dA, e.dc)) (fun x => outV (stepR l s e).t x.1.1 ((stepR l s e).acts x.2.1 x.2.2).length x.1.2)
  (fun x => [own idE 138 5 x.1.1 ((stepR l s e).acts x.2.1 x.2.2).length x.1.2 (((stepR l s e).acts x.2.1 x.2.2).map ActS.e)]) := by
 by_cases hlp : locOk l.asn l.hold l.id l.paths l.retry l.four = true ∧ 1 ≤ s.ph ∧ s.ph ≤ 5
 case neg =>
  rw [show stepR l s e = stayR s [] from if_neg hlp]
  exact tri_up (R := stayR s []) (dA := none) (dc := 0) (C := fun y => ([] : List UInt8) = [] ∨ y = (e.dA, e.dc)) (rst_no l s e hlp) (.inl rfl)
 obtain ⟨hl, hp⟩ := hlp
 have h0 : stepR l s e = (if e.kind = 2 then stopR s else if s.ph = 1 then (if e.kind = 1 then connectR l else stayR s []) else if s.ph = 2 then waitingR l s e.kind else talkingR l s e) := if_pos ⟨hl, hp⟩
 by_cases k2 : e.kind = 2
 ·rw [h0, if_pos k2]
  have hs := stopR_eq s
  refine tri_up (R := stopR s) (dA := none) (dc := 0) (C := fun y => (stopR s).data = [] ∨ y = (e.dA, e.dc)) ?_ (.inl ?_)
  ·rw [hs.1, hs.2]
   exact rst_stop l s e hl hp k2
  ·unfold stopR
   split <;> rfl
 rw [if_neg k2] at h0
 by_cases hb : s.ph = 1 ∨ s.ph = 2
 ·have h1 : stepR l s e = belowR l s e.kind := by
   rw [h0]
   unfold belowR
   split
   ·rfl
   ·rw [if_pos (by omega)]
  rw [h1]
  refine tri_up (R := belowR l s e.kind) (dA := none) (dc := 0) (C := fun y => (belowR l s e.kind).data = [] ∨ y = (e.dA, e.dc)) (rst_below l s e hl hp k2 hb) (.inl ?_)
  unfold belowR waitingR
  repeat' split
  all_goals rfl
 have h3 : ¬ s.ph < 3 := by omega
 rw [if_neg (by omega), if_neg (by omega)] at h0
 rw [h0]
 have h6 : 0 ≤ l.paths ∧ l.paths ≤ 3 := by
  simp [locOk, openOk] at hl
  omega
 unfold talkingR
 by_cases k5 : e.kind = 5
 ·rw [if_pos k5]
  by_cases g3 : s.ph = 3
  ·refine tri_up (R := openedR l s e.oas e.ohold e.oid e.opaths e.ofour) (dA := none) (dc := 0) (C := fun y => (openedR l s e.oas e.ohold e.oid e.opaths e.ofour).data = [] ∨ y = (e.dA, e.dc)) (rst_5a l s e hl hp g3 k5) (.inl ?_)
   unfold openedR
   rw [if_neg (by omega)]
   repeat' split
   all_goals rfl
  ·rw [show openedR l s e.oas e.ohold e.oid e.opaths e.ofour = fallR l s 5 (s.ph - 2) [] from if_pos g3]
   exact tri_up (R := fallR l s 5 (s.ph - 2) []) (dA := none) (dc := 0) (C := fun y => ([] : List UInt8) = [] ∨ y = (e.dA, e.dc)) (rst_5b l s e hl hp h3 g3 k5) (.inl rfl)
 rw [if_neg k5]
 by_cases k6 : e.kind = 6 ∨ e.kind = 7
 ·rw [if_pos k6]
  unfold heardR
  by_cases g5 : s.ph = 5
  ·rw [if_pos g5]
   exact tri_up (R := stayR s [act0 6 s.hold]) (dA := none) (dc := 0) (C := fun y => ([] : List UInt8) = [] ∨ y = (e.dA, e.dc)) (rst_6a l s e hl hp g5 k6) (.inl rfl)
  rw [if_neg g5]
  by_cases g4 : s.ph = 4 ∧ e.kind = 6
  ·rw [if_pos g4]
   exact tri_up (R := stayR { s with ph := 5 } [act0 6 s.hold, act0 9 0]) (dA := none) (dc := 0) (C := fun y => ([] : List UInt8) = [] ∨ y = (e.dA, e.dc)) (rst_6b l s e hl hp g4.1 g4.2) (.inl rfl)
  ·rw [if_neg g4]
   exact tri_up (R := fallR l s 5 (s.ph - 2) []) (dA := none) (dc := 0) (C := fun y => ([] : List UInt8) = [] ∨ y = (e.dA, e.dc)) (rst_6x l s e hl hp h3 g5 g4 k6) (.inl rfl)
 rw [if_neg k6]
 by_cases k11 : e.kind = 11
 ·rw [if_pos k11]
  unfold beatR
  by_cases g3 : s.ph = 3
  ·rw [if_pos (.inl g3)]
   exact tri_up (R := stayR s []) (dA := none) (dc := 0) (C := fun y => ([] : List UInt8) = [] ∨ y = (e.dA, e.dc)) (rst_11a l s e hl hp g3 k11) (.inl rfl)
  by_cases gh : s.hold = 0
  ·rw [if_pos (.inr gh)]
   exact tri_up (R := stayR s []) (dA := none) (dc := 0) (C := fun y => ([] : List UInt8) = [] ∨ y = (e.dA, e.dc)) (rst_11b l s e hl hp h3 g3 gh k11) (.inl rfl)
  ·rw [if_neg (fun g => g.elim g3 gh)]
   exact tri_up (R := stayR s [act0 3 0, act0 7 (bQuo .i64 s.hold 3)]) (dA := none) (dc := 0) (C := fun y => ([] : List UInt8) = [] ∨ y = (e.dA, e.dc)) (rst_11c l s e hl hp h3 g3 gh k11) (.inl rfl)
 rw [if_neg k11]
 by_cases k10 : e.kind = 10
 ·rw [if_pos k10]
  exact tri_up (R := fallR l s 4 0 []) (dA := none) (dc := 0) (C := fun y => ([] : List UInt8) = [] ∨ y = (e.dA, e.dc)) (rst_10 l s e hl hp h3 k10) (.inl rfl)
 rw [if_neg k10]
 by_cases k48 : e.kind = 4 ∨ e.kind = 8
 ·rw [if_pos k48]
  exact tri_up (R := fallR l s 0 0 []) (dA := none) (dc := 0) (C := fun y => ([] : List UInt8) = [] ∨ y = (e.dA, e.dc)) (rst_48 l s e hl hp h3 k48) (.inl rfl)
 rw [if_neg k48]
 by_cases k9 : e.kind = 9
 ·rw [if_pos k9]
  refine tri_up (R := fallR l s e.nc e.ns e.data) (dA := e.dA) (dc := e.dc) (C := fun y => (fallR l s e.nc e.ns e.data).data = [] ∨ y = (e.dA, e.dc)) ?_ (.inr rfl)
  rw [fall9_eq]
  exact rst_9 l s e hl hp h3 k9
 ·rw [if_neg k9]
  exact tri_up (R := stayR s []) (dA := none) (dc := 0) (C := fun y => ([] : List UInt8) = [] ∨ y = (e.dA, e.dc)) (rst_e l s e hl hp h3 k2 k5 k6 k11 k10 k48 k9) (.inl rfl)
end Go.Proofs.YteeogabkkblkgaaGreatDoor
