/- Part of a proof of many texts: what the theorem at its end leans on. -/
import Derived.Test.YteeogabkkblkgaaGreatDoorVPgF
namespace Go.Proofs.YteeogabkkblkgaaGreatDoor
set_option maxHeartbeats 1000000000
set_option linter.unusedVariables false
set_option linter.unusedSimpArgs false
open Go.RowKit
attribute [local irreducible] HC HX HO Tri eP adr
theorem hap_bad_s {υ : Type} (now : Int) (p : PrQ) (r : RsQ υ) (n : NtQ) (hl : locOk p.lo.asn p.lo.hold p.lo.id p.lo.paths p.lo.retry p.lo.four = true) (h : 3 ≤ p.st.ph ∧ p.st.ph ≤ 5) : (hapM now p r (badQ n)).1.s = st0 := by
 have hb3 := once_bad now p r n hl h
 unfold hapM
 rw [if_pos hb3.1]
 dsimp only
 unfold onceM
 have h1 : acsR (stepR p.lo p.st (badQ n).s) = endQ p.st.ph p.lo.retry n.c n.s n.d := by rw [step_bad _ _ _ hl h]; exact acsR_fall _ _ _ _ _
 rw [h1, (end_acts now _ r _ _ _ _ _).2.1, (timeM_st _ _ _ _).2.2, (timeM_st _ _ _ _).2.2, (timeM_st _ _ _ _).2.2]
theorem hap_ups {υ : Type} (now : Int) (x : PrQ) (r : RsQ υ) (e : EvQ) : (hapM now x r e).2.ups = r.ups := by
 have h1 : ∀ (p : PrQ) (r : RsQ υ) (a : AcQ), (actM now p r a).2.1.ups = r.ups := fun p r a => by
  unfold actM
  repeat' split
  all_goals rfl
 have h2 : ∀ (l : List AcQ) (p : PrQ) (r : RsQ υ), (actsM now p r l).2.1.ups = r.ups := fun l => by
  induction l with
  | nil => intro p r; rfl
  | cons a l ih =>
   intro p r
   unfold actsM
   split
   ·rw [ih, h1]
   ·exact h1 p r a
 have h3 : ∀ (x : PrQ) (r : RsQ υ) (e : EvQ), (onceM now x r e).2.1.ups = r.ups := fun x r e => h2 _ _ _
 unfold hapM
 split
 ·exact h3 x r e
 ·rw [h3, h3]
theorem msg_ups {υ : Type} (upd : Bool → Bool → List UInt8 → Option υ × NtQ) (x : PrQ) (r : RsQ υ) (k : Int) (b : List UInt8) : (msgM upd x r k b).1.ups.length ≤ r.ups.length + 1 := by
 unfold msgM
 repeat' split
 all_goals first
  | exact Nat.le_add_right _ _
  | (show (r.ups ++ [_]).length ≤ r.ups.length + 1; simp)
theorem msg_d (x : PrQ) (r : RsQ UpP) (k : Int) (b : List UInt8) : (msgM updM x r k b).2.nt.d.length ≤ 2 := by
 unfold msgM
 split
 ·split
  ·show (opM b).2.d.length ≤ 2
   by_cases h1 : b.length = 0 ∨ b.getD 0 0 ≠ 4
   ·rw [opM_0 h1]
    decide
   by_cases h2 : b.length < 10 ∨ (b.getD 9 0).toNat + 10 ≠ b.length
   ·rw [opM_1 h1 h2]
    exact Nat.zero_le _
   ·rw [opM_2 h1 h2]
    split <;> exact Nat.zero_le _
  ·exact Nat.zero_le _
 split
 ·exact Nat.zero_le _
 split
 ·split
  ·rcases updM_cases x.st.four x.st.paths b with ⟨n, hM, _, hn⟩ | ⟨u, hM⟩
   ·rw [hM]
    show n.d.length ≤ 2
    rw [hn]
    exact Nat.zero_le _
   ·rw [hM]
    exact Nat.zero_le _
  ·exact Nat.zero_le _
 ·exact Nat.zero_le _
theorem Tri_post {P : Program} {g : Nat} {args : List Value} {ro rw : List SL} {α : Type} {φ : α → Prop} {val : α → Value} {es : α → List SL} (C : α → Prop) (hC : ∀ x w, RoOk (ro ++ es x) w → C x) (h : Tri P g args ro rw φ val es) : Tri P g args ro rw (fun x => φ x ∧ C x) val es := by
 unfold Tri at h ⊢
 exact fun w S hf => (h w S hf).mono fun e w' ⟨x, T, hx, he, hfx⟩ => ⟨x, T, ⟨hx, hC x w' hfx.roOk⟩, he, hfx⟩
structure DrI (x : PrQ) (FIN : PrQ × RsQ UpP) (now : Int) (k : Nat) (y : PrQ) (r : RsQ UpP) : Prop where
 ok : PrOk y
 lo : y.lo = x.lo
 n : y.s.n = nt0
 kk : y.s.b.length + 2 ≤ k ∨ y.st.ph < 3
 u : r.ups.length + y.s.b.length ≤ 70000
 f : drainM updM now k y r = FIN
theorem pdrain_t (h p t : Nat) (now : Int) (r : RsQ UpP) (x : PrQ) (hx : PrOk x) (hid : 0 ≤ x.lo.id ∧ x.lo.id ≤ 4294967295) (hn : x.s.n = nt0) (hu : r.ups.length + x.s.b.length ≤ 70000) :
  Tri Tryz.prog 39 [pt h] [leW] [haP h p now r, peP p t x] (fun _ : Unit => True) (fun _ => .tuple #[]) (fun _ => [haP h p now (drainM updM now (x.s.b.length + 2) x r).2, peP p t (drainM updM now (x.s.b.length + 2) x r).1]) := by
 obtain ⟨FIN, hF⟩ : ∃ F, drainM updM now (x.s.b.length + 2) x r = F := ⟨_, rfl⟩
 rw [hF]
 refine Tri_in Tryz.func39 rfl (fun w0 S0 => ?_)
 repeat' (first | refine SD ?_ | refine SB ?_ | (refine S2 ?_; intro _) | fail)
 refine HC_loop (α := Nat × PrQ × RsQ UpP) (fun y => DrI x FIN now y.1 y.2.1 y.2.2) (fun y => [(0, pt h)])
   (fun y => [haP h p now y.2.2, peP p t y.2.1]) (fun y => y.1) rfl (x.s.b.length + 2, x, r) ⟨hx, rfl, hn, .inl (Nat.le_refl _), hu, hF⟩ ⟨rfl, trivial⟩ rfl ?_
 rintro ⟨k, y, q⟩ hI
 dsimp only at hI ⊢
 have hidy : 0 ≤ y.lo.id ∧ y.lo.id ≤ 4294967295 := by rw [hI.lo]; exact hid
 refine HC_open 0 rfl rfl (fun z hz => ?_)
 refine HC_open 4 rfl rfl (fun w hw => ?_)
 dsimp only [haF, rsC, rsP, peF, peC, lca, lna]
 by_cases h3 : y.st.ph < 3
 ·have h3z : ¬ y.st.ph ≥ 3 := by omega
  have hfin := hI.f
  rw [drain_lo updM now h3] at hfin
  rw [← hfin]
  repeat' (first | refine SD ?_ | refine SB ?_ | (refine S2 ?_; intro _) | fail)
  (refine SRt ?_; unfold RetQ; refine ⟨(), trivial, rfl, (Keeps.comp (Keeps.close (φ := fun _ : Nat × Nat => True) (f := peF p t y) w trivial findA) (Keeps.close (φ := RsOk q) (f := haF h p now q) z hz permA))⟩)
 have h3z : y.st.ph ≥ 3 := by omega
 have hT : Talk y := ⟨hI.ok, by omega, hI.n⟩
 have hk2 : y.s.b.length + 2 ≤ k := hI.kk.resolve_right h3
 obtain ⟨k, rfl⟩ : ∃ k', k = k' + 1 := ⟨k - 1, by omega⟩
 have c1 := Tri_post (fun z => (mgB (nextM y.s).2.1).length ≤ z.1.2) (fun x w h => own_cap 1 rfl h) (snext_t w.2 y.s hI.ok.sb (by have := hI.ok.sd; omega))
 dsimp only [mgV, noV] at c1
 rcases step_of updM now q hT with ⟨h1, h2, e⟩ | ⟨hb, p', r', hp, e, ea⟩ | ⟨m, hm⟩
 ·have hfin := hI.f
  rw [e] at hfin
  rw [← hfin]
  have hnx : (nextM y.s).1 = y.s := next_none (by rw [hI.n]; rfl) h1 h2
  have h2z : ¬ (nextM y.s).2.2.c ≠ 0 := by omega
  obtain ⟨⟨s', o, n⟩, hN⟩ : ∃ N, nextM y.s = N := ⟨_, rfl⟩
  rw [hN] at c1 h1 h2 hnx h2z
  dsimp only at h1 h2 hnx h2z
  subst h1 hnx
  dsimp only [mgK, mgB, Option.isSome] at c1
  repeat' (first | refine SD ?_ | (refine KC ?_; refine HO_callP rfl rfl rfl rfl (c1) findA (srcsA) rfl rfl soA ?_; intro ⟨⟨yA, yc⟩, ⟨vA, vc⟩⟩ hv; dsimp only [lca, lna]) | refine SB ?_ | (refine S2 ?_; intro _) | fail)
  (refine SRt ?_; unfold RetQ; refine ⟨(), trivial, rfl, (Keeps.comp (Keeps.close (φ := fun _ : Nat × Nat => True) (f := peF p t y) w trivial findA) (Keeps.close (φ := RsOk q) (f := haF h p now q) z hz permA))⟩)
 ·have hnb := next_bad (s := y.s) (by rw [hI.n]; rfl) hb []
  have hhn := headM_note y.s.b hnb.2.2.2.2
  rw [← hnb.2.2.2.1] at hhn
  obtain ⟨⟨s', o, n⟩, hN⟩ : ∃ N, nextM y.s = N := ⟨_, rfl⟩
  have e1 : drainM updM now (k + 1) y q = drainM updM now k (hapM now { y with s := s' } q (badQ n)).1 (hapM now { y with s := s' } q (badQ n)).2 := by
   conv => lhs; unfold drainM
   rw [if_neg h3, if_pos hb, hN]
  rw [hN] at c1 hb hnb hhn
  dsimp only at hb hnb hhn
  obtain ⟨-, hs', ho, -, -⟩ := hnb
  subst ho hs'
  have hy1 : PrOk { y with s := ⟨[], n⟩ } := { hI.ok with sb := Nat.zero_le _, sd := hhn.2.1, sn := .inr ⟨hhn.2.2.2, rfl, hhn.2.2.1⟩ }
  have c2 := fun A c => phap_t h p t now q { y with s := ⟨[], n⟩ } hy1 hidy (badQ n) A c (by show n.d.length ≤ 1000000; omega)
  have c3 := fun A c => pbad_t n A c
  have hbs := hap_bad_s now { y with s := ⟨[], n⟩ } q n hI.ok.lo hT.pp
  have hb2 := (hap_bad now { y with s := ⟨[], n⟩ } q n hI.ok.lo hT.pp).1
  have hok2 := hapM_ok hy1 now q (badQ n)
  have hlo2 := hapM_lo now { y with s := ⟨[], n⟩ } q (badQ n)
  have hup2 := hap_ups now { y with s := ⟨[], n⟩ } q (badQ n)
  have hfin := hI.f
  rw [e1] at hfin
  have huu := hI.u
  have hlo1 := hI.lo
  clear hI e1
  obtain ⟨⟨y2, q2⟩, hR⟩ : ∃ R, hapM now { y with s := ⟨[], n⟩ } q (badQ n) = R := ⟨_, rfl⟩
  rw [hR] at c2 hbs hb2 hok2 hlo2 hup2 hfin
  dsimp only [mgK, mgB, Option.isSome, noV, badQ] at c1 c2 c3 hbs hb2 hok2 hlo2 hup2 hfin
  repeat' (first | refine SD ?_ | (refine KC ?_; refine HO_callP rfl rfl rfl rfl (c1) findA (srcsA) rfl rfl soA ?_; intro ⟨⟨yA, yc⟩, ⟨vA, vc⟩⟩ hv; dsimp only [lca, lna]) | (refine KC ?_; refine HO_callq rfl rfl rfl rfl (c3 _ _) (fun _ _ => rfl) (trivial) rfl rfl sqA ?_) | (refine KC ?_; refine HO_keeps ((Keeps.comp (Keeps.close (φ := fun _ : Nat × Nat => True) (f := peF p t { y with s := ⟨[], n⟩ }) w trivial findA) (Keeps.close (φ := RsOk q) (f := haF h p now q) z hz findA))) ?_; refine HO_callP rfl rfl rfl rfl (c2 _ _) findA (srcsA) rfl rfl soA ?_; intro u hu2; dsimp only [lca, lna]) | refine SB ?_ | (refine S2 ?_; intro _) | fail)
  refine HX_keeps (rw' := [haP h p now q2, peP p t y2]) permA ?_
  have hq2 : q2.ups.length + y2.s.b.length ≤ 70000 := by
   rw [hbs, hup2]
   show q.ups.length + 0 ≤ 70000
   omega
  exact HX_at (k, y2, q2) ⟨⟨hok2, hlo2.trans hlo1, by rw [hbs]; rfl, .inr (by show y2.st.ph < 3; omega), hq2, hfin⟩, Nat.lt_succ_self k⟩ ⟨rfl, trivial⟩ rfl
 ·have hns := next_some (s := y.s) (by rw [hI.n]; rfl) hm []
  have hfin := hI.f
  rw [drain_some updM now q hT hm] at hfin
  have hone := one_ok updM now q hT hm
  have hy1 := next_ok hT hm
  have huu := hI.u
  have hlo1 := hI.lo
  have hmd := msg_d y q m.1 m.2
  have hmu := msg_ups updM y q m.1 m.2
  have hml := (msgOk_iff.1 hns.2.2.2.2).2.2.1
  have hapu := hap_ups now { y with s := (nextM y.s).1 } (msgM updM y q m.1 m.2).1 (msgM updM y q m.1 m.2).2
  have hlo2 := hapM_lo now { y with s := (nextM y.s).1 } (msgM updM y q m.1 m.2).1 (msgM updM y q m.1 m.2).2
  clear hI
  unfold oneM at hfin hone
  obtain ⟨⟨s', o, n⟩, hN⟩ : ∃ N, nextM y.s = N := ⟨_, rfl⟩
  rw [hN] at c1 hns hy1 hfin hone hm hapu hlo2
  dsimp only at hns hy1 hfin hone hm hapu hlo2
  obtain ⟨-, g1, g2, g3, g4⟩ := hns
  subst hm g3
  obtain ⟨mk, mb⟩ := m
  dsimp only at hml hmd hmu hfin hone hapu hlo2 g4
  dsimp only [mgK, mgB, Option.isSome] at c1
  have c2 := fun A c hc => pevent_t h p t now q (by omega) { y with s := s' } mk A c mb (by omega) hc
  have eM : msgM updM { y with s := s' } q mk mb = msgM updM y q mk mb := rfl
  rw [eM] at c2
  obtain ⟨⟨r1, ev⟩, hM⟩ : ∃ M, msgM updM y q mk mb = M := ⟨_, rfl⟩
  rw [hM] at c2 hfin hone hmd hmu hapu hlo2
  dsimp only at c2 hfin hone hmd hmu hapu hlo2
  have c3 := fun A c => phap_t h p t now r1 { y with s := s' } hy1 hidy ev A c (by omega)
  obtain ⟨⟨y2, q2⟩, hR⟩ : ∃ R, hapM now { y with s := s' } r1 ev = R := ⟨_, rfl⟩
  rw [hR] at c3 hfin hone hapu hlo2
  dsimp only [mgV] at c2 c3 hfin hone hapu hlo2
  have hnc : ¬ (nt0.c ≠ 0) := by decide
  repeat' (first | refine SD ?_ | (refine KC ?_; refine HO_callP rfl rfl rfl rfl (c1) findA (srcsA) rfl rfl soA ?_; intro ⟨⟨yA, yc⟩, ⟨vA, vc⟩⟩ hv; dsimp only [lca, lna]) | (refine KC ?_; refine HO_keeps ((Keeps.comp (Keeps.close (φ := fun _ : Nat × Nat => True) (f := peF p t { y with s := s' }) w trivial findA) (Keeps.close (φ := RsOk q) (f := haF h p now q) z hz findA))) ?_; refine HO_callP rfl rfl rfl rfl (c2 _ _ hv.2) findA (srcsA) rfl rfl soA ?_; intro ⟨uA, uc⟩ hu2; dsimp only [lca, lna]) | (refine KC ?_; refine HO_callP rfl rfl rfl rfl (c3 _ _) findA (srcsA) rfl rfl soA ?_; intro u hu2; dsimp only [lca, lna]) | refine SB ?_ | (refine S2 ?_; intro _) | fail)
  refine HX_keeps (rw' := [haP h p now q2, peP p t y2]) permA ?_
  exact HX_at (k, y2, q2) ⟨⟨hone.1, hlo2.trans hlo1, hone.2.1, .inl (by show y2.s.b.length + 2 ≤ k; omega), by show q2.ups.length + y2.s.b.length ≤ 70000; rw [hapu]; omega, hfin⟩, Nat.lt_succ_self k⟩ ⟨rfl, trivial⟩ rfl
theorem pfeed_t (p t : Nat) (now : Int) (x : PrQ) (hx : PrOk x) (hid : 0 ≤ x.lo.id ∧ x.lo.id ≤ 4294967295) (hn : x.s.n = nt0) (A : Option Addr) (c : Nat) (b : List UInt8) (hb : b.length ≤ 1000000) :
  Tri Tryz.prog 10 [pt p, .slice A b.length c, .int .i64 now] [arr bE 1 A b, leW] [peP p t x] (RsOk (inM updM now x b).2) (fun z => rsV (inM updM now x b).2 z) (fun z => rsP (inM updM now x b).2 z ++ [peP p t (inM updM now x b).1]) := by
 have c0 := pmade_t p t x
 unfold inM
 refine Tri_open (fun w hw => ?_)
 dsimp only [peF, peC, lca, lna]
 by_cases h1 : now < 0
 ·rw [if_pos (.inl h1)]
  refine Tri_in Tryz.func10 rfl (fun w0 S0 => ?_)
  repeat' (first | refine SK ?_ | refine SD ?_ | (refine KC ?_; refine HO_keeps ((Keeps.close (φ := fun _ : Nat × Nat => True) (f := peF p t x) w trivial findA)) ?_; refine HO_callP rfl rfl rfl rfl (c0) findA (trivial) rfl rfl soA ?_; intro u hu; dsimp only [lca, lna]) | (refine HO_open (β := Nat × Nat) 0 rfl rfl rfl (fun w hw => ?_); dsimp only [peF, peC, haF, rsC, rsP, lca, lna]) | refine SB ?_ | (refine S2 ?_; intro _) | fail)
  (refine SRt ?_; unfold RetQ; refine ⟨(⟨[], (none, 0), (none, 0)⟩ : RsZ), ⟨rfl, fun u hu => (by cases hu)⟩, rfl, (Keeps.add (fun w => own_nil w) (Keeps.add inn_nil (Keeps.add (fun w => own_nil w) (Keeps.close (φ := fun _ : Nat × Nat => True) (f := peF p t x) w trivial permA))))⟩)
 by_cases h2 : 65536 < b.length
 ·rw [if_pos (.inr (.inl h2))]
  have h2z : (b.length : Int) > 65536 := by omega
  refine Tri_in Tryz.func10 rfl (fun w0 S0 => ?_)
  repeat' (first | refine SK ?_ | refine SD ?_ | (refine KC ?_; refine HO_keeps ((Keeps.close (φ := fun _ : Nat × Nat => True) (f := peF p t x) w trivial findA)) ?_; refine HO_callP rfl rfl rfl rfl (c0) findA (trivial) rfl rfl soA ?_; intro u hu; dsimp only [lca, lna]) | (refine HO_open (β := Nat × Nat) 0 rfl rfl rfl (fun w hw => ?_); dsimp only [peF, peC, haF, rsC, rsP, lca, lna]) | refine SB ?_ | (refine S2 ?_; intro _) | fail)
  (refine SRt ?_; unfold RetQ; refine ⟨(⟨[], (none, 0), (none, 0)⟩ : RsZ), ⟨rfl, fun u hu => (by cases hu)⟩, rfl, (Keeps.add (fun w => own_nil w) (Keeps.add inn_nil (Keeps.add (fun w => own_nil w) (Keeps.close (φ := fun _ : Nat × Nat => True) (f := peF p t x) w trivial permA))))⟩)
 have h2z : ¬ (b.length : Int) > 65536 := by omega
 by_cases h3 : x.st.ph < 3
 ·rw [if_pos (.inr (.inr h3))]
  refine Tri_in Tryz.func10 rfl (fun w0 S0 => ?_)
  repeat' (first | refine SK ?_ | refine SD ?_ | (refine KC ?_; refine HO_keeps ((Keeps.close (φ := fun _ : Nat × Nat => True) (f := peF p t x) w trivial findA)) ?_; refine HO_callP rfl rfl rfl rfl (c0) findA (trivial) rfl rfl soA ?_; intro u hu; dsimp only [lca, lna]) | (refine HO_open (β := Nat × Nat) 0 rfl rfl rfl (fun w hw => ?_); dsimp only [peF, peC, haF, rsC, rsP, lca, lna]) | refine SB ?_ | (refine S2 ?_; intro _) | fail)
  (refine SRt ?_; unfold RetQ; refine ⟨(⟨[], (none, 0), (none, 0)⟩ : RsZ), ⟨rfl, fun u hu => (by cases hu)⟩, rfl, (Keeps.add (fun w => own_nil w) (Keeps.add inn_nil (Keeps.add (fun w => own_nil w) (Keeps.close (φ := fun _ : Nat × Nat => True) (f := peF p t x) w trivial permA))))⟩)
 rw [if_neg (by omega)]
 have c1 := fun s => sfeed_t s x.s hx.sb A c b hb
 by_cases h4 : (feedM x.s b).2 ≠ 0
 ·rw [if_pos h4]
  have hsame : (feedM x.s b).1 = x.s := by
   unfold feedM at h4 ⊢
   split
   ·rfl
   split
   ·rfl
   ·rename_i g1 g2
    rw [if_neg g1, if_neg g2] at h4
    exact absurd rfl h4
  obtain ⟨⟨s2, en⟩, hF⟩ : ∃ F, feedM x.s b = F := ⟨_, rfl⟩
  rw [hF] at c1 h4 hsame
  dsimp only at c1 h4 hsame
  subst hsame
  have c2 := fun h => phap_t h p t now rs0 x hx hid fullQ none 0 (by decide)
  have c3 := pbad_t ⟨6, 8, []⟩ none 0
  dsimp only [noV, fullQ, badQ] at c2 c3
  obtain ⟨⟨x2, r2⟩, hR⟩ : ∃ R, hapM now x (rs0 : RsQ UpP) fullQ = R := ⟨_, rfl⟩
  unfold fullQ badQ at hR ⊢
  rw [hR] at c2 ⊢
  refine Tri_in Tryz.func10 rfl (fun w0 S0 => ?_)
  repeat' (first | refine SK ?_ | refine SD ?_ | (refine KC ?_; refine HO_keeps ((Keeps.close (φ := fun _ : Nat × Nat => True) (f := peF p t x) w trivial findA)) ?_; refine HO_callP rfl rfl rfl rfl (c0) findA (trivial) rfl rfl soA ?_; intro u hu; dsimp only [lca, lna]) | (refine HO_open (β := Nat × Nat) 0 rfl rfl rfl (fun w hw => ?_); dsimp only [peF, peC, haF, rsC, rsP, lca, lna]) | (refine KC ?_; refine HO_callP rfl rfl rfl rfl (c1 _) findA (srcsA) rfl rfl soA ?_; intro u hu; dsimp only [lca, lna]) | (refine KC ?_; refine HO_callq rfl rfl rfl rfl (c3) (fun _ _ => rfl) (trivial) rfl rfl sqA ?_) | (refine KC ?_; refine HO_keeps ((Keeps.comp (Keeps.close (φ := fun _ : Nat × Nat => True) (f := peF p t x) w trivial findA) (Keeps.close (φ := RsOk (rs0 : RsQ UpP)) (f := haF _ p now rs0) ⟨[], (none, 0), (none, 0)⟩ ⟨rfl, fun u hu => (by cases hu)⟩ (Keeps.pick 1 rfl rfl (Keeps.add (fun w => own_nil w) (Keeps.add inn_nil (Keeps.add (fun w => own_nil w) Keeps.refl))))))) ?_; refine HO_callP rfl rfl rfl rfl (c2 _) findA ((AllSrc.free (fun w => arr_nil _ w) (AllSrc.at_ 1 rfl trivial))) rfl rfl soA ?_; intro u hu; dsimp only [lca, lna]) | (refine HO_open (β := RsZ) 0 rfl rfl rfl (fun z hz => ?_); dsimp only [peF, peC, haF, rsC, rsP, lca, lna]) | refine SB ?_ | (refine S2 ?_; intro _) | fail)
  (refine SRt ?_; unfold RetQ; refine ⟨z, hz, rfl, permA⟩)
 ·rw [if_neg h4]
  have hfe : (feedM x.s b).1 = ⟨x.s.b ++ b, x.s.n⟩ ∧ x.s.b.length + b.length ≤ 65536 ∧ (feedM x.s b).2 = 0 := by
   unfold feedM at h4 ⊢
   split
   ·rename_i g1
    rw [if_pos g1] at h4
    exact absurd (by decide : (6 : Int) ≠ 0) h4
   split
   ·rename_i g1 g2
    rw [if_neg g1, if_pos g2] at h4
    exact absurd (by decide : (2 : Int) ≠ 0) h4
   ·rename_i g1 g2
    exact ⟨rfl, by omega, rfl⟩
  obtain ⟨⟨s2, en⟩, hF⟩ : ∃ F, feedM x.s b = F := ⟨_, rfl⟩
  rw [hF] at c1 h4 hfe ⊢
  dsimp only at c1 h4 hfe ⊢
  obtain ⟨rfl, hfl, rfl⟩ := hfe
  have hlen : (x.s.b ++ b).length = x.s.b.length + b.length := List.length_append
  have hx2 : PrOk { x with s := ⟨x.s.b ++ b, x.s.n⟩ } := { hx with sb := by rw [hlen]; exact hfl, sd := hx.sd, sn := .inl (by show x.s.n.c = 0; rw [hn]; rfl) }
  have c2 := fun h => pdrain_t h p t now rs0 { x with s := ⟨x.s.b ++ b, x.s.n⟩ } hx2 hid hn (by show 0 + (x.s.b ++ b).length ≤ 70000; rw [hlen]; omega)
  dsimp only at c2
  obtain ⟨⟨x2, r2⟩, hR⟩ : ∃ R, drainM updM now ((x.s.b ++ b).length + 2) { x with s := ⟨x.s.b ++ b, x.s.n⟩ } (rs0 : RsQ UpP) = R := ⟨_, rfl⟩
  rw [hR] at c2 ⊢
  refine Tri_in Tryz.func10 rfl (fun w0 S0 => ?_)
  repeat' (first | refine SK ?_ | refine SD ?_ | (refine KC ?_; refine HO_keeps ((Keeps.close (φ := fun _ : Nat × Nat => True) (f := peF p t x) w trivial findA)) ?_; refine HO_callP rfl rfl rfl rfl (c0) findA (trivial) rfl rfl soA ?_; intro u hu; dsimp only [lca, lna]) | (refine HO_open (β := Nat × Nat) 0 rfl rfl rfl (fun w hw => ?_); dsimp only [peF, peC, haF, rsC, rsP, lca, lna]) | (refine KC ?_; refine HO_callP rfl rfl rfl rfl (c1 _) findA (srcsA) rfl rfl soA ?_; intro u hu; dsimp only [lca, lna]) | (refine KC ?_; refine HO_keeps ((Keeps.comp (Keeps.close (φ := fun _ : Nat × Nat => True) (f := peF p t { x with s := ⟨x.s.b ++ b, x.s.n⟩ }) w trivial findA) (Keeps.close (φ := RsOk (rs0 : RsQ UpP)) (f := haF _ p now rs0) ⟨[], (none, 0), (none, 0)⟩ ⟨rfl, fun u hu => (by cases hu)⟩ (Keeps.pick 1 rfl rfl (Keeps.add (fun w => own_nil w) (Keeps.add inn_nil (Keeps.add (fun w => own_nil w) Keeps.refl))))))) ?_; refine HO_callP rfl rfl rfl rfl (c2 _) findA ((AllSrc.at_ 1 rfl trivial)) rfl rfl soA ?_; intro u hu; dsimp only [lca, lna]) | (refine HO_open (β := RsZ) 0 rfl rfl rfl (fun z hz => ?_); dsimp only [peF, peC, haF, rsC, rsP, lca, lna]) | refine SB ?_ | (refine S2 ?_; intro _) | fail)
  (refine SRt ?_; unfold RetQ; refine ⟨z, hz, rfl, permA⟩)
end Go.Proofs.YteeogabkkblkgaaGreatDoor
