/- Part of a proof of many texts: what the theorem at its end leans on. -/
import Derived.Test.YteeogabkkblkgaaGreatDoorVRiC
import Derived.Test.YteeogabkkblkgaaGreatDoorVPgH
namespace Go.Proofs.YteeogabkkblkgaaGreatDoor
set_option maxHeartbeats 1000000000
set_option linter.unusedVariables false
set_option linter.unusedSimpArgs false
open Go.RowKit
attribute [local irreducible] HC HX HO Tri eP adr
theorem rr0 {h : Nat} {rw rw' : List SL} (hk : Keeps rw (cel h 29 [.slice none 0 0, .bool false, .bool false, .slice none 0 0, .bool false, .bool false] :: rw')) : Keeps rw (rrP h (rs0 : RsQ UpP) :: rw') := by
 refine Keeps.comp hk ?_
 refine Keeps.close (φ := RsOk (rs0 : RsQ UpP)) (f := rrF h rs0) (⟨[], (none, 0), (none, 0)⟩ : RsZ) ⟨rfl, fun u hu => (by cases hu)⟩ ?_
 exact Keeps.pick 0 rfl rfl (Keeps.add (fun w => own_nil w) (Keeps.add inn_nil (Keeps.add (fun w => own_nil w) Keeps.refl)))
theorem rr0f {h : Nat} {rw rw' : List SL} (hk : Keeps rw ([cel h 29 [.slice none 0 0, .bool false, .bool false, .slice none 0 0, .bool false, .bool false]] ++ rw')) : Keeps rw (rrP h (rs0 : RsQ UpP) :: rw') := rr0 hk
theorem rpfeed_t (p t : Nat) (now : Int) (x : PrQ) (hx : PrOk x) (hh : HoOk x.st) (hid : 0 ≤ x.lo.id ∧ x.lo.id ≤ 4294967295) (hn : x.s.n = nt0) (A : Option Addr) (c : Nat) (b : List UInt8) (hb : b.length ≤ 1000000) :
  Tri Tryz.prog 58 [pt p, .slice A b.length c, .int .i64 now] [arr bE 1 A b] [rpP p t x] (RsOk (inM updM now x b).2) (fun z => rsV (inM updM now x b).2 z) (fun z => rsP (inM updM now x b).2 z ++ [rpP p t (inM updM now x b).1]) := by
 unfold inM
 refine Tri_open (fun w hw => ?_)
 dsimp only [rpF, rpC, lca, lna]
 by_cases h1 : now < 0
 ·rw [if_pos (.inl h1)]
  refine Tri_in Tryz.func58 rfl (fun w0 S0 => ?_)
  repeat' (first | refine SK ?_ | refine SD ?_ | refine SB ?_ | (refine S2 ?_; intro _) | fail)
  (refine SRt ?_; unfold RetQ; refine ⟨(⟨[], (none, 0), (none, 0)⟩ : RsZ), ⟨rfl, fun u hu => (by cases hu)⟩, rfl, (Keeps.add (fun w => own_nil w) (Keeps.add inn_nil (Keeps.add (fun w => own_nil w) (Keeps.close (φ := fun _ : RpZ => True) (f := rpF p t x) w trivial permA))))⟩)
 have h1z : ¬ now < 0 := h1
 by_cases h2 : 65536 < b.length
 ·rw [if_pos (.inr (.inl h2))]
  have h2z : (b.length : Int) > 65536 := by omega
  refine Tri_in Tryz.func58 rfl (fun w0 S0 => ?_)
  repeat' (first | refine SK ?_ | refine SD ?_ | refine SB ?_ | (refine S2 ?_; intro _) | fail)
  (refine SRt ?_; unfold RetQ; refine ⟨(⟨[], (none, 0), (none, 0)⟩ : RsZ), ⟨rfl, fun u hu => (by cases hu)⟩, rfl, (Keeps.add (fun w => own_nil w) (Keeps.add inn_nil (Keeps.add (fun w => own_nil w) (Keeps.close (φ := fun _ : RpZ => True) (f := rpF p t x) w trivial permA))))⟩)
 have h2z : ¬ (b.length : Int) > 65536 := by omega
 by_cases h3 : x.st.ph < 3
 ·rw [if_pos (.inr (.inr h3))]
  refine Tri_in Tryz.func58 rfl (fun w0 S0 => ?_)
  repeat' (first | refine SK ?_ | refine SD ?_ | refine SB ?_ | (refine S2 ?_; intro _) | fail)
  (refine SRt ?_; unfold RetQ; refine ⟨(⟨[], (none, 0), (none, 0)⟩ : RsZ), ⟨rfl, fun u hu => (by cases hu)⟩, rfl, (Keeps.add (fun w => own_nil w) (Keeps.add inn_nil (Keeps.add (fun w => own_nil w) (Keeps.close (φ := fun _ : RpZ => True) (f := rpF p t x) w trivial permA))))⟩)
 rw [if_neg (fun h => h.elim h1 (fun h => h.elim h2 h3))]
 have hnc : x.s.n.c = 0 := by rw [hn]; rfl
 have c1 := rsfeedP_t p (.int .i64 x.n) (.int .i64 x.lo.asn) (.int .i64 x.lo.hold) (.int .u32 x.lo.id) (.bool x.lo.four) (.int .i64 x.lo.paths) (.int .i64 x.lo.retry) (.int .i64 x.st.ph) (.int .i64 x.st.hold) (.bool x.st.four) (.bool x.st.paths) (.int .u32 x.st.id) (pt w.q) (pt t) x.s hx.sb hnc w.z w.d A c b hb
 dsimp only [rdsP] at c1
 by_cases h4 : 65536 - (x.s.b.length : Int) < (b.length : Int)
 ·have hf : feedM x.s b = (x.s, (feedM x.s b).2) ∧ (feedM x.s b).2 ≠ 0 := by
   unfold feedM
   rw [if_neg (by omega), if_pos h4]
   exact ⟨rfl, (by decide : (2 : Int) ≠ 0)⟩
  obtain ⟨hf1, hf2⟩ := hf
  rw [if_pos hf2]
  rw [hf1] at c1
  obtain ⟨q, hq⟩ : ∃ q, (feedM x.s b).2 = q := ⟨_, rfl⟩
  rw [hq] at c1 hf2
  dsimp only at c1
  have c2 := fun h => rphap_t h p t now (by omega) rs0 x hx hh hid fullQ (evh0 _ _) none 0 (by decide)
  obtain ⟨⟨x2, r2⟩, hR⟩ : ∃ R, hapM now x (rs0 : RsQ UpP) fullQ = R := ⟨_, rfl⟩
  rw [hR] at c2 ⊢
  dsimp only [evV, fullQ, badQ, op0, List.length_nil] at c2
  refine Tri_in Tryz.func58 rfl (fun w0 S0 => ?_)
  repeat' (first | refine SK ?_ | refine SD ?_ | (refine KC ?_; refine HO_callP rfl rfl rfl rfl (c1) findA (srcsA) rfl rfl soA ?_; intro v hv; dsimp only [lca, lna]) | (refine KC ?_; refine HO_keeps ((rr0f (Keeps.comp (Keeps.close (φ := fun _ : RpZ => True) (f := rpF p t x) ⟨w.q, v, w.d⟩ trivial findA) findA))) ?_; refine HO_callP rfl rfl rfl rfl (c2 _) findA ((AllSrc.free (fun w => arr_nil _ w) trivial)) rfl rfl soA ?_; intro u hu; dsimp only [lca, lna]) | refine SB ?_ | (refine S2 ?_; intro _) | fail)
  refine HO_open (β := RsZ) 0 rfl rfl rfl (fun z hz => ?_)
  dsimp only [rrF, rsC, rsP, lca, lna]
  repeat' (first | refine SK ?_ | refine SD ?_ | refine SB ?_ | (refine S2 ?_; intro _) | fail)
  (refine SRt ?_; unfold RetQ; refine ⟨z, hz, rfl, permA⟩)
 have hf : feedM x.s b = (⟨x.s.b ++ b, x.s.n⟩, 0) := by
  unfold feedM
  rw [if_neg (by omega), if_neg h4]
 rw [hf] at c1 ⊢
 rw [if_neg (show ¬ ((0 : Int) ≠ 0) by decide)]
 dsimp only at c1 ⊢
 have hlen : (x.s.b ++ b).length ≤ 65536 := by rw [List.length_append]; omega
 have hx1 : PrOk { x with s := ⟨x.s.b ++ b, x.s.n⟩ } := { hx with sb := hlen, sn := .inl hnc }
 have hf1 : (⟨x.s.b ++ b, x.s.n⟩ : StQ).n = nt0 := hn
 obtain ⟨FIN, hF⟩ : ∃ F, drainM updM now ((x.s.b ++ b).length + 2) { x with s := ⟨x.s.b ++ b, x.s.n⟩ } (rs0 : RsQ UpP) = F := ⟨_, rfl⟩
 rw [hF]
 refine Tri_in Tryz.func58 rfl (fun w0 S0 => ?_)
 repeat' (first | refine SK ?_ | refine SD ?_ | (refine KC ?_; refine HO_callP rfl rfl rfl rfl (c1) findA (srcsA) rfl rfl soA ?_; intro v hv; dsimp only [lca, lna]) | refine SB ?_ | (refine S2 ?_; intro _) | fail)
 rename_i b6 b7
 refine HC_keeps (rw' := [rrP b7 rs0, rpP p t { x with s := ⟨x.s.b ++ b, x.s.n⟩ }, cel b6 29 [.slice none 0 0, .bool false, .bool false, .slice none 0 0, .bool false, .bool false]]) (rr0 (Keeps.comp (Keeps.close (φ := fun _ : RpZ => True) (f := rpF p t { x with s := ⟨x.s.b ++ b, x.s.n⟩ }) ⟨w.q, v, w.d⟩ trivial findA) permA)) ?_
 refine HC_loop (α := Nat × PrQ × RsQ UpP) (fun y => DrI x FIN now y.1 y.2.1 y.2.2 ∧ HoOk y.2.1.st) (fun y => [(7, pt b7), (6, pt b6), (0, pt p), (0 + 1 + 1, .int .i64 now)])
   (fun y => [rrP b7 y.2.2, rpP p t y.2.1, cel b6 29 [.slice none 0 0, .bool false, .bool false, .slice none 0 0, .bool false, .bool false]]) (fun y => y.1) rfl ((x.s.b ++ b).length + 2, { x with s := ⟨x.s.b ++ b, x.s.n⟩ }, rs0) ⟨⟨hx1, rfl, hn, .inl (Nat.le_refl _), by show 0 + (x.s.b ++ b).length ≤ 70000; omega, hF⟩, hh⟩ ⟨rfl, rfl, rfl, rfl, trivial⟩ rfl ?_
 clear c1
 rintro ⟨k, y, q⟩ ⟨hI, hhy⟩
 dsimp only at hI hhy ⊢
 have hidy : 0 ≤ y.lo.id ∧ y.lo.id ≤ 4294967295 := by rw [hI.lo]; exact hid
 refine HC_open 1 rfl rfl (fun w2 hw2 => ?_)
 dsimp only [rpF, rpC, lca, lna]
 by_cases h3 : y.st.ph < 3
 ·have h3z : ¬ y.st.ph ≥ 3 := by omega
  have hfin := hI.f
  rw [drain_lo updM now h3] at hfin
  rw [← hfin]
  refine HC_open (β := RsZ) 4 rfl rfl (fun z hz => ?_)
  dsimp only [rrF, rsC, rsP, lca, lna]
  repeat' (first | refine SK ?_ | refine SD ?_ | refine SB ?_ | (refine S2 ?_; intro _) | fail)
  (refine SRt ?_; unfold RetQ; refine ⟨z, hz, rfl, (Keeps.comp (Keeps.close (φ := fun _ : RpZ => True) (f := rpF p t y) w2 trivial findA) permA)⟩)
 have h3z : y.st.ph ≥ 3 := by omega
 have hT : Talk y := ⟨hI.ok, by omega, hI.n⟩
 have hk2 : y.s.b.length + 2 ≤ k := hI.kk.resolve_right h3
 obtain ⟨k, rfl⟩ : ∃ k', k = k' + 1 := ⟨k - 1, by omega⟩
 have c1 := Tri_post (fun z => (mgB (nextM y.s).2.1).length ≤ z.1.2) (fun x w h => own_cap 2 rfl h) (rsnextP_t p (.int .i64 y.n) (.int .i64 y.lo.asn) (.int .i64 y.lo.hold) (.int .u32 y.lo.id) (.bool y.lo.four) (.int .i64 y.lo.paths) (.int .i64 y.lo.retry) (.int .i64 y.st.ph) (.int .i64 y.st.hold) (.bool y.st.four) (.bool y.st.paths) (.int .u32 y.st.id) (pt w2.q) (pt t) y.s hI.ok.sb (by rw [hI.n]; rfl) w2.z w2.d)
 dsimp only [mgV, noV, rdsP, lca, lna] at c1
 rcases step_of updM now q hT with ⟨h1, h2, e⟩ | ⟨hb, p', r', hp, e, ea⟩ | ⟨m, hm⟩
 ·have hfin := hI.f
  rw [e] at hfin
  rw [← hfin]
  have hnx : (nextM y.s).1 = y.s := next_none (by rw [hI.n]; rfl) h1 h2
  have h2z : ¬ (nextM y.s).2.2.c ≠ 0 := by omega
  obtain ⟨⟨s', o, n⟩, hN⟩ : ∃ N, nextM y.s = N := ⟨_, rfl⟩
  rw [hN] at c1 h1 h2 hnx h2z
  dsimp only at h1 h2 hnx h2z
  subst h1 hnx
  dsimp only [mgK, mgB, Option.isSome] at c1
  refine HC_open (β := RsZ) 4 rfl rfl (fun z hz => ?_)
  dsimp only [rrF, rsC, rsP, lca, lna]
  repeat' (first | refine SK ?_ | refine SD ?_ | (refine KC ?_; refine HO_callP rfl rfl rfl rfl (c1) findA (trivial) rfl rfl soA ?_; intro ⟨⟨yA, yc⟩, ⟨vA, vc⟩, zz, dd⟩ hv; dsimp only [lca, lna]) | refine SB ?_ | (refine S2 ?_; intro _) | fail)
  (refine SRt ?_; unfold RetQ; refine ⟨z, hz, rfl, (Keeps.comp (Keeps.close (φ := fun _ : RpZ => True) (f := rpF p t y) ⟨w2.q, zz, dd⟩ trivial findA) permA)⟩)
 ·have hnb := next_bad (s := y.s) (by rw [hI.n]; rfl) hb []
  have hhn := headM_note y.s.b hnb.2.2.2.2
  rw [← hnb.2.2.2.1] at hhn
  obtain ⟨⟨s', o, n⟩, hN⟩ : ∃ N, nextM y.s = N := ⟨_, rfl⟩
  have e1 : drainM updM now (k + 1) y q = drainM updM now k (hapM now { y with s := s' } q (badQ n)).1 (hapM now { y with s := s' } q (badQ n)).2 := by
   conv => lhs; unfold drainM
   rw [if_neg h3, if_pos hb, hN]
  rw [hN] at c1 hb hnb hhn
  dsimp only at hb hnb hhn
  obtain ⟨-, hs', ho, -, -⟩ := hnb
  subst ho hs'
  have hy1 : PrOk { y with s := ⟨[], n⟩ } := { hI.ok with sb := Nat.zero_le _, sd := hhn.2.1, sn := .inr ⟨hhn.2.2.2, rfl, hhn.2.2.1⟩ }
  have c2 := fun A c => rphap_t b7 p t now (by omega) q { y with s := ⟨[], n⟩ } hy1 hhy hidy (badQ n) (evh0 _ _) A c (by show n.d.length ≤ 1000000; omega)
  have hb2 := (hap_bad now { y with s := ⟨[], n⟩ } q n hI.ok.lo hT.pp).1
  have hfin := hI.f
  rw [e1] at hfin
  clear hI e1
  obtain ⟨⟨y2, q2⟩, hR⟩ : ∃ R, hapM now { y with s := ⟨[], n⟩ } q (badQ n) = R := ⟨_, rfl⟩
  rw [hR] at c2 hb2 hfin
  dsimp only at hb2 hfin
  rw [drain_lo updM now (by omega)] at hfin
  rw [← hfin]
  dsimp only [mgK, mgB, Option.isSome] at c1
  dsimp only [evV, badQ, op0] at c2
  repeat' (first | refine SK ?_ | refine SD ?_ | (refine KC ?_; refine HO_callP rfl rfl rfl rfl (c1) findA (trivial) rfl rfl soA ?_; intro ⟨⟨yA, yc⟩, ⟨vA, vc⟩, zz, dd⟩ hv; dsimp only [lca, lna]) | (refine KC ?_; refine HO_keeps ((Keeps.close (φ := fun _ : RpZ => True) (f := rpF p t { y with s := ⟨[], n⟩ }) ⟨w2.q, zz, dd⟩ trivial findA)) ?_; refine HO_callP rfl rfl rfl rfl (c2 _ _) findA (srcsA) rfl rfl soA ?_; intro u hu2; dsimp only [lca, lna]) | refine SB ?_ | (refine S2 ?_; intro _) | fail)
  refine HO_open (β := RsZ) 0 rfl rfl rfl (fun z hz => ?_)
  dsimp only [rrF, rsC, rsP, lca, lna]
  repeat' (first | refine SK ?_ | refine SD ?_ | refine SB ?_ | (refine S2 ?_; intro _) | fail)
  (refine SRt ?_; unfold RetQ; refine ⟨z, hz, rfl, permA⟩)
 ·have hns := next_some (s := y.s) (by rw [hI.n]; rfl) hm []
  have hfin := hI.f
  rw [drain_some updM now q hT hm] at hfin
  have hone := one_ok updM now q hT hm
  have hy1 := next_ok hT hm
  have huu := hI.u
  have hlo1 := hI.lo
  have hmu := msg_ups updM y q m.1 m.2
  have hml := (msgOk_iff.1 hns.2.2.2.2).2.2.1
  have hapu := hap_ups now { y with s := (nextM y.s).1 } (msgM updM y q m.1 m.2).1 (msgM updM y q m.1 m.2).2
  have hlo2 := hapM_lo now { y with s := (nextM y.s).1 } (msgM updM y q m.1 m.2).1 (msgM updM y q m.1 m.2).2
  have hho2 : HoOk (hapM now { y with s := (nextM y.s).1 } (msgM updM y q m.1 m.2).1 (msgM updM y q m.1 m.2).2).1.st := hap_hold (p := { y with s := (nextM y.s).1 }) hI.ok.lo hhy (msg_hold y q m.1 m.2)
  clear hI
  unfold oneM at hfin hone
  obtain ⟨⟨s', o, n⟩, hN⟩ : ∃ N, nextM y.s = N := ⟨_, rfl⟩
  rw [hN] at c1 hns hy1 hfin hone hm hapu hlo2 hho2
  dsimp only at hns hy1 hfin hone hm hapu hlo2 hho2
  obtain ⟨-, g1, g2, g3, g4⟩ := hns
  subst hm g3
  obtain ⟨mk, mb⟩ := m
  dsimp only at hml hmu hfin hone hapu hlo2 hho2 g4
  dsimp only [mgK, mgB, Option.isSome] at c1
  have c2 := fun A c hc => rmsg_t b7 p t now (by omega) q (by omega) { y with s := s' } hy1 hhy hidy mk A c mb (by omega) hc
  have eM : msgM updM { y with s := s' } q mk mb = msgM updM y q mk mb := rfl
  rw [eM] at c2
  obtain ⟨⟨r1, ev⟩, hM⟩ : ∃ M, msgM updM y q mk mb = M := ⟨_, rfl⟩
  rw [hM] at c2 hfin hone hmu hapu hlo2 hho2
  dsimp only at c2 hfin hone hmu hapu hlo2 hho2
  obtain ⟨⟨y2, q2⟩, hR⟩ : ∃ R, hapM now { y with s := s' } r1 ev = R := ⟨_, rfl⟩
  rw [hR] at c2 hfin hone hapu hlo2 hho2
  dsimp only [mgV] at c2 hfin hone hapu hlo2 hho2
  have hnc2 : ¬ (nt0.c ≠ 0) := by decide
  repeat' (first | refine SK ?_ | refine SD ?_ | (refine KC ?_; refine HO_callP rfl rfl rfl rfl (c1) findA (trivial) rfl rfl soA ?_; intro ⟨⟨yA, yc⟩, ⟨vA, vc⟩, zz, dd⟩ hv; dsimp only [lca, lna]) | (refine KC ?_; refine HO_keeps ((Keeps.close (φ := fun _ : RpZ => True) (f := rpF p t { y with s := s' }) ⟨w2.q, zz, dd⟩ trivial findA)) ?_; refine HO_callP rfl rfl rfl rfl (c2 _ _ hv.2) findA (srcsA) rfl rfl soA ?_; intro u hu2; dsimp only [lca, lna]) | refine SB ?_ | (refine S2 ?_; intro _) | fail)
  refine HX_keeps (rw' := [rrP b7 q2, rpP p t y2, cel b6 29 [.slice none 0 0, .bool false, .bool false, .slice none 0 0, .bool false, .bool false]]) permA ?_
  exact HX_at (k, y2, q2) ⟨⟨⟨hone.1, hlo2.trans hlo1, hone.2.1, .inl (by show y2.s.b.length + 2 ≤ k; omega), by show q2.ups.length + y2.s.b.length ≤ 70000; rw [hapu]; omega, hfin⟩, hho2⟩, Nat.lt_succ_self k⟩ ⟨rfl, rfl, rfl, rfl, trivial⟩ rfl
theorem rpdo_t (p t : Nat) (k now : Int) (x : PrQ) (hx : PrOk x) (hh : HoOk x.st) (hid : 0 ≤ x.lo.id ∧ x.lo.id ≤ 4294967295) :
  Tri Tryz.prog 57 [pt p, .int .i64 k, .int .i64 now] [] [rpP p t x] (RsOk (doM now x k).2) (fun z => rsV (doM now x k).2 z) (fun z => rsP (doM now x k).2 z ++ [rpP p t (doM now x k : PrQ × RsQ UpP).1]) := by
 by_cases hk : k = 1 ∨ k = 2 ∨ k = 3 ∨ k = 4 ∨ k = 10 ∨ k = 11 ∨ k = 12
 ·by_cases hn : 0 ≤ now
  ·have e : (doM now x k : PrQ × RsQ UpP) = hapM now x rs0 ⟨k, op0, nt0⟩ := if_pos ⟨hk, hn⟩
   rw [e]
   have c2 := fun h => rphap_t h p t now hn rs0 x hx hh hid ⟨k, op0, nt0⟩ (evh0 _ _) none 0 (Nat.zero_le _)
   obtain ⟨⟨x2, r2⟩, hR⟩ : ∃ R, hapM now x (rs0 : RsQ UpP) ⟨k, op0, nt0⟩ = R := ⟨_, rfl⟩
   rw [hR] at c2 ⊢
   dsimp only [evV, op0, nt0, List.length_nil] at c2
   have hnz : now ≥ 0 := hn
   rcases hk with rfl | rfl | rfl | rfl | rfl | rfl | rfl
   all_goals
    refine Tri_in Tryz.func57 rfl (fun w0 S0 => ?_)
    repeat' (first | refine SD ?_ | (refine KC ?_; refine HO_keeps ((rr0f findA)) ?_; refine HO_callP rfl rfl rfl rfl (c2 _) findA ((AllSrc.free (fun w => arr_nil _ w) trivial)) rfl rfl soA ?_; intro u hu; dsimp only [lca, lna]) | refine SB ?_ | (refine S2 ?_; intro _) | fail)
    refine HO_open (β := RsZ) 0 rfl rfl rfl (fun z hz => ?_)
    dsimp only [rrF, rsC, rsP, lca, lna]
    repeat' (first | refine SD ?_ | refine SB ?_ | (refine S2 ?_; intro _) | fail)
    (refine SRt ?_; unfold RetQ; refine ⟨z, hz, rfl, permA⟩)
  ·have e : (doM now x k : PrQ × RsQ UpP) = (x, rs0) := if_neg (fun h => hn h.2)
   rw [e]
   have hnz : ¬ now ≥ 0 := hn
   rcases hk with rfl | rfl | rfl | rfl | rfl | rfl | rfl
   all_goals
    refine Tri_in Tryz.func57 rfl (fun w0 S0 => ?_)
    repeat' (first | refine SD ?_ | refine SB ?_ | (refine S2 ?_; intro _) | fail)
    (refine SRt ?_; unfold RetQ; refine ⟨(⟨[], (none, 0), (none, 0)⟩ : RsZ), ⟨rfl, fun u hu => (by cases hu)⟩, rfl, (Keeps.add (fun w => own_nil w) (Keeps.add inn_nil (Keeps.add (fun w => own_nil w) permA)))⟩)
 ·have e : (doM now x k : PrQ × RsQ UpP) = (x, rs0) := by
   unfold doM
   rw [if_neg (fun h => hk h.1)]
  rw [e]
  have k1 : ¬ k = 1 := fun h => hk (.inl h)
  have k2 : ¬ k = 2 := fun h => hk (.inr (.inl h))
  have k3 : ¬ k = 3 := fun h => hk (.inr (.inr (.inl h)))
  have k4 : ¬ k = 4 := fun h => hk (.inr (.inr (.inr (.inl h))))
  have k5 : ¬ k = 10 := fun h => hk (.inr (.inr (.inr (.inr (.inl h)))))
  have k6 : ¬ k = 11 := fun h => hk (.inr (.inr (.inr (.inr (.inr (.inl h))))))
  have k7 : ¬ k = 12 := fun h => hk (.inr (.inr (.inr (.inr (.inr (.inr h))))))
  clear hk
  refine Tri_in Tryz.func57 rfl (fun w0 S0 => ?_)
  repeat' (first | refine SD ?_ | refine SB ?_ | (refine S2 ?_; intro _) | fail)
  (refine SRt ?_; unfold RetQ; refine ⟨(⟨[], (none, 0), (none, 0)⟩ : RsZ), ⟨rfl, fun u hu => (by cases hu)⟩, rfl, (Keeps.add (fun w => own_nil w) (Keeps.add inn_nil (Keeps.add (fun w => own_nil w) permA)))⟩)
theorem rpclo_t (p t : Nat) (now : Int) (x : PrQ) (hx : PrOk x) (hh : HoOk x.st) (hid : 0 ≤ x.lo.id ∧ x.lo.id ≤ 4294967295) (n : NtQ) (A : Option Addr) (c : Nat) (hd : n.d.length ≤ 1000000) :
  Tri Tryz.prog 61 [pt p, noV n A c, .int .i64 now] [arr bE 1 A n.d] [rpP p t x] (RsOk (closeM now x n).2) (fun z => rsV (closeM now x n).2 z) (fun z => rsP (closeM now x n).2 z ++ [rpP p t (closeM now x n : PrQ × RsQ UpP).1]) := by
 by_cases hn : 0 ≤ now
 ·have e : (closeM now x n : PrQ × RsQ UpP) = hapM now x rs0 (badQ n) := if_pos hn
  rw [e]
  have c2 := fun h => rphap_t h p t now hn rs0 x hx hh hid (badQ n) (evh0 _ _) A c hd
  obtain ⟨⟨x2, r2⟩, hR⟩ : ∃ R, hapM now x (rs0 : RsQ UpP) (badQ n) = R := ⟨_, rfl⟩
  rw [hR] at c2 ⊢
  dsimp only [evV, badQ, op0] at c2
  dsimp only [noV]
  have hnz : now ≥ 0 := hn
  refine Tri_in Tryz.func61 rfl (fun w0 S0 => ?_)
  repeat' (first | refine SD ?_ | (refine KC ?_; refine HO_keeps ((rr0f findA)) ?_; refine HO_callP rfl rfl rfl rfl (c2 _) findA (srcsA) rfl rfl soA ?_; intro u hu; dsimp only [lca, lna]) | refine SB ?_ | (refine S2 ?_; intro _) | fail)
  refine HO_open (β := RsZ) 0 rfl rfl rfl (fun z hz => ?_)
  dsimp only [rrF, rsC, rsP, lca, lna]
  repeat' (first | refine SD ?_ | refine SB ?_ | (refine S2 ?_; intro _) | fail)
  (refine SRt ?_; unfold RetQ; refine ⟨z, hz, rfl, permA⟩)
 ·have e : (closeM now x n : PrQ × RsQ UpP) = (x, rs0) := if_neg hn
  rw [e]
  have hnz : ¬ now ≥ 0 := hn
  dsimp only [noV]
  refine Tri_in Tryz.func61 rfl (fun w0 S0 => ?_)
  repeat' (first | refine SD ?_ | refine SB ?_ | (refine S2 ?_; intro _) | fail)
  (refine SRt ?_; unfold RetQ; refine ⟨(⟨[], (none, 0), (none, 0)⟩ : RsZ), ⟨rfl, fun u hu => (by cases hu)⟩, rfl, (Keeps.add (fun w => own_nil w) (Keeps.add inn_nil (Keeps.add (fun w => own_nil w) permA)))⟩)
theorem rpputu_t (p t : Nat) (x : PrQ) (hx : PrOk x) (u : UpS) (hu : UpW u) :
  Tri Tryz.prog 59 [pt p, .agg u.e.toArray] u.ro [rpP p t x] (fun _ : Unit => True) (fun _ => .int .i64 (putM x (upOk x.st.four false u) (upB x.st.four false u)).2) (fun _ => [rpP p t (putM x (upOk x.st.four false u) (upB x.st.four false u)).1]) := by
 unfold putM
 refine Tri_open (fun w hw => ?_)
 have c1 := rcheck7_t u hu x.st.four false
 dsimp only [rpF, rpC, UpS.e, UpS.ro, lca, lna] at c1 ⊢
 by_cases h5 : x.st.ph ≠ 5
 ·rw [if_pos h5]
  refine Tri_in Tryz.func59 rfl (fun w0 S0 => ?_)
  repeat' (first | refine SD ?_ | refine SB ?_ | (refine S2 ?_; intro _) | fail)
  (refine SRt ?_; unfold RetQ; refine ⟨(), trivial, rfl, (Keeps.close (φ := fun _ : RpZ => True) (f := rpF p t x) w trivial permA)⟩)
 have h5 : x.st.ph = 5 := by omega
 rw [if_neg (by omega)]
 cases hok : upOk x.st.four false u with
 | false =>
  rw [hok] at c1
  rw [if_pos rfl]
  refine Tri_in Tryz.func59 rfl (fun w0 S0 => ?_)
  repeat' (first | refine SD ?_ | (refine HC_lex rfl rfl (by decide +kernel) rfl rfl ?_) | (refine KC ?_; refine HO_callq rfl rfl rfl rfl (c1) (fun _ _ => rfl) (srcsA) rfl rfl sqA ?_) | refine SB ?_ | (refine S2 ?_; intro _) | fail)
  (refine SRt ?_; unfold RetQ; refine ⟨(), trivial, rfl, (Keeps.close (φ := fun _ : RpZ => True) (f := rpF p t x) w trivial permA)⟩)
 | true =>
  rw [hok] at c1
  rw [if_neg (by decide)]
  have hm := upB_ok hok
  have hp := (ok_parts hok).1
  unfold upPre at hp
  simp only [Bool.and_eq_true] at hp
  have c3 := rbody_t u hu x.st.four false hp.1.1.2 hp.1.2 hp.2
  have c2 := fun A c => rpsend_t p t x hx 2 A c (upB x.st.four false u) hm
  obtain ⟨B, hB⟩ : ∃ B, upB x.st.four false u = B := ⟨_, rfl⟩
  rw [hB] at c2 c3 ⊢
  obtain ⟨⟨x2, bo⟩, hS⟩ : ∃ S, sendM x 2 B = S := ⟨_, rfl⟩
  rw [hS] at c2 ⊢
  dsimp only [UpS.e, UpS.ro, mgV] at c2 c3 ⊢
  cases bo
  all_goals
   refine Tri_in Tryz.func59 rfl (fun w0 S0 => ?_)
   repeat' (first | refine SD ?_ | (refine HC_lex rfl rfl (by decide +kernel) rfl rfl ?_; refine HO_names (l' := [0, 2, 3, 4, 5, 1, 6, 7, 8, 9, 10, 11]) (by decide +kernel) ?_) | (refine HO_2p 1 6 (by decide +kernel) rfl rfl (by decide +kernel) ?_ ?_) | (refine HO_k 2 rfl ?_; refine HO_loT rfl rfl rfl rfl rfl rfl soA ?_) | (refine HC_lex rfl rfl (by decide +kernel) rfl rfl ?_) | (refine KC ?_; refine HO_callq rfl rfl rfl rfl (c1) (fun _ _ => rfl) (srcsA) rfl rfl sqA ?_) | (refine KC ?_; refine HO_callP rfl rfl rfl rfl (c3) findA (srcsA) rfl rfl soA ?_; intro ⟨y1, y2⟩ hy; dsimp only [lca, lna]) | (refine KC ?_; refine HO_keeps ((Keeps.close (φ := fun _ : RpZ => True) (f := rpF p t x) w trivial findA)) ?_; refine HO_callP rfl rfl rfl rfl (c2 _ _) findA (srcsA) rfl rfl soA ?_; intro u hu; dsimp only [lca, lna]) | refine SB ?_ | (refine S2 ?_; intro _) | fail)
   all_goals (refine SRt ?_; unfold RetQ; refine ⟨(), trivial, rfl, permA⟩)
theorem rpnew_no (n : Int) (l : Loc) (room : Int) (t : Nat) (h : (locOk l.asn l.hold l.id l.paths l.retry l.four && roomOk room) = false) : Tri Tryz.prog 29 [.int .i64 n, locV l, .int .i64 room, pt t] [] [] (fun _ : Unit => True) (fun _ => nilV) (fun _ => []) := by
 have c1 := rcheck11_t l.asn l.hold l.id l.paths l.retry l.four
 cases hl : locOk l.asn l.hold l.id l.paths l.retry l.four with
 | false =>
  rw [hl] at c1
  refine Tri_in Tryz.func29 rfl (fun w0 S0 => ?_)
  repeat' (first | refine SK ?_ | refine SD ?_ | (refine KC ?_; refine HO_callq rfl rfl rfl rfl (c1) (fun _ _ => rfl) (trivial) rfl rfl sqA ?_) | refine SB ?_ | (refine S2 ?_; intro _) | fail)
  (refine SRt ?_; refine RU ?_)
  rfl
 | true =>
  rw [hl] at c1 h
  unfold roomOk at h
  simp only [Bool.true_and, Bool.and_eq_false_iff, decide_eq_false_iff_not] at h
  clear hl
  by_cases h1 : room < 4096
  ·refine Tri_in Tryz.func29 rfl (fun w0 S0 => ?_)
   repeat' (first | refine SK ?_ | refine SD ?_ | (refine KC ?_; refine HO_callq rfl rfl rfl rfl (c1) (fun _ _ => rfl) (trivial) rfl rfl sqA ?_) | refine SB ?_ | (refine S2 ?_; intro _) | fail)
   (refine SRt ?_; refine RU ?_)
   rfl
  ·have h2 : room > 65536 := by omega
   refine Tri_in Tryz.func29 rfl (fun w0 S0 => ?_)
   repeat' (first | refine SK ?_ | refine SD ?_ | (refine KC ?_; refine HO_callq rfl rfl rfl rfl (c1) (fun _ _ => rfl) (trivial) rfl rfl sqA ?_) | refine SB ?_ | (refine S2 ?_; intro _) | fail)
   (refine SRt ?_; refine RU ?_)
   rfl
theorem rpnew_t (n : Int) (l : Loc) (room : Nat) (t : Nat) (tm : TmM) (hl : locOk l.asn l.hold l.id l.paths l.retry l.four = true) (hr : roomOk room = true) : Tri Tryz.prog 29 [.int .i64 n, locV l, .int .i64 room, pt t] [] [rtmP t tm] (fun _ : Nat => True) (fun p => pt p) (fun p => [rpP p t (newP n l room tm)]) := by
 have c1 := rcheck11_t l.asn l.hold l.id l.paths l.retry l.four
 rw [hl] at c1
 simp only [roomOk, Bool.and_eq_true, decide_eq_true_eq] at hr
 have h1 : ¬ (room : Int) < 4096 := by omega
 have h2 : ¬ (room : Int) > 65536 := by omega
 have c2 := rqnew_t room (by omega)
 clear hl
 refine Tri_in Tryz.func29 rfl (fun w0 S0 => ?_)
 repeat' (first | refine SD ?_ | (refine KC ?_; refine HO_callq rfl rfl rfl rfl (c1) (fun _ _ => rfl) (trivial) rfl rfl sqA ?_) | (refine HC_lex rfl rfl (by decide +kernel) rfl rfl ?_) | (refine KC ?_; refine HO_callP rfl rfl rfl rfl (c2) findA (trivial) rfl rfl soA ?_; intro q hq; dsimp only [lca, lna]) | refine SB ?_ | (refine S2 ?_; intro _) | fail)
 rename_i bp
 (refine SRt ?_; unfold RetQ; refine ⟨bp, trivial, rfl, (Keeps.close (φ := fun _ : RpZ => True) (f := rpF bp t (newP n l room tm)) ⟨q, (none, 0), (none, 0)⟩ trivial (Keeps.comp (b := [ownB (none, 0) [], cel bp 89 (rpC (newP n l room tm) ⟨q, (none, 0), (none, 0)⟩ t), rquP q room [], rtmP t tm]) (Keeps.add (fun w => own_nil w) permA) permA))⟩)
theorem inn_inn {L M : List SL} (h : inn M ∈ L) : Ent (inn L) (inn M) := fun S w hp f hf => by
 obtain ⟨F, hF, hq⟩ := hp _ h
 obtain ⟨G, hG, hg⟩ := hq f hf
 exact ⟨G, fun b hb => hF b (hG b hb), hg⟩
theorem ups_mem {us : List UpS} {u : UpS} (h : u ∈ us) {e : SL} (he : e ∈ u.ro) : e ∈ upsL us := List.mem_flatMap.2 ⟨u, h, he⟩
theorem ups_src {us : List UpS} {u : UpS} (h : u ∈ us) {src l : List SL} (k : Nat) (hk : src[k]? = some (inn (upsL us))) (hl : AllSrc src l) : AllSrc src (u.ro ++ l) := by
 refine AllSrc.via k hk (inn_arr (ups_mem h (by simp [UpS.ro]))) ?_
 refine AllSrc.via k hk (inn_arr (ups_mem h (by simp [UpS.ro]))) ?_
 refine AllSrc.via k hk (inn_inn (ups_mem h (by simp [UpS.ro]))) ?_
 refine AllSrc.via k hk (inn_arr (ups_mem h (by simp [UpS.ro]))) ?_
 exact AllSrc.via k hk (inn_arr (ups_mem h (by simp [UpS.ro]))) hl
theorem rpsame_t (r : RsQ UpP) (z y : RsZ) (hz : RsOk r z) (hy : RsOk r y) (hu : r.ups.length ≤ 1000000) (hl : r.last.length ≤ 1000000) :
  Tri Tryz.prog 11 [rsV r z, rsV r y] [arr UpS.e 9 z.u.1 z.us, inn (upsL z.us), arr bE 1 z.l.1 r.last, arr UpS.e 9 y.u.1 y.us, inn (upsL y.us), arr bE 1 y.l.1 r.last] [] (fun _ : Unit => True) (fun _ => .bool true) (fun _ => []) := by
 have z1 : z.us.length = r.ups.length := by have := congrArg List.length hz.1; rwa [List.length_map] at this
 have y1 : y.us.length = r.ups.length := by have := congrArg List.length hy.1; rwa [List.length_map] at this
 have zy : (z.us.length : Int) = (y.us.length : Int) := by omega
 have hne : (!(ByteArray.toList ⟨r.last.toArray⟩ == ByteArray.toList ⟨r.last.toArray⟩)) = false := by rw [sba_eq]; simp
 have hmap : z.us.map UpS.p = y.us.map UpS.p := hz.1.trans hy.1.symm
 dsimp only [rsV, rsC]
 refine Tri_in Tryz.func11 rfl (fun w0 S0 => ?_)
 repeat' (first | refine SX ?_ | (refine HO_k 7 rfl ?_; (first | refine HO_b2s (l := r.last) rfl rfl ⟨_, seeL_ro (List.mem_of_getElem? (i := 0) rfl), arr_raw⟩ rfl rfl rfl rdA ?_ | refine HO_b2s (l := r.last) rfl rfl ⟨_, seeL_ro (List.mem_of_getElem? (i := 1) rfl), arr_raw⟩ rfl rfl rfl rdA ?_ | refine HO_b2s (l := r.last) rfl rfl ⟨_, seeL_ro (List.mem_of_getElem? (i := 2) rfl), arr_raw⟩ rfl rfl rfl rdA ?_ | refine HO_b2s (l := r.last) rfl rfl ⟨_, seeL_ro (List.mem_of_getElem? (i := 3) rfl), arr_raw⟩ rfl rfl rfl rdA ?_)) | (refine HO_k 7 rfl ?_; refine HO_b2s (l := r.last) rfl rfl ⟨_, seeL_ro (List.mem_of_getElem? (i := 5) rfl), arr_raw⟩ rfl rfl rfl rdA ?_) | (with_reducible refine HO_rw (congrArg Value.bool hne) ?_) | (with_reducible refine HO_rw (congrArg Value.bool (sba_eq _ _)) ?_) | refine SB ?_ | (refine S2 ?_; intro _) | fail)
 rename_i b2 b3
 refine HC_loop (α := Nat) (fun i => i ≤ z.us.length) (fun i => [(5, .int .i64 i), (3, pt b3), (2, pt b2)])
  (fun _ => [cel b3 29 (rsC r y), cel b2 29 (rsC r z)]) (fun i => z.us.length - i) rfl 0 (Nat.zero_le _) ⟨rfl, rfl, rfl, trivial⟩ rfl ?_
 intro i hi
 dsimp only [rsC]
 rcases Nat.lt_or_ge i z.us.length with hlt | hge
 ·obtain ⟨u, hu0⟩ : ∃ u, z.us[i]? = some u := ⟨z.us[i], List.getElem?_eq_getElem hlt⟩
  obtain ⟨v, hv0⟩ : ∃ v, y.us[i]? = some v := ⟨y.us[i]'(by omega), List.getElem?_eq_getElem (by omega)⟩
  have hp : u.p = v.p := by
   have := congrArg (fun l => l[i]?) hmap
   simp only [List.getElem?_map, hu0, hv0, Option.map_some] at this
   injection this
  have gu := hz.2 u (List.mem_of_getElem? hu0)
  have gv := hy.2 v (List.mem_of_getElem? hv0)
  have hgone : u.gone = v.gone := congrArg UpP.gone hp
  have hrou : u.routes = v.routes := congrArg UpP.routes hp
  have hpa : u.a.pa = v.a.pa := congrArg UpP.pa hp
  have hsf : u.soft = v.soft := congrArg UpP.soft hp
  have c1 := rusame_t u v hsf hgone hrou hpa gu.l gv.l gu.g gu.r
  have src : ∀ a b : SL, AllSrc [a, b, arr UpS.e 9 z.u.1 z.us, inn (upsL z.us), arr bE 1 z.l.1 r.last, arr UpS.e 9 y.u.1 y.us, inn (upsL y.us), arr bE 1 y.l.1 r.last] (u.ro ++ v.ro) := fun a b => ups_src (List.mem_of_getElem? hu0) 3 rfl (by
   have := ups_src (src := [a, b, arr UpS.e 9 z.u.1 z.us, inn (upsL z.us), arr bE 1 z.l.1 r.last, arr UpS.e 9 y.u.1 y.us, inn (upsL y.us), arr bE 1 y.l.1 r.last]) (l := []) (List.mem_of_getElem? hv0) 6 rfl trivial
   rwa [List.append_nil] at this)
  dsimp only [UpS.e] at c1
  have hltz : (i : Int) < (z.us.length : Int) := by omega
  have hlty : (i : Int) < (y.us.length : Int) := by omega
  repeat' (first | refine SX ?_ | (refine HC_lex rfl rfl (by decide +kernel) rfl rfl ?_) | (refine KC ?_; refine HO_callq rfl rfl rfl rfl (c1) (fun _ _ => rfl) (src _ _) rfl rfl sqA ?_) | refine SB ?_ | (refine S2 ?_; intro _) | fail)
  exact HX_at (i + 1) ⟨hlt, by omega⟩ ⟨rfl, rfl, rfl, trivial⟩ rfl
 ·obtain rfl : i = z.us.length := by omega
  repeat' (first | refine SX ?_ | refine SB ?_ | (refine S2 ?_; intro _) | fail)
  (refine SRt ?_; refine RU ?_)
  rfl
end Go.Proofs.YteeogabkkblkgaaGreatDoor
