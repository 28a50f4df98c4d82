/- Part of a proof of many texts: what the theorem at its end leans on. -/
import Derived.Test.YteeogabkkblkgaaGreatDoorVRiA
import Derived.Test.YteeogabkkblkgaaGreatDoorVRgB
import Derived.Test.YteeogabkkblkgaaGreatDoorVRhC
import Derived.Test.YteeogabkkblkgaaGreatDoorVRhD
import Derived.Test.YteeogabkkblkgaaGreatDoorVPgG
namespace Go.Proofs.YteeogabkkblkgaaGreatDoor
set_option maxHeartbeats 1000000000
set_option linter.unusedVariables false
set_option linter.unusedSimpArgs false
open Go.RowKit
attribute [local irreducible] HC HX HO Tri eP adr
theorem rphapG_t (h p t : Nat) (now : Int) (h0 : 0 ≤ now) (r : RsQ UpP) (x : PrQ) (hx : PrOk x) (hh : HoOk x.st) (hid : 0 ≤ x.lo.id ∧ x.lo.id ≤ 4294967295) (e : EvQ) (he : EvH e) (A : Option Addr) (c : Nat) (hd : e.nt.d.length ≤ 1000000) (R : PrQ × RsQ UpP)
  (hok : (onceM now x r e).2.2 = true → R = ((onceM now x r e).1, (onceM now x r e).2.1))
  (hno : (onceM now x r e).2.2 = false → Tri Tryz.prog 81 [pt p, evV fullQ none 0, .int .i64 now, pt h] [arr bE 1 none []] [rrP h (onceM now x r e).2.1, rpP p t (onceM now x r e).1] (fun _ : Unit => True) (fun _ => .tuple #[]) (fun _ => [rrP h R.2, rpP p t R.1])) :
  Tri Tryz.prog 81 [pt p, evV e A c, .int .i64 now, pt h] [arr bE 1 A e.nt.d] [rrP h r, rpP p t x] (fun _ : Unit => True) (fun _ => .tuple #[]) (fun _ => [rrP h R.2, rpP p t R.1]) := by
 have c1 := rstep_t x.lo x.st ⟨e.k, e.o.as, e.o.hold, e.o.id, e.o.four, e.o.paths, e.nt.c, e.nt.s, A, c, e.nt.d⟩
 rw [step_ev] at c1
 have hres := res_ok x.lo x.st e.s
 have hdl := step_data x.lo x.st e
 have hdat := step_dat x.lo x.st e.s
 have hLl := acs_len x.lo x.st e.s
 have hLn := acs_n x.lo x.st e.s hh he
 have hph := step_ph x.lo x.st e.s hx.ph
 unfold onceM at hok hno
 obtain ⟨q, hq⟩ : ∃ q, stepR x.lo x.st e.s = q := ⟨_, rfl⟩
 rw [hq] at c1 hres hdl hdat hLl hLn hph hok hno
 have hres' : ∀ dA dc, q.acts dA dc = (acsR q).map (acE dA dc) := hres
 dsimp only [outV, Loc.c, Sta.c, EvS.c] at c1
 simp only [hres'] at c1
 have had : ∀ a ∈ acsR q, a.nt.d = if a.k = 4 then q.data else [] := fun a ha => acs_d ha
 obtain ⟨L, hL⟩ : ∃ L, acsR q = L := ⟨_, rfl⟩
 simp only [hL] at c1 had hok hno hLl hLn
 obtain ⟨FIN, hF⟩ : ∃ F, actsM now { x with st := q.t } r L = F := ⟨_, rfl⟩
 rw [hF] at hok hno
 have hx1 : PrOk { x with st := q.t } := { hx with ph := hph }
 refine Tri_keeps (rw' := [rpP p t x, rrP h r]) (Keeps.pick 1 rfl rfl Keeps.refl) ?_
 refine Tri_open (fun y hy => ?_)
 dsimp only [rpF, rpC, lca, lna]
 refine Tri_in Tryz.func81 rfl (fun w0 S0 => ?_)
 repeat' (first | refine SX ?_ | (refine HC_lex rfl rfl (by decide +kernel) rfl rfl ?_; refine HO_names (l' := [0, 1, 2, 3, 4, 5, 6, 7, 8, 9, 10, 11, 12, 13, 14, 15]) (by decide +kernel) ?_) | (refine HO_2p 9 13 (by decide +kernel) rfl rfl (by decide +kernel) ?_ ?_) | (refine KC ?_; refine HO_callP rfl rfl rfl rfl (c1) findA (trivial) rfl rfl soA ?_; intro ⟨⟨g1, g2⟩, ⟨g3, g4⟩⟩ hg; dsimp only [lca, lna]) | refine SB ?_ | (refine S2 ?_; intro _) | fail)
 all_goals
  clear c1
  dsimp only at hg
  have hent : ∀ S w, (arr bE 1 A e.nt.d).p S w → (arr bE 1 g3 q.data).p S w := by
   intro S w hp
   rcases hg with hg | hg
   ·rw [hg]
    exact arr_nil S w
   ·obtain ⟨rfl, rfl⟩ := Prod.mk.inj hg
    rcases hdat with hq0 | hq0
    ·rw [hq0]
     exact arr_nil S w
    ·rw [hq0]
     exact hp
  refine HC_keeps (rw' := [rrP h r, rpP p t { x with st := q.t }, own idE 138 5 g1 (L.map (acE g3 g4)).length g2 ((L.map (acE g3 g4)).map ActS.e)])
   (Keeps.comp (Keeps.close (φ := fun _ : RpZ => True) (f := rpF p t { x with st := q.t }) y trivial findA) permA) ?_
  rw [List.length_map]
  refine HC_loop (α := Nat × PrQ × RsQ UpP) (fun y => y.1 ≤ L.length ∧ PrOk y.2.1 ∧ y.2.1.lo = x.lo ∧ actsM now y.2.1 y.2.2 (L.drop y.1) = FIN) (fun y => [(10, .int .i64 y.1), (9, .slice g1 L.length g2), (0, pt p), (0 + 1 + 1, .int .i64 now), (0 + 1 + 1 + 1, pt h)])
   (fun y => [rrP h y.2.2, rpP p t y.2.1, own idE 138 5 g1 L.length g2 ((L.map (acE g3 g4)).map ActS.e)]) (fun y => L.length - y.1) rfl (0, { x with st := q.t }, r) ⟨Nat.zero_le _, hx1, rfl, hF⟩ ⟨rfl, rfl, rfl, rfl, rfl, trivial⟩ rfl ?_
  rintro ⟨i, yp, yr⟩ ⟨hi, hyp, hlo, hfin⟩
  dsimp only at hi hyp hlo hfin ⊢
  rcases Nat.lt_or_ge i L.length with hlt | hge
  ·have hltz : (i : Int) < (L.length : Int) := by omega
   obtain ⟨a, ha⟩ : ∃ a, L[i]? = some a := ⟨L[i], List.getElem?_eq_getElem hlt⟩
   have hdrop : L.drop i = a :: L.drop (i + 1) := by
    rw [List.drop_eq_getElem_cons hlt]
    congr 1
    have := List.getElem?_eq_getElem hlt
    rw [ha] at this
    injection this with this
    exact this.symm
   have hadd := had a (List.mem_of_getElem? ha)
   have han := hLn a (List.mem_of_getElem? ha)
   have hrow : ((L.map (acE g3 g4)).map ActS.e)[i]? = some (acE g3 g4 a).e := by rw [List.getElem?_map, List.getElem?_map, ha]; rfl
   rw [hdrop] at hfin
   unfold actsM at hfin
   have hlen : L.length = ((L.map (acE g3 g4)).map ActS.e).length := by rw [List.length_map, List.length_map]
   have k0 := fun A c d hd => rpact_t h p t now h0 yr yp hyp (by rw [hlo]; exact hid) a.k a.n a.nt.c a.nt.s han A c d hd
   have kst := actM_st now yp yr a
   have kok := actM_ok hyp now yr a
   have eta : ∀ d, a.nt.d = d → (⟨a.k, a.n, ⟨a.nt.c, a.nt.s, d⟩⟩ : AcQ) = a := fun d hd => by subst hd; rfl
   by_cases hk4 : a.k = 4
   ·have hd4 : a.nt.d = q.data := by rw [hadd, if_pos hk4]
    have e4 : (acE g3 g4 a).e = [.int .i64 a.k, .int .i64 a.n, .int .i64 a.nt.c, .int .i64 a.nt.s, .slice g3 q.data.length g4] := by
     unfold acE
     rw [if_pos hk4, hd4]
     rfl
    rw [e4] at hrow
    have k1 := k0 g3 g4 q.data (by omega)
    rw [eta _ hd4] at k1
    clear k0
    obtain ⟨⟨y2, r2, bo⟩, hy2⟩ : ∃ y, actM now yp yr a = y := ⟨_, rfl⟩
    rw [hy2] at k1 hfin kst kok
    dsimp only at k1 hfin kst kok
    cases bo with
    | true =>
     rw [if_pos rfl] at hfin
     repeat' (first | refine SX ?_ | (refine KC ?_; refine HO_callP rfl rfl rfl rfl (k1) findA ((AllSrc.via 0 rfl hent trivial)) rfl rfl soA ?_; intro w hw; dsimp only [lca, lna]) | refine SB ?_ | (refine S2 ?_; intro _) | fail)
     refine HX_keeps (rw' := [rrP h r2, rpP p t y2, own idE 138 5 g1 L.length g2 ((L.map (acE g3 g4)).map ActS.e)]) permA ?_
     exact HX_at (i + 1, y2, r2) ⟨⟨hlt, kok, kst.2.1.trans hlo, hfin⟩, by show L.length - (i + 1) < L.length - i; omega⟩ ⟨rfl, rfl, rfl, rfl, rfl, trivial⟩ rfl
    | false =>
     rw [if_neg (by decide)] at hfin
     rw [← hfin] at hno
     have k2 : Tri Tryz.prog 81 [pt p, .agg #[.int .i64 9, .int .i64 0, .int .i64 0, .int .u32 0, .bool false, .int .i64 0, .int .i64 6, .int .i64 8, .slice none 0 0], .int .i64 now, pt h] [arr bE 1 none []] [rrP h r2, rpP p t y2] (fun _ : Unit => True) (fun _ => .tuple #[]) (fun _ => [rrP h R.2, rpP p t R.1]) := hno rfl
     repeat' (first | refine SX ?_ | (refine KC ?_; refine HO_callP rfl rfl rfl rfl (k1) findA ((AllSrc.via 0 rfl hent trivial)) rfl rfl soA ?_; intro w hw; dsimp only [lca, lna]) | (refine KC ?_; refine HO_callP rfl rfl rfl rfl (k2) findA ((AllSrc.free (fun w => arr_nil _ w) trivial)) rfl rfl soA ?_; intro w hw; dsimp only [lca, lna]) | refine SB ?_ | (refine S2 ?_; intro _) | fail)
     (refine SRt ?_; unfold RetQ; refine ⟨(), trivial, rfl, permA⟩)
   ·have hd4 : a.nt.d = [] := by rw [hadd, if_neg hk4]
    have e4 : (acE g3 g4 a).e = [.int .i64 a.k, .int .i64 a.n, .int .i64 a.nt.c, .int .i64 a.nt.s, .slice none 0 0] := by
     unfold acE
     rw [if_neg hk4]
     rfl
    rw [e4] at hrow
    have k1 := k0 none 0 [] (by simp)
    rw [eta _ hd4] at k1
    clear k0
    obtain ⟨⟨y2, r2, bo⟩, hy2⟩ : ∃ y, actM now yp yr a = y := ⟨_, rfl⟩
    rw [hy2] at k1 hfin kst kok
    dsimp only [List.length_nil] at k1 hfin kst kok
    cases bo with
    | true =>
     rw [if_pos rfl] at hfin
     repeat' (first | refine SX ?_ | (refine KC ?_; refine HO_callP rfl rfl rfl rfl (k1) findA ((AllSrc.free (fun w => arr_nil _ w) trivial)) rfl rfl soA ?_; intro w hw; dsimp only [lca, lna]) | refine SB ?_ | (refine S2 ?_; intro _) | fail)
     refine HX_keeps (rw' := [rrP h r2, rpP p t y2, own idE 138 5 g1 L.length g2 ((L.map (acE g3 g4)).map ActS.e)]) permA ?_
     exact HX_at (i + 1, y2, r2) ⟨⟨hlt, kok, kst.2.1.trans hlo, hfin⟩, by show L.length - (i + 1) < L.length - i; omega⟩ ⟨rfl, rfl, rfl, rfl, rfl, trivial⟩ rfl
    | false =>
     rw [if_neg (by decide)] at hfin
     rw [← hfin] at hno
     have k2 : Tri Tryz.prog 81 [pt p, .agg #[.int .i64 9, .int .i64 0, .int .i64 0, .int .u32 0, .bool false, .int .i64 0, .int .i64 6, .int .i64 8, .slice none 0 0], .int .i64 now, pt h] [arr bE 1 none []] [rrP h r2, rpP p t y2] (fun _ : Unit => True) (fun _ => .tuple #[]) (fun _ => [rrP h R.2, rpP p t R.1]) := hno rfl
     repeat' (first | refine SX ?_ | (refine KC ?_; refine HO_callP rfl rfl rfl rfl (k1) findA ((AllSrc.free (fun w => arr_nil _ w) trivial)) rfl rfl soA ?_; intro w hw; dsimp only [lca, lna]) | (refine KC ?_; refine HO_callP rfl rfl rfl rfl (k2) findA ((AllSrc.free (fun w => arr_nil _ w) trivial)) rfl rfl soA ?_; intro w hw; dsimp only [lca, lna]) | refine SB ?_ | (refine S2 ?_; intro _) | fail)
     (refine SRt ?_; unfold RetQ; refine ⟨(), trivial, rfl, permA⟩)
  ·obtain rfl : i = L.length := by omega
   rw [List.drop_length] at hfin
   have hfin : (yp, yr, true) = FIN := hfin
   have hR := hok (by rw [← hfin])
   rw [← hfin] at hR
   rw [hR]
   have hltz : ¬ ((L.length : Int) < (L.length : Int)) := by omega
   repeat' (first | refine SX ?_ | refine SB ?_ | (refine S2 ?_; intro _) | fail)
   (refine SRt ?_; unfold RetQ; refine ⟨(), trivial, rfl, permA⟩)
theorem rphap_t (h p t : Nat) (now : Int) (h0 : 0 ≤ now) (r : RsQ UpP) (x : PrQ) (hx : PrOk x) (hh : HoOk x.st) (hid : 0 ≤ x.lo.id ∧ x.lo.id ≤ 4294967295) (e : EvQ) (he : EvH e) (A : Option Addr) (c : Nat) (hd : e.nt.d.length ≤ 1000000) :
  Tri Tryz.prog 81 [pt p, evV e A c, .int .i64 now, pt h] [arr bE 1 A e.nt.d] [rrP h r, rpP p t x] (fun _ : Unit => True) (fun _ => .tuple #[]) (fun _ => [rrP h (hapM now x r e).2, rpP p t (hapM now x r e).1]) := by
 refine rphapG_t h p t now h0 r x hx hh hid e he A c hd (hapM now x r e) (fun hk => if_pos hk) (fun hk => ?_)
 have hnk : ¬ (onceM now x r e).2.2 = true := by rw [hk]; decide
 have hst := onceM_st now x r e
 have h3 := fail_ph hx hk
 have h5 := step_ph x.lo x.st e.s hx.ph
 obtain ⟨b1, b2, _⟩ := once_bad now (onceM now x r e).1 (onceM now x r e).2.1 ⟨6, 8, []⟩ (by rw [hst.2.1]; exact hx.lo) (by rw [hst.1]; exact ⟨h3, h5.2⟩)
 have b1 : (onceM now (onceM now x r e).1 (onceM now x r e).2.1 fullQ).2.2 = true := b1
 refine rphapG_t h p t now h0 (onceM now x r e).2.1 (onceM now x r e).1 (onceM_ok hx now r e) (once_hold hx.lo hh he) (lo_id hid now r e) fullQ (evh0 _ _) none 0 (by decide) (hapM now x r e) (fun _ => ?_) (fun hk2 => ?_)
 ·exact if_neg hnk
 ·rw [b1] at hk2
  cases hk2
theorem rmsg_t (h p t : Nat) (now : Int) (h0 : 0 ≤ now) (r : RsQ UpP) (hr : r.ups.length ≤ 70000) (x : PrQ) (hx : PrOk x) (hh : HoOk x.st) (hid : 0 ≤ x.lo.id ∧ x.lo.id ≤ 4294967295) (k : Int) (A : Option Addr) (c : Nat) (b : List UInt8) (hb : b.length ≤ 100000) (hc : b.length ≤ c) :
  Tri Tryz.prog 82 [pt p, mgV k A b.length c, .int .i64 now, pt h] [arr bE 1 A b] [rrP h r, rpP p t x] (fun _ : Unit => True) (fun _ => .tuple #[])
   (fun _ => [rrP h (hapM now x (msgM updM x r k b).1 (msgM updM x r k b).2).2, rpP p t (hapM now x (msgM updM x r k b).1 (msgM updM x r k b).2).1]) := by
 have hd2 := msg_d x r k b
 have hev := msg_hold x r k b
 have c9 := fun A c => rphap_t h p t now h0 (msgM updM x r k b).1 x hx hh hid (msgM updM x r k b).2 hev A c (by omega)
 obtain ⟨FIN, hF⟩ : ∃ F, hapM now x (msgM updM x r k b).1 (msgM updM x r k b).2 = F := ⟨_, rfl⟩
 simp only [hF] at c9 ⊢
 clear hF hev
 unfold msgM at c9 hd2
 by_cases h1 : k = 1
 ·subst h1
  rw [if_pos rfl] at hd2
  simp only [if_pos (rfl : (1 : Int) = 1)] at c9
  have c1 := roget_t A c b hb hc
  obtain ⟨⟨o, n⟩, hM⟩ : ∃ M, opM b = M := ⟨_, rfl⟩
  rw [hM] at c1
  simp only [hM] at c9
  dsimp only [noV, opV, mgV] at c1 ⊢
  by_cases hn : n.c ≠ 0
  ·simp only [if_pos hn] at c9
   dsimp only [evV, badQ, op0] at c9
   refine Tri_in Tryz.func82 rfl (fun w0 S0 => ?_)
   repeat' (first | refine SD ?_ | (refine KC ?_; refine HO_callP rfl rfl rfl rfl (c1) findA (srcsA) rfl rfl soA ?_; intro ⟨y1, y2⟩ hu; dsimp only [lca, lna]) | (refine KC ?_; refine HO_callP rfl rfl rfl rfl (c9 _ _) findA (srcsA) rfl rfl soA ?_; intro u hu; dsimp only [lca, lna]) | refine SB ?_ | (refine T2 ?_; intros) | fail)
   (refine SRt ?_; unfold RetQ; refine ⟨(), trivial, rfl, permA⟩)
  ·simp only [if_neg hn] at c9
   have c9 := c9 none 0
   dsimp only [evV, nt0, List.length_nil] at c9
   refine Tri_in Tryz.func82 rfl (fun w0 S0 => ?_)
   repeat' (first | refine SD ?_ | (refine KC ?_; refine HO_callP rfl rfl rfl rfl (c1) findA (srcsA) rfl rfl soA ?_; intro ⟨y1, y2⟩ hu; dsimp only [lca, lna]) | (refine KC ?_; refine HO_callP rfl rfl rfl rfl (c9) findA ((AllSrc.free (fun w => arr_nil _ w) trivial)) rfl rfl soA ?_; intro u hu; dsimp only [lca, lna]) | refine SB ?_ | (refine T2 ?_; intros) | fail)
   (refine SRt ?_; unfold RetQ; refine ⟨(), trivial, rfl, permA⟩)
 simp only [if_neg h1] at c9
 by_cases h3 : k = 3
 ·subst h3
  simp only [if_pos (rfl : (3 : Int) = 3)] at c9
  have c9 := c9 none 0
  dsimp only [evV, op0, nt0, List.length_nil] at c9
  dsimp only [mgV]
  refine Tri_in Tryz.func82 rfl (fun w0 S0 => ?_)
  repeat' (first | refine SD ?_ | (refine KC ?_; refine HO_callP rfl rfl rfl rfl (c9) findA ((AllSrc.free (fun w => arr_nil _ w) trivial)) rfl rfl soA ?_; intro u hu; dsimp only [lca, lna]) | refine SB ?_ | (refine T2 ?_; intros) | fail)
  (refine SRt ?_; unfold RetQ; refine ⟨(), trivial, rfl, permA⟩)
 simp only [if_neg h3] at c9
 by_cases h2 : k = 2
 ·subst h2
  simp only [if_pos (rfl : (2 : Int) = 2)] at c9
  refine Tri_keeps (rw' := [rpP p t x, rrP h r]) (Keeps.pick 1 rfl rfl Keeps.refl) ?_
  refine Tri_open (fun y hy => ?_)
  by_cases h5 : x.st.ph = 5
  ·simp only [if_pos h5] at c9
   have c1 := ruget_t A c b hb x.st.four x.st.paths
   rcases updM_cases x.st.four x.st.paths b with ⟨⟨nc, ns, nd⟩, hM, hnc, hnd⟩ | ⟨u0, hM⟩
   ·rw [hM] at c1
    simp only [hM] at c9
    dsimp only at hnc hnd
    subst hnd
    have c9 := c9 none 0
    dsimp only [evV, badQ, op0, List.length_nil] at c1 c9
    dsimp only [mgV, rpF, rpC, lca, lna]
    refine Tri_in Tryz.func82 rfl (fun w0 S0 => ?_)
    repeat' (first | refine SD ?_ | (refine HC_lex rfl rfl (by decide +kernel) rfl rfl ?_; refine HO_names (l' := [0, 1, 2, 3, 4, 5, 6, 7, 8, 9, 10, 11, 12, 13, 14, 15, 16, 17, 18, 19]) (by decide +kernel) ?_) | (refine HO_3p 12 16 17 (by decide +kernel) rfl rfl rfl (by decide +kernel) ?_ ?_ ?_) | (refine HO_2p 12 16 (by decide +kernel) rfl rfl (by decide +kernel) ?_ ?_) | (refine HO_2p 12 17 (by decide +kernel) rfl rfl (by decide +kernel) ?_ ?_) | (refine HO_2p 16 17 (by decide +kernel) rfl rfl (by decide +kernel) ?_ ?_) | (refine KC ?_; refine HO_callP rfl rfl rfl rfl (c1) findA (srcsA) rfl rfl soA ?_; intro u hu; dsimp only [lca, lna]) | (refine KC ?_; refine HO_keeps ((Keeps.close (φ := fun _ : RpZ => True) (f := rpF p t x) y trivial findA)) ?_; refine HO_callP rfl rfl rfl rfl (c9) findA ((AllSrc.free (fun w => arr_nil _ w) trivial)) rfl rfl soA ?_; intro u hu; dsimp only [lca, lna]) | refine SB ?_ | (refine T2 ?_; intros) | fail)
    all_goals (refine SRt ?_; unfold RetQ; refine ⟨(), trivial, rfl, permA⟩)
   ·rw [hM] at c1
    simp only [hM] at c9
    have c9 := c9 none 0
    dsimp only [evV, op0, nt0, List.length_nil] at c1 c9
    dsimp only [mgV, rpF, rpC, lca, lna]
    refine Tri_keeps (rw' := rrP h r :: rpF p t x y) (Keeps.pick 4 rfl rfl Keeps.refl) ?_
    refine Tri_open (fun z hz => ?_)
    have hzl : z.us.length ≤ 70000 := by
     have := congrArg List.length hz.1
     rw [List.length_map] at this
     omega
    dsimp only [rrF, rsC, rsP, rpF, rpC, lca, lna]
    refine Tri_in Tryz.func82 rfl (fun w0 S0 => ?_)
    repeat' (first | refine SD ?_ | (refine HC_lex rfl rfl (by decide +kernel) rfl rfl ?_; refine HO_names (l' := [0, 1, 2, 3, 4, 5, 6, 7, 8, 9, 10, 11, 12, 13, 14, 15, 16, 17, 18, 19]) (by decide +kernel) ?_) | (refine HO_3p 12 16 17 (by decide +kernel) rfl rfl rfl (by decide +kernel) ?_ ?_ ?_) | (refine HO_2p 12 16 (by decide +kernel) rfl rfl (by decide +kernel) ?_ ?_) | (refine HO_2p 12 17 (by decide +kernel) rfl rfl (by decide +kernel) ?_ ?_) | (refine HO_2p 16 17 (by decide +kernel) rfl rfl (by decide +kernel) ?_ ?_) | (refine KC ?_; refine HO_callP rfl rfl rfl rfl (c1) findA (srcsA) rfl rfl soA ?_; intro u hu; dsimp only [lca, lna]) | refine SB ?_ | (refine T2 ?_; intros) | fail)
    all_goals
     rename_i A' c'
     have e1 : z.us.length + 1 = (z.us ++ [u]).length := by simp
     have e2 : z.us.map UpS.e ++ [[Value.slice u.gA u.gone.length u.gc, Value.slice u.rA u.routes.length u.rc, .int .i64 u.a.org, .slice u.a.pA u.a.path.length u.a.pc, .int .u32 u.a.nxt, .int .i64 u.a.med, .int .i64 u.a.pref, .slice u.a.cA u.a.comms.length u.a.cc, .bool u.soft]] = (z.us ++ [u]).map UpS.e := by rw [List.map_append]; rfl
     rw [e1, e2]
     have hz2 := rs_snoc hz hu.1 hu.2 (A', c')
     have e3 : upsL z.us ++ u.ro = upsL (z.us ++ [u]) := by simp [upsL]
     refine HO_keeps (rw' := [rrP h { r with ups := r.ups ++ [u0] }, rpP p t x]) (by
      refine Keeps.comp (Keeps.close (φ := fun _ : RpZ => True) (f := rpF p t x) y trivial findA) ?_
      refine Keeps.comp (b := [inn (upsL z.us), inn u.ro, cel h 29 (rsC { r with ups := r.ups ++ [u0] } ⟨z.us ++ [u], (A', c'), z.l⟩), own idE 55 9 A' (z.us ++ [u]).length c' ((z.us ++ [u]).map UpS.e), ownB z.l r.last, rpP p t x]) permA ?_
      refine Keeps.comp (inn_flat Keeps.refl) ?_
      rw [e3]
      exact Keeps.close (φ := RsOk { r with ups := r.ups ++ [u0] }) (f := rrF h { r with ups := r.ups ++ [u0] }) ⟨z.us ++ [u], (A', c'), z.l⟩ hz2 permA) ?_
     repeat' (first | (refine KC ?_; refine HO_callP rfl rfl rfl rfl (c9) findA ((AllSrc.free (fun w => arr_nil _ w) trivial)) rfl rfl soA ?_; intro v hv; dsimp only [lca, lna]) | refine SB ?_ | (refine T2 ?_; intros) | fail)
     (refine SRt ?_; unfold RetQ; refine ⟨(), trivial, rfl, permA⟩)
  ·simp only [if_neg h5] at c9
   have c9 := c9 none 0
   dsimp only [evV, op0, nt0, List.length_nil] at c9
   dsimp only [mgV, rpF, rpC, lca, lna]
   refine Tri_in Tryz.func82 rfl (fun w0 S0 => ?_)
   repeat' (first | refine SD ?_ | (refine KC ?_; refine HO_keeps ((Keeps.close (φ := fun _ : RpZ => True) (f := rpF p t x) y trivial findA)) ?_; refine HO_callP rfl rfl rfl rfl (c9) findA ((AllSrc.free (fun w => arr_nil _ w) trivial)) rfl rfl soA ?_; intro u hu; dsimp only [lca, lna]) | refine SB ?_ | (refine T2 ?_; intros) | fail)
   (refine SRt ?_; unfold RetQ; refine ⟨(), trivial, rfl, permA⟩)
 simp only [if_neg h2] at c9
 have c9 := c9 none 0
 dsimp only [evV, op0, nt0, List.length_nil] at c9
 dsimp only [mgV]
 refine Tri_in Tryz.func82 rfl (fun w0 S0 => ?_)
 repeat' (first | refine SD ?_ | (refine KC ?_; refine HO_callP rfl rfl rfl rfl (c9) findA ((AllSrc.free (fun w => arr_nil _ w) trivial)) rfl rfl soA ?_; intro u hu; dsimp only [lca, lna]) | refine SB ?_ | (refine T2 ?_; intros) | fail)
 (refine SRt ?_; unfold RetQ; refine ⟨(), trivial, rfl, permA⟩)
end Go.Proofs.YteeogabkkblkgaaGreatDoor
