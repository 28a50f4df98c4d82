/- Part of a proof of many texts: what the theorem at its end leans on. -/
import Derived.Test.YteeogabkkblkgaaGreatDoorVPgA
import Derived.Test.YteeogabkkblkgaaGreatDoorVPeN
import Derived.Test.YteeogabkkblkgaaGreatDoorVPeR
import Derived.Test.YteeogabkkblkgaaGreatDoorVPeQ
import Derived.Test.YteeogabkkblkgaaGreatDoorVPeA
import Derived.Test.YteeogabkkblkgaaGreatDoorVPeG
import Derived.Test.YteeogabkkblkgaaGreatDoorVPeW
namespace Go.Proofs.YteeogabkkblkgaaGreatDoor
set_option maxHeartbeats 1000000000
set_option linter.unusedVariables false
set_option linter.unusedSimpArgs false
open Go.RowKit
attribute [local irreducible] HC HX HO Tri eP adr
@[reducible] def peC (x : PrQ) (q s t : Nat) : List Value := [pt q, .int .i64 x.n, .int .i64 x.lo.asn, .int .i64 x.lo.hold, .int .u32 x.lo.id, .bool x.lo.four, .int .i64 x.lo.paths, .int .i64 x.lo.retry,
 .int .i64 x.st.ph, .int .i64 x.st.hold, .bool x.st.four, .bool x.st.paths, .int .u32 x.st.id, pt s, pt t]
@[reducible] def peF (p t : Nat) (x : PrQ) (z : Nat × Nat) : List SL := [cel p 101 (peC x z.1 z.2 t), quP z.1 x.room x.q, stP z.2 x.s, tmP t x.tm]
def peP (p t : Nat) (x : PrQ) : SL := exP (fun _ : Nat × Nat => True) (peF p t x)
structure RsZ where
 us : List UpS
 u : OA
 l : OA
@[reducible] def rsC (r : RsQ UpP) (z : RsZ) : List Value := [.slice z.u.1 z.us.length z.u.2, .bool r.con, .bool r.clo, .slice z.l.1 r.last.length z.l.2, .bool r.up, .bool r.dn]
instance : EncOk UpS.e 9 := ⟨fun _ => ⟨rfl, rfl⟩⟩
def upsL (us : List UpS) : List SL := us.flatMap UpS.ro
@[reducible] def rsP (r : RsQ UpP) (z : RsZ) : List SL := [own idE 55 9 z.u.1 z.us.length z.u.2 (z.us.map UpS.e), inn (upsL z.us), ownB z.l r.last]
def RsOk (r : RsQ UpP) (z : RsZ) : Prop := z.us.map UpS.p = r.ups ∧ (∀ u ∈ z.us, UpG u)
@[reducible] def haF (h p : Nat) (now : Int) (r : RsQ UpP) (z : RsZ) : List SL := [cel h 104 (pt p :: .int .i64 now :: rsC r z)] ++ rsP r z
def haP (h p : Nat) (now : Int) (r : RsQ UpP) : SL := exP (RsOk r) (haF h p now r)
theorem pset_t (p t : Nat) (x : PrQ) (hx : PrOk x) (k n now : Int) :
  Tri Tryz.prog 94 [pt p, .int .i64 k, .int .i64 n, .int .i64 now] [] [peP p t x] (fun _ : Unit => True) (fun _ => .tuple #[]) (fun _ => [peP p t (timeM x k n now)]) := by
 refine Tri_open (fun z hz => ?_)
 obtain ⟨q, s⟩ := z
 dsimp only [peF, peC, lca, lna]
 unfold timeM
 by_cases hn : n = 0
 ·rw [if_pos hn]
  have c1 := tstop_t t x.tm ⟨x.n, k⟩
  dsimp only [tkV, tkC] at c1
  refine Tri_in Tryz.func94 rfl (fun w0 S0 => ?_)
  repeat' (first | refine SD ?_ | (refine HC_lex rfl rfl (by decide +kernel) rfl rfl ?_) | (refine KC ?_; refine HO_callP rfl rfl rfl rfl (c1) findA (trivial) rfl rfl soA ?_; intro y hy; dsimp only [lca, lna]) | refine SB ?_ | (refine S2 ?_; intro _) | fail)
  (refine SRt ?_; unfold RetQ; refine ⟨(), trivial, rfl, (Keeps.close (φ := fun _ : Nat × Nat => True) (f := peF p t { x with tm := dlL ⟨x.n, k⟩ x.tm }) (q, s) trivial permA)⟩)
 ·rw [if_neg hn]
  have c1 := nadd_t now n
  have c2 := tset_t t x.tm ⟨x.n, k⟩ (addM now n) (by have := hx.tl; omega)
  dsimp only [tkV, tkC] at c2
  refine Tri_in Tryz.func94 rfl (fun w0 S0 => ?_)
  repeat' (first | refine SD ?_ | (refine HC_lex rfl rfl (by decide +kernel) rfl rfl ?_) | (refine KC ?_; refine HO_callq rfl rfl rfl rfl (c1) (fun _ _ => rfl) (trivial) rfl rfl sqA ?_) | (refine KC ?_; refine HO_callP rfl rfl rfl rfl (c2) findA (trivial) rfl rfl soA ?_; intro y hy; dsimp only [lca, lna]) | refine SB ?_ | (refine S2 ?_; intro _) | fail)
  (refine SRt ?_; unfold RetQ; refine ⟨(), trivial, rfl, (Keeps.close (φ := fun _ : Nat × Nat => True) (f := peF p t { x with tm := (tmSet x.tm ⟨x.n, k⟩ (addM now n)).1 }) (q, s) trivial permA)⟩)
theorem psend_t (p t : Nat) (x : PrQ) (hx : PrOk x) (k : Int) (A : Option Addr) (c : Nat) (b : List UInt8) (hb : msgOk k b.length = true) :
  Tri Tryz.prog 46 [pt p, mgV k A b.length c] [arr bE 1 A b, leW] [peP p t x] (fun _ : Unit => True) (fun _ => .bool (sendM x k b).2) (fun _ => [peP p t (sendM x k b).1]) := by
 refine Tri_open (fun z hz => ?_)
 obtain ⟨q, s⟩ := z
 have hl := (msgOk_iff.1 hb).2.2.1
 have c1 := fput_t k A c b (by omega)
 have e : fpB k b = frB k b := if_pos hb
 have hfl := frB_len k b
 rw [e] at c1
 have c2 := fun A2 c2 => qput_t q x.room x.q hx.room A2 c2 (frB k b) (by omega)
 unfold sendM
 obtain ⟨F, hF⟩ : ∃ F, frB k b = F := ⟨_, rfl⟩
 rw [hF] at c1 c2 ⊢
 dsimp only [peF, peC, mgV, lca, lna] at c1 ⊢
 by_cases hr : x.q.length + F.length ≤ x.room
 ·rw [if_pos hr]
  rw [if_pos hr, decide_eq_true hr] at c2
  refine Tri_in Tryz.func46 rfl (fun w0 S0 => ?_)
  repeat' (first | (refine KC ?_; refine HO_callP rfl rfl rfl rfl (c1) findA (srcsA) rfl rfl soA ?_; intro ⟨y1, y2⟩ hy; dsimp only [lca, lna]) | (refine KC ?_; refine HO_callP rfl rfl rfl rfl (c2 _ _) findA (srcsA) rfl rfl soA ?_; intro y hy; dsimp only [lca, lna]) | refine SB ?_ | (refine S2 ?_; intro _) | fail)
  (refine SRt ?_; unfold RetQ; refine ⟨(), trivial, rfl, (Keeps.close (φ := fun _ : Nat × Nat => True) (f := peF p t { x with q := x.q ++ F }) (q, s) trivial permA)⟩)
 ·rw [if_neg hr]
  rw [if_neg hr, decide_eq_false hr] at c2
  refine Tri_in Tryz.func46 rfl (fun w0 S0 => ?_)
  repeat' (first | (refine KC ?_; refine HO_callP rfl rfl rfl rfl (c1) findA (srcsA) rfl rfl soA ?_; intro ⟨y1, y2⟩ hy; dsimp only [lca, lna]) | (refine KC ?_; refine HO_callP rfl rfl rfl rfl (c2 _ _) findA (srcsA) rfl rfl soA ?_; intro y hy; dsimp only [lca, lna]) | refine SB ?_ | (refine S2 ?_; intro _) | fail)
  (refine SRt ?_; unfold RetQ; refine ⟨(), trivial, rfl, (Keeps.close (φ := fun _ : Nat × Nat => True) (f := peF p t x) (q, s) trivial permA)⟩)
theorem ntB_ok {n : NtQ} (h : ntOk n = true) : msgOk 3 (ntB n).length = true := by
 simp only [ntOk, Bool.and_eq_true, decide_eq_true_eq] at h
 refine msgOk_iff.2 ⟨by decide, ?_, ?_, .inl (by decide)⟩
 ·show (21 : Int) ≤ 19 + ((ntB n).length : Nat)
  simp only [ntB, List.length_cons]
  omega
 ·simp only [ntB, List.length_cons]
  omega
theorem plast_t (h p : Nat) (now : Int) (r : RsQ UpP) (n : NtQ) (A : Option Addr) (c : Nat) (hd : n.d.length ≤ 1000000) :
  Tri Tryz.prog 92 [pt h, noV n A c] [arr bE 1 A n.d, leW] [haP h p now r] (fun _ : Unit => True) (fun _ => .tuple #[]) (fun _ => [haP h p now (if ntOk n = true then { r with last := frB 3 (ntB n) } else r)]) := by
 refine Tri_open (fun z hz => ?_)
 have c1 := nput8_t n A c hd
 dsimp only [haF, rsC, rsP, noV, mgV, lca, lna] at c1 ⊢
 cases hk : ntOk n with
 | false =>
  rw [hk, if_neg (by decide), if_neg (by decide)] at c1
  rw [if_neg (by decide)]
  clear hk
  refine Tri_in Tryz.func92 rfl (fun w0 S0 => ?_)
  repeat' (first | refine SD ?_ | (refine KC ?_; refine HO_callP rfl rfl rfl rfl (c1) findA (srcsA) rfl rfl soA ?_; intro ⟨y1, y2⟩ hy; dsimp only [lca, lna]) | refine SB ?_ | (refine S2 ?_; intro _) | fail)
  (refine SRt ?_; unfold RetQ; refine ⟨(), trivial, rfl, (Keeps.close (φ := RsOk r) (f := haF h p now r) z hz permA)⟩)
 | true =>
  have e : npB n = ntB n := if_pos hk
  have hm := ntB_ok hk
  have hl := (msgOk_iff.1 hm).2.2.1
  rw [hk, if_pos rfl, if_pos rfl, e] at c1
  rw [if_pos rfl]
  have c2 := fun A c => fput_t 3 A c (ntB n) (by omega)
  have e2 : fpB 3 (ntB n) = frB 3 (ntB n) := if_pos hm
  rw [e2] at c2
  clear hk
  obtain ⟨B, hB⟩ : ∃ B, ntB n = B := ⟨_, rfl⟩
  rw [hB] at c1 c2 ⊢
  obtain ⟨F, hF⟩ : ∃ F, frB 3 B = F := ⟨_, rfl⟩
  rw [hF] at c2 ⊢
  dsimp only [mgV] at c2
  refine Tri_in Tryz.func92 rfl (fun w0 S0 => ?_)
  repeat' (first | refine SD ?_ | (refine KC ?_; refine HO_callP rfl rfl rfl rfl (c1) findA (srcsA) rfl rfl soA ?_; intro ⟨y1, y2⟩ hy; dsimp only [lca, lna]) | (refine KC ?_; refine HO_callP rfl rfl rfl rfl (c2 _ _) findA (srcsA) rfl rfl soA ?_; intro ⟨x1, x2⟩ hx; dsimp only [lca, lna]) | refine SB ?_ | (refine S2 ?_; intro _) | fail)
  have hz2 : RsOk { r with last := F } ⟨z.us, z.u, (x1, x2)⟩ := hz
  (refine SRt ?_; unfold RetQ; refine ⟨(), trivial, rfl, (Keeps.close (φ := RsOk { r with last := F }) (f := haF h p now { r with last := F }) ⟨z.us, z.u, (x1, x2)⟩ hz2 permA)⟩)
theorem pclose_t (h p t : Nat) (now : Int) (r : RsQ UpP) (x : PrQ) (hx : PrOk x) :
  Tri Tryz.prog 93 [pt h] [] [haP h p now r, peP p t x] (fun _ : Unit => True) (fun _ => .tuple #[]) (fun _ => [haP h p now { r with clo := true }, peP p t { x with q := [], s := st0 }]) := by
 refine Tri_open (fun z hz => ?_)
 refine Tri_keeps (rw' := peP p t x :: haF h p now r z) (Keeps.pick 4 rfl rfl Keeps.refl) ?_
 refine Tri_open (fun y hy => ?_)
 obtain ⟨q, s⟩ := y
 have c1 := qclear_t q x.room x.q hx.room
 dsimp only [haF, rsC, rsP, peF, peC, lca, lna]
 refine Tri_in Tryz.func93 rfl (fun w0 S0 => ?_)
 repeat' (first | (refine HC_lex rfl rfl (by decide +kernel) rfl rfl ?_) | (refine KC ?_; refine HO_callP rfl rfl rfl rfl (c1) findA (trivial) rfl rfl soA ?_; intro y hy; dsimp only [lca, lna]) | (refine KC ?_; refine HO_callP rfl rfl rfl rfl (snew_t) findA (trivial) rfl rfl soA ?_; intro s2 hy; dsimp only [lca, lna]) | refine SB ?_ | fail)
 (refine SRt ?_; unfold RetQ; refine ⟨(), trivial, rfl, (Keeps.comp (Keeps.close (φ := fun _ : Nat × Nat => True) (f := peF p t { x with q := [], s := st0 }) (q, s2) trivial findA) (Keeps.close (φ := RsOk { r with clo := true }) (f := haF h p now { r with clo := true }) z hz permA))⟩)
theorem pbad_t (n : NtQ) (A : Option Addr) (c : Nat) : Tri Tryz.prog 38 [noV n A c] [] [] (fun _ : Unit => True) (fun _ => .agg #[.int .i64 9, .int .i64 0, .int .i64 0, .int .u32 0, .bool false, .int .i64 0, .int .i64 n.c, .int .i64 n.s, .slice A n.d.length c]) (fun _ => []) := by
 unfold noV
 refine Tri_in Tryz.func38 rfl (fun w0 S0 => ?_)
 repeat' (first | refine SB ?_ | (refine S2 ?_; intro _) | fail)
 (refine SRt ?_; refine RU ?_)
 rfl
theorem ob_ok {x : PrQ} (hx : PrOk x) : obB (locOp x.lo) = opB (locOp x.lo) ∧ msgOk 1 (opB (locOp x.lo)).length = true ∧ openOk (locOp x.lo).as (locOp x.lo).hold (locOp x.lo).id (locOp x.lo).paths (locOp x.lo).four = true := by
 have h := hx.lo
 unfold locOk at h
 simp only [Bool.and_eq_true] at h
 have ho : openOk (locOp x.lo).as (locOp x.lo).hold (locOp x.lo).id (locOp x.lo).paths (locOp x.lo).four = true := h.1.1
 have hl := opB_len (locOp x.lo)
 have hc := opCaps_len (locOp x.lo)
 have hc2 : 6 ≤ (opCaps (locOp x.lo)).length := by unfold opCaps; simp
 refine ⟨if_pos ho, msgOk_iff.2 ⟨by decide, ?_, by omega, .inl (by decide)⟩, ho⟩
 show (29 : Int) ≤ 19 + ((opB (locOp x.lo)).length : Nat)
 omega
theorem pact_t (h p t : Nat) (now : Int) (r : RsQ UpP) (x : PrQ) (hx : PrOk x) (hid : 0 ≤ x.lo.id ∧ x.lo.id ≤ 4294967295) (k n nc ns : Int) (A : Option Addr) (c : Nat) (d : List UInt8) (hd : d.length ≤ 1000000) :
  Tri Tryz.prog 64 [pt h, .agg #[.int .i64 k, .int .i64 n, .int .i64 nc, .int .i64 ns, .slice A d.length c]] [arr bE 1 A d, leW] [haP h p now r, peP p t x] (fun _ : Unit => True)
   (fun _ => .bool (actM now x r ⟨k, n, ⟨nc, ns, d⟩⟩).2.2) (fun _ => [haP h p now (actM now x r ⟨k, n, ⟨nc, ns, d⟩⟩).2.1, peP p t (actM now x r ⟨k, n, ⟨nc, ns, d⟩⟩).1]) := by
 by_cases h1 : k = 1
 ·subst h1
  have e : actM now x r ⟨1, n, ⟨nc, ns, d⟩⟩ = (x, { r with con := true }, true) := rfl
  rw [e]
  refine Tri_open (fun z hz => ?_)
  dsimp only [haF, rsC, rsP, lca, lna]
  refine Tri_in Tryz.func64 rfl (fun w0 S0 => ?_)
  repeat' (first | refine SD ?_ | refine SB ?_ | (refine S2 ?_; intro _) | fail)
  (refine SRt ?_; unfold RetQ; refine ⟨(), trivial, rfl, (Keeps.close (φ := RsOk { r with con := true }) (f := haF h p now { r with con := true }) z hz permA)⟩)
 by_cases h2 : k = 2
 ·subst h2
  obtain ⟨g1, g2, g3⟩ := ob_ok hx
  have e : actM now x r ⟨2, n, ⟨nc, ns, d⟩⟩ = ((sendM x 1 (opB (locOp x.lo))).1, r, (sendM x 1 (opB (locOp x.lo))).2) := rfl
  rw [e]
  have c1 := omsg_t (locOp x.lo) hid
  rw [g1, g3, if_pos rfl, if_pos rfl] at c1
  have c2 := fun A c => psend_t p t x hx 1 A c (opB (locOp x.lo)) g2
  obtain ⟨B, hB⟩ : ∃ B, opB (locOp x.lo) = B := ⟨_, rfl⟩
  rw [hB] at c1 c2 ⊢
  obtain ⟨⟨x2, bo⟩, hx2⟩ : ∃ y, sendM x 1 B = y := ⟨_, rfl⟩
  rw [hx2] at c2 ⊢
  dsimp only [mgV, opV, locOp] at c1 c2 ⊢
  refine Tri_open (fun z hz => ?_)
  refine Tri_keeps (rw' := peP p t x :: haF h p now r z) (Keeps.pick 4 rfl rfl Keeps.refl) ?_
  refine Tri_open (fun y hy => ?_)
  dsimp only [haF, rsC, rsP, peF, peC, lca, lna]
  refine Tri_in Tryz.func64 rfl (fun w0 S0 => ?_)
  repeat' (first | refine SD ?_ | (refine HC_lex rfl rfl (by decide +kernel) rfl rfl ?_) | (refine KC ?_; refine HO_callP rfl rfl rfl rfl (c1) findA (trivial) rfl rfl soA ?_; intro ⟨y1, y2⟩ hy1; dsimp only [lca, lna]) | (refine KC ?_; refine HO_keeps ((Keeps.close (φ := fun _ : Nat × Nat => True) (f := peF p t x) y hy findA)) ?_; refine HO_callP rfl rfl rfl rfl (c2 _ _) findA (srcsA) rfl rfl soA ?_; intro w hw; dsimp only [lca, lna]) | refine SB ?_ | (refine S2 ?_; intro _) | fail)
  (refine SRt ?_; unfold RetQ; refine ⟨(), trivial, rfl, (Keeps.close (φ := RsOk r) (f := haF h p now r) z hz permA)⟩)
 by_cases h3 : k = 3
 ·subst h3
  have e : actM now x r ⟨3, n, ⟨nc, ns, d⟩⟩ = ((sendM x 4 []).1, r, (sendM x 4 []).2) := rfl
  rw [e]
  have c2 := psend_t p t x hx 4 none 0 [] rfl
  obtain ⟨⟨x2, bo⟩, hx2⟩ : ∃ y, sendM x 4 [] = y := ⟨_, rfl⟩
  rw [hx2] at c2 ⊢
  dsimp only [mgV] at c2 ⊢
  refine Tri_open (fun z hz => ?_)
  dsimp only [haF, rsC, rsP, lca, lna]
  refine Tri_in Tryz.func64 rfl (fun w0 S0 => ?_)
  repeat' (first | refine SD ?_ | (refine KC ?_; refine HO_callP rfl rfl rfl rfl (c2) findA ((AllSrc.free (fun w => arr_nil _ w) (by first | exact AllSrc.at_ 1 rfl trivial | exact AllSrc.at_ 2 rfl trivial | exact AllSrc.at_ 3 rfl trivial))) rfl rfl soA ?_; intro y hy; dsimp only [lca, lna]) | refine SB ?_ | (refine S2 ?_; intro _) | fail)
  (refine SRt ?_; unfold RetQ; refine ⟨(), trivial, rfl, (Keeps.close (φ := RsOk r) (f := haF h p now r) z hz permA)⟩)
 by_cases h4 : k = 4
 ·subst h4
  have e : actM now x r ⟨4, n, ⟨nc, ns, d⟩⟩ = (x, if ntOk ⟨nc, ns, d⟩ = true then { r with last := frB 3 (ntB ⟨nc, ns, d⟩) } else r, true) := rfl
  rw [e]
  have c1 := plast_t h p now r ⟨nc, ns, d⟩ A c hd
  dsimp only [noV] at c1 ⊢
  refine Tri_in Tryz.func64 rfl (fun w0 S0 => ?_)
  repeat' (first | refine SD ?_ | (refine KC ?_; refine HO_callP rfl rfl rfl rfl (c1) findA (srcsA) rfl rfl soA ?_; intro y hy; dsimp only [lca, lna]) | refine SB ?_ | (refine S2 ?_; intro _) | fail)
  (refine SRt ?_; unfold RetQ; refine ⟨(), trivial, rfl, permA⟩)
 by_cases h5 : k = 5
 ·subst h5
  have e : actM now x r ⟨5, n, ⟨nc, ns, d⟩⟩ = ({ x with q := [], s := st0 }, { r with clo := true }, true) := rfl
  rw [e]
  have c1 := pclose_t h p t now r x hx
  refine Tri_in Tryz.func64 rfl (fun w0 S0 => ?_)
  repeat' (first | refine SD ?_ | (refine KC ?_; refine HO_callP rfl rfl rfl rfl (c1) findA (trivial) rfl rfl soA ?_; intro y hy; dsimp only [lca, lna]) | refine SB ?_ | (refine S2 ?_; intro _) | fail)
  (refine SRt ?_; unfold RetQ; refine ⟨(), trivial, rfl, permA⟩)
 by_cases h6 : k = 6
 ·subst h6
  have e : actM now x r ⟨6, n, ⟨nc, ns, d⟩⟩ = (timeM x 1 n now, r, true) := rfl
  rw [e]
  have c1 := pset_t p t x hx 1 n now
  refine Tri_open (fun z hz => ?_)
  dsimp only [haF, rsC, rsP, lca, lna]
  refine Tri_in Tryz.func64 rfl (fun w0 S0 => ?_)
  repeat' (first | refine SD ?_ | (refine HC_lex rfl rfl (by decide +kernel) rfl rfl ?_) | (refine KC ?_; refine HO_callP rfl rfl rfl rfl (c1) findA (trivial) rfl rfl soA ?_; intro y hy; dsimp only [lca, lna]) | refine SB ?_ | (refine S2 ?_; intro _) | fail)
  (refine SRt ?_; unfold RetQ; refine ⟨(), trivial, rfl, (Keeps.close (φ := RsOk r) (f := haF h p now r) z hz permA)⟩)
 by_cases h7 : k = 7
 ·subst h7
  have e : actM now x r ⟨7, n, ⟨nc, ns, d⟩⟩ = (timeM x 2 n now, r, true) := rfl
  rw [e]
  have c1 := pset_t p t x hx 2 n now
  refine Tri_open (fun z hz => ?_)
  dsimp only [haF, rsC, rsP, lca, lna]
  refine Tri_in Tryz.func64 rfl (fun w0 S0 => ?_)
  repeat' (first | refine SD ?_ | (refine HC_lex rfl rfl (by decide +kernel) rfl rfl ?_) | (refine KC ?_; refine HO_callP rfl rfl rfl rfl (c1) findA (trivial) rfl rfl soA ?_; intro y hy; dsimp only [lca, lna]) | refine SB ?_ | (refine S2 ?_; intro _) | fail)
  (refine SRt ?_; unfold RetQ; refine ⟨(), trivial, rfl, (Keeps.close (φ := RsOk r) (f := haF h p now r) z hz permA)⟩)
 by_cases h8 : k = 8
 ·subst h8
  have e : actM now x r ⟨8, n, ⟨nc, ns, d⟩⟩ = (timeM x 3 n now, r, true) := rfl
  rw [e]
  have c1 := pset_t p t x hx 3 n now
  refine Tri_open (fun z hz => ?_)
  dsimp only [haF, rsC, rsP, lca, lna]
  refine Tri_in Tryz.func64 rfl (fun w0 S0 => ?_)
  repeat' (first | refine SD ?_ | (refine HC_lex rfl rfl (by decide +kernel) rfl rfl ?_) | (refine KC ?_; refine HO_callP rfl rfl rfl rfl (c1) findA (trivial) rfl rfl soA ?_; intro y hy; dsimp only [lca, lna]) | refine SB ?_ | (refine S2 ?_; intro _) | fail)
  (refine SRt ?_; unfold RetQ; refine ⟨(), trivial, rfl, (Keeps.close (φ := RsOk r) (f := haF h p now r) z hz permA)⟩)
 by_cases h9 : k = 9
 ·subst h9
  have e : actM now x r ⟨9, n, ⟨nc, ns, d⟩⟩ = (x, { r with up := true }, true) := rfl
  rw [e]
  refine Tri_open (fun z hz => ?_)
  dsimp only [haF, rsC, rsP, lca, lna]
  refine Tri_in Tryz.func64 rfl (fun w0 S0 => ?_)
  repeat' (first | refine SD ?_ | refine SB ?_ | (refine S2 ?_; intro _) | fail)
  (refine SRt ?_; unfold RetQ; refine ⟨(), trivial, rfl, (Keeps.close (φ := RsOk { r with up := true }) (f := haF h p now { r with up := true }) z hz permA)⟩)
 by_cases h10 : k = 10
 ·subst h10
  have e : actM now x r ⟨10, n, ⟨nc, ns, d⟩⟩ = (x, { r with dn := true }, true) := rfl
  rw [e]
  refine Tri_open (fun z hz => ?_)
  dsimp only [haF, rsC, rsP, lca, lna]
  refine Tri_in Tryz.func64 rfl (fun w0 S0 => ?_)
  repeat' (first | refine SD ?_ | refine SB ?_ | (refine S2 ?_; intro _) | fail)
  (refine SRt ?_; unfold RetQ; refine ⟨(), trivial, rfl, (Keeps.close (φ := RsOk { r with dn := true }) (f := haF h p now { r with dn := true }) z hz permA)⟩)
 have e : actM now x r ⟨k, n, ⟨nc, ns, d⟩⟩ = (x, r, true) := by
  unfold actM
  rw [if_neg h1, if_neg h2, if_neg h3, if_neg h4, if_neg h5, if_neg h6, if_neg h7, if_neg h8, if_neg h9, if_neg h10]
 rw [e]
 refine Tri_in Tryz.func64 rfl (fun w0 S0 => ?_)
 repeat' (first | refine SD ?_ | refine SB ?_ | (refine S2 ?_; intro _) | fail)
 (refine SRt ?_; unfold RetQ; refine ⟨(), trivial, rfl, permA⟩)
def acE (dA : Option Addr) (dc : Nat) (q : AcQ) : ActS := if q.k = 4 then ⟨q.k, q.n, q.nt.c, q.nt.s, dA, q.nt.d.length, dc⟩ else ⟨q.k, q.n, q.nt.c, q.nt.s, none, 0, 0⟩
def ResOk (r : Res) : Prop := ∀ dA dc, r.acts dA dc = (acsR r).map (acE dA dc)
theorem res_end (t : Sta) (ph retry code sub : Int) (d : List UInt8) : ResOk ⟨t, fun dA dc => endA ph retry code sub dA (endD code d).length dc, endD code d⟩ := fun dA dc => by
 rw [acsR_end]
 unfold endQ endA endD
 by_cases h1 : code ≠ 0 <;> by_cases h2 : ph = 5 <;> simp [h1, h2, act0, acE, nt0]
theorem res_stay (s : Sta) (acts : List ActS) (h : acts.all (fun a => decide (a.k ≠ 4) && decide (a.dA = none) && decide (a.dn = 0) && decide (a.dc = 0)) = true) : ResOk (stayR s acts) := fun dA dc => by
 rw [acsR_stay]
 unfold stayR
 dsimp only
 rw [List.map_map]
 apply List.ext_getElem
 ·simp
 ·intro i h1 h2
  rw [List.getElem_map]
  have h3 := List.all_eq_true.1 h _ (List.getElem_mem h1)
  simp only [Bool.and_eq_true, decide_eq_true_eq] at h3
  obtain ⟨⟨⟨g1, g2⟩, g3⟩, g4⟩ := h3
  show acts[i] = acE dA dc ⟨acts[i].k, acts[i].n, ⟨acts[i].c, acts[i].s, []⟩⟩
  unfold acE
  rw [if_neg g1]
  generalize acts[i] = a at g2 g3 g4
  obtain ⟨a1, a2, a3, a4, a5, a6, a7⟩ := a
  dsimp only at g2 g3 g4 ⊢
  rw [g2, g3, g4]
theorem res_fall (l : Loc) (s : Sta) (code sub : Int) (d : List UInt8) : ResOk (fallR l s code sub d) := res_end _ _ _ _ _ _
theorem res_ok (l : Loc) (s : Sta) (e : EvS) : ResOk (stepR l s e) := by
 unfold stepR
 split
 ·split
  ·unfold stopR
   split
   ·exact res_stay _ _ rfl
   ·by_cases h : 2 < s.ph
    ·rw [if_pos h, if_pos h]
     have := res_end idlS s.ph 0 6 2 []
     exact this
    ·rw [if_neg h, if_neg h]
     have := res_end idlS s.ph 0 0 0 []
     exact this
  split
  ·split
   ·exact fun _ _ => rfl
   ·exact res_stay _ _ rfl
  split
  ·unfold waitingR
   repeat' split
   all_goals first | exact res_stay _ _ rfl | exact fun _ _ => rfl
  ·unfold talkingR
   repeat' split
   ·unfold openedR
    repeat' split
    all_goals first | exact res_fall _ _ _ _ _ | exact fun _ _ => rfl
   ·unfold heardR
    repeat' split
    all_goals first | exact res_fall _ _ _ _ _ | exact res_stay _ _ rfl
   ·unfold beatR
    split <;> exact res_stay _ _ rfl
   all_goals first | exact res_fall _ _ _ _ _ | exact res_stay _ _ rfl
 ·exact res_stay _ _ rfl
theorem end_len (ph retry code sub : Int) (dA : Option Addr) (dn dc : Nat) : (endA ph retry code sub dA dn dc).length ≤ 10 := by
 unfold endA
 split <;> split <;> simp
theorem acs_len (l : Loc) (s : Sta) (e : EvS) : (acsR (stepR l s e)).length ≤ 10 := by
 unfold acsR
 rw [List.length_map]
 have z : (0 : Nat) ≤ 10 := by decide
 have o1 : (1 : Nat) ≤ 10 := by decide
 have o2 : (2 : Nat) ≤ 10 := by decide
 have o3 : (3 : Nat) ≤ 10 := by decide
 unfold stepR
 split
 ·split
  ·unfold stopR
   split
   ·exact z
   ·exact end_len _ _ _ _ _ _ _
  split
  ·split
   ·exact o2
   ·exact z
  split
  ·unfold waitingR
   repeat' split
   all_goals first | exact z | exact o1 | exact o2 | exact o3
  ·unfold talkingR
   repeat' split
   ·unfold openedR
    repeat' split
    all_goals first | exact end_len _ _ _ _ _ _ _ | exact o3
   ·unfold heardR
    repeat' split
    all_goals first | exact end_len _ _ _ _ _ _ _ | exact o1 | exact o2
   ·unfold beatR
    split
    ·exact z
    ·exact o2
   all_goals first | exact z | exact end_len _ _ _ _ _ _ _
 ·exact z
theorem acs_d {r : Res} {q : AcQ} (h : q ∈ acsR r) : q.nt.d = if q.k = 4 then r.data else [] := by
 unfold acsR at h
 obtain ⟨a, _, rfl⟩ := List.mem_map.1 h
 rfl
@[reducible] def evV (e : EvQ) (A : Option Addr) (c : Nat) : Value := .agg #[.int .i64 e.k, .int .i64 e.o.as, .int .i64 e.o.hold, .int .u32 e.o.id, .bool e.o.four, .int .i64 e.o.paths, .int .i64 e.nt.c, .int .i64 e.nt.s, .slice A e.nt.d.length c]
theorem step_ev (l : Loc) (s : Sta) (e : EvQ) (A : Option Addr) (c : Nat) : stepR l s ⟨e.k, e.o.as, e.o.hold, e.o.id, e.o.four, e.o.paths, e.nt.c, e.nt.s, A, c, e.nt.d⟩ = stepR l s e.s := rfl
theorem step_data (l : Loc) (s : Sta) (e : EvQ) : (stepR l s e.s).data.length ≤ e.nt.d.length := by
 have endl : ∀ (code : Int) (d : List UInt8), (endD code d).length ≤ d.length := fun code d => by
  unfold endD
  split
  ·exact Nat.le_refl _
  ·exact Nat.zero_le _
 unfold stepR
 split
 ·split
  ·unfold stopR
   split <;> exact Nat.zero_le _
  split
  ·split <;> exact Nat.zero_le _
  split
  ·unfold waitingR
   repeat' split
   all_goals exact Nat.zero_le _
  ·unfold talkingR
   split
   ·unfold openedR
    repeat' split
    all_goals first | exact Nat.zero_le _ | exact Nat.le_trans (endl _ _) (Nat.zero_le _)
   split
   ·unfold heardR
    repeat' split
    all_goals first | exact Nat.zero_le _ | exact Nat.le_trans (endl _ _) (Nat.zero_le _)
   split
   ·unfold beatR
    split <;> exact Nat.zero_le _
   split
   ·exact Nat.le_trans (endl 4 []) (Nat.zero_le _)
   split
   ·exact Nat.le_trans (endl 0 []) (Nat.zero_le _)
   split
   ·exact endl _ _
   ·exact Nat.zero_le _
 ·exact Nat.zero_le _
theorem phapG_t (h p t : Nat) (now : Int) (r : RsQ UpP) (x : PrQ) (hx : PrOk x) (hid : 0 ≤ x.lo.id ∧ x.lo.id ≤ 4294967295) (e : EvQ) (A : Option Addr) (c : Nat) (hd : e.nt.d.length ≤ 1000000) (R : PrQ × RsQ UpP)
  (hok : (onceM now x r e).2.2 = true → R = ((onceM now x r e).1, (onceM now x r e).2.1))
  (hno : (onceM now x r e).2.2 = false → Tri Tryz.prog 37 [pt h, evV fullQ none 0] [arr bE 1 none [], leW] [haP h p now (onceM now x r e).2.1, peP p t (onceM now x r e).1] (fun _ : Unit => True) (fun _ => .tuple #[]) (fun _ => [haP h p now R.2, peP p t R.1])) :
  Tri Tryz.prog 37 [pt h, evV e A c] [arr bE 1 A e.nt.d, leW] [haP h p now r, peP p t x] (fun _ : Unit => True) (fun _ => .tuple #[]) (fun _ => [haP h p now R.2, peP p t R.1]) := by
 have c1 := step_t x.lo x.st ⟨e.k, e.o.as, e.o.hold, e.o.id, e.o.four, e.o.paths, e.nt.c, e.nt.s, A, c, e.nt.d⟩ hd
 rw [step_ev] at c1
 have hres := res_ok x.lo x.st e.s
 have hdl := step_data x.lo x.st e
 have hLl := acs_len x.lo x.st e.s
 have hph := step_ph x.lo x.st e.s hx.ph
 unfold onceM at hok hno
 obtain ⟨q, hq⟩ : ∃ q, stepR x.lo x.st e.s = q := ⟨_, rfl⟩
 rw [hq] at c1 hres hdl hLl hph hok hno
 have hres' : ∀ dA dc, q.acts dA dc = (acsR q).map (acE dA dc) := hres
 unfold TriR at c1
 dsimp only [outV, outP, Loc.c, Sta.c, EvS.c] at c1
 simp only [hres'] at c1
 have had : ∀ a ∈ acsR q, a.nt.d = if a.k = 4 then q.data else [] := fun a ha => acs_d ha
 obtain ⟨L, hL⟩ : ∃ L, acsR q = L := ⟨_, rfl⟩
 simp only [hL] at c1 had hok hno hLl
 obtain ⟨FIN, hF⟩ : ∃ F, actsM now { x with st := q.t } r L = F := ⟨_, rfl⟩
 rw [hF] at hok hno
 have hx1 : PrOk { x with st := q.t } := { hx with ph := hph }
 refine Tri_open (fun z hz => ?_)
 refine Tri_keeps (rw' := peP p t x :: haF h p now r z) (Keeps.pick 4 rfl rfl Keeps.refl) ?_
 refine Tri_open (fun y hy => ?_)
 dsimp only [haF, rsC, rsP, peF, peC, lca, lna]
 refine Tri_in Tryz.func37 rfl (fun w0 S0 => ?_)
 repeat' (first | refine SX ?_ | (refine HC_lex rfl rfl (by decide +kernel) rfl rfl ?_; refine HO_names (l' := [0, 1, 2, 3, 4, 5, 6, 7, 8, 9, 10, 11, 12, 13, 14, 15, 16, 17, 18, 19, 20, 21]) (by decide +kernel) ?_) | (refine HO_2p 15 19 (by decide +kernel) rfl rfl (by decide +kernel) ?_ ?_) | (refine KC ?_; refine HO_callP rfl rfl rfl rfl (c1) findA (srcsA) rfl rfl soA ?_; intro g hg; dsimp only [lca, lna]) | refine SB ?_ | (refine S2 ?_; intro _) | fail)
 all_goals
  clear c1
  refine HC_keeps (rw' := [haP h p now r, peP p t { x with st := q.t }, own idE 138 5 g.A (L.map (acE g.dA g.dc)).length g.c ((L.map (acE g.dA g.dc)).map ActS.e), ownB (g.dA, g.dc) q.data])
   (Keeps.comp (Keeps.close (φ := fun _ : Nat × Nat => True) (f := peF p t { x with st := q.t }) y trivial findA) (Keeps.close (φ := RsOk r) (f := haF h p now r) z hz permA)) ?_
  rw [List.length_map]
  refine HC_loop (α := Nat × PrQ × RsQ UpP) (fun y => y.1 ≤ L.length ∧ PrOk y.2.1 ∧ y.2.1.lo = x.lo ∧ actsM now y.2.1 y.2.2 (L.drop y.1) = FIN) (fun y => [(36, .int .i64 y.1), (35, .int .i64 L.length), (34, .slice g.A L.length g.c), (0, pt h)])
   (fun y => [haP h p now y.2.2, peP p t y.2.1, own idE 138 5 g.A L.length g.c ((L.map (acE g.dA g.dc)).map ActS.e), ownB (g.dA, g.dc) q.data]) (fun y => L.length - y.1) rfl (0, { x with st := q.t }, r) ⟨Nat.zero_le _, hx1, rfl, hF⟩ ⟨rfl, rfl, rfl, rfl, trivial⟩ rfl ?_
  rintro ⟨i, yp, yr⟩ ⟨hi, hyp, hlo, hfin⟩
  dsimp only at hi hyp hlo hfin ⊢
  rcases Nat.lt_or_ge i L.length with hlt | hge
  ·have hltz : (i : Int) < (L.length : Int) := by omega
   obtain ⟨a, ha⟩ : ∃ a, L[i]? = some a := ⟨L[i], List.getElem?_eq_getElem hlt⟩
   have hdrop : L.drop i = a :: L.drop (i + 1) := by
    rw [List.drop_eq_getElem_cons hlt]
    congr 1
    have := List.getElem?_eq_getElem hlt
    rw [ha] at this
    injection this with this
    exact this.symm
   have hadd := had a (List.mem_of_getElem? ha)
   have hrow : ((L.map (acE g.dA g.dc)).map ActS.e)[i]? = some (acE g.dA g.dc a).e := by rw [List.getElem?_map, List.getElem?_map, ha]; rfl
   rw [hdrop] at hfin
   unfold actsM at hfin
   have hlen : L.length = ((L.map (acE g.dA g.dc)).map ActS.e).length := by rw [List.length_map, List.length_map]
   have k0 := fun A c d hd => pact_t h p t now yr yp hyp (by rw [hlo]; exact hid) a.k a.n a.nt.c a.nt.s A c d hd
   have kst := actM_st now yp yr a
   have kok := actM_ok hyp now yr a
   have eta : ∀ d, a.nt.d = d → (⟨a.k, a.n, ⟨a.nt.c, a.nt.s, d⟩⟩ : AcQ) = a := fun d hd => by subst hd; rfl
   by_cases hk4 : a.k = 4
   ·have hd4 : a.nt.d = q.data := by rw [hadd, if_pos hk4]
    have e4 : (acE g.dA g.dc a).e = [.int .i64 a.k, .int .i64 a.n, .int .i64 a.nt.c, .int .i64 a.nt.s, .slice g.dA q.data.length g.dc] := by
     unfold acE
     rw [if_pos hk4, hd4]
     rfl
    rw [e4] at hrow
    have k1 := k0 g.dA g.dc q.data (by omega)
    rw [eta _ hd4] at k1
    clear k0
    obtain ⟨⟨y2, r2, bo⟩, hy2⟩ : ∃ y, actM now yp yr a = y := ⟨_, rfl⟩
    rw [hy2] at k1 hfin kst kok
    dsimp only at k1 hfin kst kok
    cases bo with
    | true =>
     rw [if_pos rfl] at hfin
     repeat' (first | refine SX ?_ | (refine KC ?_; refine HO_callP rfl rfl rfl rfl (k1) findA (srcsA) rfl rfl soA ?_; intro w hw; dsimp only [lca, lna]) | refine SB ?_ | (refine S2 ?_; intro _) | fail)
     refine HX_keeps (rw' := [haP h p now r2, peP p t y2, own idE 138 5 g.A L.length g.c ((L.map (acE g.dA g.dc)).map ActS.e), ownB (g.dA, g.dc) q.data]) permA ?_
     exact HX_at (i + 1, y2, r2) ⟨⟨hlt, kok, kst.2.1.trans hlo, hfin⟩, by show L.length - (i + 1) < L.length - i; omega⟩ ⟨rfl, rfl, rfl, rfl, trivial⟩ rfl
    | false =>
     rw [if_neg (by decide)] at hfin
     rw [← hfin] at hno
     have k2 := hno rfl
     have k3 := pbad_t ⟨6, 8, []⟩ none 0
     dsimp only [noV] at k3
     repeat' (first | refine SX ?_ | (refine KC ?_; refine HO_callP rfl rfl rfl rfl (k1) findA (srcsA) rfl rfl soA ?_; intro w hw; dsimp only [lca, lna]) | (refine KC ?_; refine HO_callq rfl rfl rfl rfl (k3) (fun _ _ => rfl) (trivial) rfl rfl sqA ?_) | (refine KC ?_; refine HO_callP rfl rfl rfl rfl (k2) findA ((AllSrc.free (fun w => arr_nil _ w) (AllSrc.at_ 1 rfl trivial))) rfl rfl soA ?_; intro w hw; dsimp only [lca, lna]) | refine SB ?_ | (refine S2 ?_; intro _) | fail)
     (refine SRt ?_; unfold RetQ; refine ⟨(), trivial, rfl, permA⟩)
   ·have hd4 : a.nt.d = [] := by rw [hadd, if_neg hk4]
    have e4 : (acE g.dA g.dc a).e = [.int .i64 a.k, .int .i64 a.n, .int .i64 a.nt.c, .int .i64 a.nt.s, .slice none 0 0] := by
     unfold acE
     rw [if_neg hk4]
     rfl
    rw [e4] at hrow
    have k1 := k0 none 0 [] (by simp)
    rw [eta _ hd4] at k1
    clear k0
    obtain ⟨⟨y2, r2, bo⟩, hy2⟩ : ∃ y, actM now yp yr a = y := ⟨_, rfl⟩
    rw [hy2] at k1 hfin kst kok
    dsimp only [List.length_nil] at k1 hfin kst kok
    cases bo with
    | true =>
     rw [if_pos rfl] at hfin
     repeat' (first | refine SX ?_ | (refine KC ?_; refine HO_callP rfl rfl rfl rfl (k1) findA ((AllSrc.free (fun w => arr_nil _ w) (AllSrc.at_ 1 rfl trivial))) rfl rfl soA ?_; intro w hw; dsimp only [lca, lna]) | refine SB ?_ | (refine S2 ?_; intro _) | fail)
     refine HX_keeps (rw' := [haP h p now r2, peP p t y2, own idE 138 5 g.A L.length g.c ((L.map (acE g.dA g.dc)).map ActS.e), ownB (g.dA, g.dc) q.data]) permA ?_
     exact HX_at (i + 1, y2, r2) ⟨⟨hlt, kok, kst.2.1.trans hlo, hfin⟩, by show L.length - (i + 1) < L.length - i; omega⟩ ⟨rfl, rfl, rfl, rfl, trivial⟩ rfl
    | false =>
     rw [if_neg (by decide)] at hfin
     rw [← hfin] at hno
     have k2 := hno rfl
     have k3 := pbad_t ⟨6, 8, []⟩ none 0
     dsimp only [noV] at k3
     repeat' (first | refine SX ?_ | (refine KC ?_; refine HO_callP rfl rfl rfl rfl (k1) findA ((AllSrc.free (fun w => arr_nil _ w) (AllSrc.at_ 1 rfl trivial))) rfl rfl soA ?_; intro w hw; dsimp only [lca, lna]) | (refine KC ?_; refine HO_callq rfl rfl rfl rfl (k3) (fun _ _ => rfl) (trivial) rfl rfl sqA ?_) | (refine KC ?_; refine HO_callP rfl rfl rfl rfl (k2) findA ((AllSrc.free (fun w => arr_nil _ w) (AllSrc.at_ 1 rfl trivial))) rfl rfl soA ?_; intro w hw; dsimp only [lca, lna]) | refine SB ?_ | (refine S2 ?_; intro _) | fail)
     (refine SRt ?_; unfold RetQ; refine ⟨(), trivial, rfl, permA⟩)
  ·obtain rfl : i = L.length := by omega
   rw [List.drop_length] at hfin
   have hfin : (yp, yr, true) = FIN := hfin
   have hR := hok (by rw [← hfin])
   rw [← hfin] at hR
   rw [hR]
   have hltz : ¬ ((L.length : Int) < (L.length : Int)) := by omega
   repeat' (first | refine SX ?_ | refine SB ?_ | (refine S2 ?_; intro _) | fail)
   (refine SRt ?_; unfold RetQ; refine ⟨(), trivial, rfl, permA⟩)
theorem Keeps.comm {a b : List SL} : Keeps (a ++ b) (b ++ a) := fun S w hs => by
 obtain ⟨A, B, hA, hB, hd, ha, hb⟩ := Star.split hs
 exact ⟨S, fun _ h => h, Star.append hB hA (fun b hb' ha' => hd b ha' hb') hb ha⟩
theorem Fits.open_ {w0 : World} {S0 : Foot} {ro held rw rw' : List SL} {β : Type} {φ : β → Prop} {f : β → List SL} {S : Foot} {w : World} (k : Nat) (hk : rw[k]? = some (exP φ f)) (hr : eraseO rw k = some rw') (h : Fits w0 S0 ro (held ++ rw) S w) :
  ∃ x T, φ x ∧ Fits w0 S0 ro (held ++ (f x ++ rw')) T w := by
 obtain ⟨T, hT⟩ := h.keeps ((Keeps.pick k hk hr Keeps.refl).app held)
 obtain ⟨U, hU⟩ := hT.keeps (rw' := exP φ f :: (rw' ++ held)) Keeps.comm
 obtain ⟨A, B, hA, hB, hd, ⟨x, hx, hp⟩, hs⟩ := hU.star
 have h2 : Fits w0 S0 ro (f x ++ (rw' ++ held)) U w := ⟨hU.fr, hU.lt, hU.sub, Star.append hA hB hd hp hs, hU.ros⟩
 rw [← List.append_assoc] at h2
 obtain ⟨V, hV⟩ := h2.keeps Keeps.comm
 exact ⟨x, V, hx, hV⟩
def notPick : Md → Bool
 | .pick _ => false
 | _ => true
theorem HO_open {m : Md} {P : Program} {N : Nat} {w0 : World} {S0 : Foot} {ops : List Oper} {l : List Nat} {env : Env} {ro rw rw' : List SL} {K : Act → World → Prop} [hm : NoQ m] {β : Type} {φ : β → Prop} {f : β → List SL} (k : Nat) (hl : notPick m = true) (hk : rw[k]? = some (exP φ f)) (hr : eraseO rw k = some rw')
  (h : ∀ x, φ x → HO m P N w0 S0 ops l env ro (f x ++ rw') K) : HO m P N w0 S0 ops l env ro rw K := by
 cases m with
 | ord =>
  unfold HO at h ⊢
  intro a S w ha hf
  obtain ⟨x, T, hx, hT⟩ := Fits.open_ (held := []) k hk hr hf
  exact h x hx a T w ha hT
 | quiet => exact absurd hm.h (by decide)
 | lex ro0 =>
  unfold HO at h ⊢
  intro held he a S w ha hf
  obtain ⟨x, T, hx, hT⟩ := Fits.open_ k hk hr hf
  exact h x hx held he a T w ha hT
 | pick ro0 => exact absurd hl (by simp [notPick])
def safeA (a : AcQ) : Bool := decide (a.k ≠ 2) && decide (a.k ≠ 3)
theorem safe_ok {υ : Type} (now : Int) : ∀ (l : List AcQ) (p : PrQ) (r : RsQ υ), l.all safeA = true → (actsM now p r l).2.2 = true
 | [], _, _, _ => rfl
 | a :: l, p, r, h => by
  simp only [List.all_cons, Bool.and_eq_true] at h
  have h1 : (actM now p r a).2.2 = true := by
   have h2 := h.1
   simp only [safeA, Bool.and_eq_true, decide_eq_true_eq] at h2
   unfold actM
   rw [if_neg h2.1, if_neg h2.2]
   repeat' split
   all_goals rfl
  unfold actsM
  rw [if_pos h1]
  exact safe_ok now l _ _ h.2
theorem safe_end (ph retry code sub : Int) (d : List UInt8) : (endQ ph retry code sub d).all safeA = true := by
 unfold endQ
 by_cases h1 : code ≠ 0 <;> by_cases h2 : ph = 5 <;> simp [h1, h2, safeA]
theorem fail_ph {υ : Type} {now : Int} {x : PrQ} {r : RsQ υ} {e : EvQ} (hx : PrOk x) (h : (onceM now x r e).2.2 = false) : 3 ≤ (stepR x.lo x.st e.s).t.ph := by
 have key : (acsR (stepR x.lo x.st e.s)).all safeA = true → 3 ≤ (stepR x.lo x.st e.s).t.ph := fun hs => by
  have := safe_ok now _ { x with st := (stepR x.lo x.st e.s).t } r hs
  have h2 : (onceM now x r e).2.2 = true := this
  rw [h] at h2
  cases h2
 rcases Decidable.em (3 ≤ x.st.ph) with h3 | h3
 ·rcases talk_cases x.lo x.st e hx.lo ⟨h3, hx.ph.2⟩ with ⟨h4, _⟩ | ⟨_, a, b, c, d, h4⟩
  ·exact h4
  ·exact key (by rw [h4]; exact safe_end _ _ _ _ _)
 have hl := hx.lo
 have hp := hx.ph
 have hc : locOk x.lo.asn x.lo.hold x.lo.id x.lo.paths x.lo.retry x.lo.four = true ∧ 1 ≤ x.st.ph ∧ x.st.ph ≤ 5 := ⟨hl, hp.1, hp.2⟩
 revert key
 unfold stepR
 rw [if_pos hc]
 split
 ·unfold stopR
  split
  ·exact fun key => key rfl
  ·intro key
   have he := acsR_end x.st.ph 0 (if 2 < x.st.ph then 6 else 0) (if 2 < x.st.ph then 2 else 0) idlS []
   refine key ?_
   have e2 : ∀ code : Int, endD code [] = [] := fun code => by unfold endD; split <;> rfl
   rw [e2] at he
   have he' := he
   dsimp only [List.length_nil] at he'
   rw [he']
   exact safe_end _ _ _ _ _
 split
 ·split
  ·exact fun key => key rfl
  ·exact fun key => key rfl
 split
 ·unfold waitingR
  split
  ·exact fun _ => (by decide : (3 : Int) ≤ 3)
  split
  ·exact fun key => key rfl
  split
  ·exact fun key => key rfl
  ·exact fun key => key rfl
 ·omega
theorem lo_id {x : PrQ} (hid : 0 ≤ x.lo.id ∧ x.lo.id ≤ 4294967295) {υ : Type} (now : Int) (r : RsQ υ) (e : EvQ) : 0 ≤ (onceM now x r e).1.lo.id ∧ (onceM now x r e).1.lo.id ≤ 4294967295 := by
 rw [(onceM_st now x r e).2.1]
 exact hid
theorem hapM_lo {υ : Type} (now : Int) (x : PrQ) (r : RsQ υ) (e : EvQ) : (hapM now x r e).1.lo = x.lo := by
 unfold hapM
 split
 ·exact (onceM_st now x r e).2.1
 ·exact ((onceM_st now _ _ fullQ).2.1).trans (onceM_st now x r e).2.1
theorem phap_t (h p t : Nat) (now : Int) (r : RsQ UpP) (x : PrQ) (hx : PrOk x) (hid : 0 ≤ x.lo.id ∧ x.lo.id ≤ 4294967295) (e : EvQ) (A : Option Addr) (c : Nat) (hd : e.nt.d.length ≤ 1000000) :
  Tri Tryz.prog 37 [pt h, evV e A c] [arr bE 1 A e.nt.d, leW] [haP h p now r, peP p t x] (fun _ : Unit => True) (fun _ => .tuple #[]) (fun _ => [haP h p now (hapM now x r e).2, peP p t (hapM now x r e).1]) := by
 refine phapG_t h p t now r x hx hid e A c hd (hapM now x r e) (fun hk => if_pos hk) (fun hk => ?_)
 have hnk : ¬ (onceM now x r e).2.2 = true := by rw [hk]; decide
 have hst := onceM_st now x r e
 have h3 := fail_ph hx hk
 have h5 := step_ph x.lo x.st e.s hx.ph
 obtain ⟨b1, b2, _⟩ := once_bad now (onceM now x r e).1 (onceM now x r e).2.1 ⟨6, 8, []⟩ (by rw [hst.2.1]; exact hx.lo) (by rw [hst.1]; exact ⟨h3, h5.2⟩)
 have b1 : (onceM now (onceM now x r e).1 (onceM now x r e).2.1 fullQ).2.2 = true := b1
 refine phapG_t h p t now (onceM now x r e).2.1 (onceM now x r e).1 (onceM_ok hx now r e) (lo_id hid now r e) fullQ none 0 (by decide) (hapM now x r e) (fun _ => ?_) (fun hk2 => ?_)
 ·exact if_neg hnk
 ·rw [b1] at hk2
  cases hk2
theorem pmade_t (p t : Nat) (x : PrQ) : Tri Tryz.prog 35 [pt p] [] [peP p t x] (fun _ : Unit => True) (fun _ => .bool true) (fun _ => [peP p t x]) := by
 refine Tri_open (fun z hz => ?_)
 dsimp only [peF, peC, lca, lna]
 refine Tri_in Tryz.func35 rfl (fun w0 S0 => ?_)
 repeat' (first | refine SB ?_ | fail)
 (refine SRt ?_; unfold RetQ; refine ⟨(), trivial, rfl, (Keeps.close (φ := fun _ : Nat × Nat => True) (f := peF p t x) z hz permA)⟩)
@[reducible] def rsV (r : RsQ UpP) (z : RsZ) : Value := .agg (rsC r z).toArray
def onM (now : Int) (x : PrQ) (e : EvQ) : PrQ × RsQ UpP := if now < 0 then (x, rs0) else hapM now x rs0 e
theorem ponce_t (p t : Nat) (now : Int) (x : PrQ) (hx : PrOk x) (hid : 0 ≤ x.lo.id ∧ x.lo.id ≤ 4294967295) (e : EvQ) (A : Option Addr) (c : Nat) (hd : e.nt.d.length ≤ 1000000) :
  Tri Tryz.prog 49 [pt p, evV e A c, .int .i64 now] [arr bE 1 A e.nt.d, leW] [peP p t x] (RsOk (onM now x e).2) (fun z => rsV (onM now x e).2 z) (fun z => rsP (onM now x e).2 z ++ [peP p t (onM now x e).1]) := by
 have c0 := pmade_t p t x
 unfold onM
 by_cases hn : now < 0
 ·rw [if_pos hn]
  refine Tri_in Tryz.func49 rfl (fun w0 S0 => ?_)
  repeat' (first | refine SD ?_ | (refine KC ?_; refine HO_callP rfl rfl rfl rfl (c0) findA (trivial) rfl rfl soA ?_; intro w hw; dsimp only [lca, lna]) | refine SB ?_ | (refine S2 ?_; intro _) | fail)
  (refine SRt ?_; unfold RetQ; refine ⟨(⟨[], (none, 0), (none, 0)⟩ : RsZ), ⟨rfl, fun u hu => (by cases hu)⟩, rfl, (Keeps.add (fun w => own_nil w) (Keeps.add inn_nil (Keeps.add (fun w => own_nil w) permA)))⟩)
 ·rw [if_neg hn]
  have c1 := fun h => phap_t h p t now rs0 x hx hid e A c hd
  obtain ⟨⟨x2, r2⟩, hR⟩ : ∃ R, hapM now x (rs0 : RsQ UpP) e = R := ⟨_, rfl⟩
  rw [hR] at c1 ⊢
  refine Tri_in Tryz.func49 rfl (fun w0 S0 => ?_)
  repeat' (first | refine SD ?_ | (refine KC ?_; refine HO_callP rfl rfl rfl rfl (c0) findA (trivial) rfl rfl soA ?_; intro w hw; dsimp only [lca, lna]) | (refine KC ?_; refine HO_keeps ((Keeps.close (φ := RsOk (rs0 : RsQ UpP)) (f := haF _ p now rs0) ⟨[], (none, 0), (none, 0)⟩ ⟨rfl, fun u hu => (by cases hu)⟩ (Keeps.pick 0 rfl rfl (Keeps.add (fun w => own_nil w) (Keeps.add inn_nil (Keeps.add (fun w => own_nil w) Keeps.refl)))))) ?_; refine HO_callP rfl rfl rfl rfl (c1 _) findA (srcsA) rfl rfl soA ?_; intro w hw; dsimp only [lca, lna]) | refine SB ?_ | (refine S2 ?_; intro _) | fail)
  refine HO_open 0 rfl rfl rfl (fun z hz => ?_)
  dsimp only [haF, rsC, rsP, lca, lna]
  repeat' (first | refine SD ?_ | refine SB ?_ | (refine S2 ?_; intro _) | fail)
  (refine SRt ?_; unfold RetQ; refine ⟨z, hz, rfl, permA⟩)
end Go.Proofs.YteeogabkkblkgaaGreatDoor
