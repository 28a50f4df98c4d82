/- Part of a proof of many texts: what the theorem at its end leans on. -/
import Derived.Test.YteeogabkkblkgaaGreatDoorVPeV
import Derived.Test.YteeogabkkblkgaaGreatDoorVPeU
import Derived.Test.YteeogabkkblkgaaGreatDoorVAttE
namespace Go.Proofs.YteeogabkkblkgaaGreatDoor
set_option maxHeartbeats 1000000000
set_option linter.unusedVariables false
set_option linter.unusedSimpArgs false
open Go.RowKit
attribute [local irreducible] HC HX HO Tri eP adr
theorem omsg_t (o : OpQ) (hi : 0 ≤ o.id ∧ o.id ≤ 4294967295) : Tri Tryz.prog 91 [opV o] [] [] (fun _ : OA => True)
  (fun z => .tuple #[mgV (if openOk o.as o.hold o.id o.paths o.four = true then 1 else 0) z.1 (obB o).length z.2, .int .i64 (if openOk o.as o.hold o.id o.paths o.four = true then 0 else 40)]) (fun z => [ownB z (obB o)]) := by
 have k1 := oput_t o hi
 unfold mgV
 cases hk : openOk o.as o.hold o.id o.paths o.four with
 | false =>
  have e : obB o = [] := by unfold obB; rw [hk]; rfl
  rw [hk, e] at k1
  rw [e, if_neg (by decide), if_neg (by decide)]
  rw [if_neg (by decide)] at k1
  refine Tri_in Tryz.func91 rfl (fun w0 S0 => ?_)
  repeat' (first | refine SD ?_ | (refine KC ?_; refine HO_call rfl rfl rfl rfl (k1) rfl (trivial) rfl rfl soA ?_; intro ⟨x1, x2⟩ hx; dsimp only [lca, lna]) | refine SB ?_ | (refine S2 ?_; intro _) | fail)
  (refine SRt ?_; unfold RetQ; refine ⟨(none, 0), trivial, rfl, (Keeps.add (fun w => own_nil w) Keeps.nil)⟩)
 | true =>
  rw [hk, if_pos rfl] at k1
  rw [if_pos rfl, if_pos rfl]
  obtain ⟨B, hB⟩ : ∃ B, obB o = B := ⟨_, rfl⟩
  rw [hB] at k1 ⊢
  clear hk
  refine Tri_in Tryz.func91 rfl (fun w0 S0 => ?_)
  repeat' (first | refine SD ?_ | (refine KC ?_; refine HO_call rfl rfl rfl rfl (k1) rfl (trivial) rfl rfl soA ?_; intro ⟨x1, x2⟩ hx; dsimp only [lca, lna]) | refine SB ?_ | (refine S2 ?_; intro _) | fail)
  (refine SRt ?_; unfold RetQ; refine ⟨(x1, x2), trivial, rfl, permA⟩)
theorem u8_eq {a b : UInt8} : (((a.toNat : Nat) : Int) = ((b.toNat : Nat) : Int)) ↔ a = b := by
 constructor
 ·intro h
  exact UInt8.toNat_inj.1 (by omega)
 ·intro h
  rw [h]
theorem equalB_t (A : Option Addr) (c : Nat) (l : List UInt8) (A2 : Option Addr) (c2 : Nat) (m : List UInt8) (hl : l.length ≤ 1000000) (hm : m.length ≤ 1000000) :
  Tri Tryz.prog 221 [.slice A l.length c, .slice A2 m.length c2] [arr bE 1 A l, arr bE 1 A2 m] [] (fun _ : Unit => True) (fun _ => .bool (decide (l = m))) (fun _ => []) := by
 by_cases hn : l.length = m.length
 ·have hnz : ¬ ((l.length : Int) ≠ (m.length : Int)) := by omega
  have hne : (l.length : Int) = (m.length : Int) := by omega
  refine Tri_in Tryz.func221 rfl (fun w0 S0 => ?_)
  repeat' (first | refine SX ?_ | refine SB ?_ | fail)
  refine HC_loop (α := Nat) (fun j => j ≤ l.length ∧ ∀ q, q < j → l[q]? = m[q]?) (fun j => [(13, .int .i64 j), (12, .int .i64 l.length), (0, .slice A l.length c), (1, .slice A2 m.length c2)]) (fun _ => []) (fun j => l.length - j) rfl 0 ⟨Nat.zero_le _, fun q hq => by omega⟩ ⟨rfl, rfl, rfl, rfl, trivial⟩ rfl ?_
  intro j ⟨hj, hq⟩
  rcases Nat.lt_or_ge j l.length with hlt | hge
  ·have hlt2 : j < m.length := by omega
   obtain ⟨a, ha⟩ : ∃ a, l[j]? = some a := ⟨l[j], List.getElem?_eq_getElem hlt⟩
   obtain ⟨b, hb⟩ : ∃ b, m[j]? = some b := ⟨m[j], List.getElem?_eq_getElem hlt2⟩
   have ha2 := map_at (enc := bE) ha
   have hb2 := map_at (enc := bE) hb
   have hjz : (j : Int) < (l.length : Int) := by omega
   by_cases hab : a = b
   ·have habz : (a.toNat : Int) = (b.toNat : Int) := by rw [hab]
    repeat' (first | refine SX ?_ | refine SB ?_ | fail)
    exact HX_at (j + 1) ⟨⟨hlt, fun q hq' => by
     rcases Nat.lt_or_ge q j with h | h
     ·exact hq q h
     ·obtain rfl : q = j := by omega
      rw [ha, hb, hab]⟩, by omega⟩ ⟨rfl, rfl, rfl, rfl, trivial⟩ rfl
   ·have habz : ¬ (a.toNat : Int) = (b.toNat : Int) := fun h => hab (u8_eq.1 h)
    have hf : decide (l = m) = false := decide_eq_false fun h => by
     rw [h, hb] at ha
     injection ha with ha
     exact hab ha.symm
    rw [hf]
    repeat' (first | refine SX ?_ | refine SB ?_ | fail)
    (refine SRt ?_; refine RU ?_)
    rfl
  ·obtain rfl : j = l.length := by omega
   have hf : decide (l = m) = true := decide_eq_true (List.ext_getElem? fun q => by
    rcases Nat.lt_or_ge q l.length with h | h
    ·exact hq q h
    ·rw [List.getElem?_eq_none h, List.getElem?_eq_none (by omega)])
   have hjz : ¬ ((l.length : Int) < (l.length : Int)) := by omega
   rw [hf]
   repeat' (first | refine SX ?_ | refine SB ?_ | fail)
   (refine SRt ?_; refine RU ?_)
   rfl
 ·have hnz : ((l.length : Int) ≠ (m.length : Int)) := by omega
  have hne : ¬ (l.length : Int) = (m.length : Int) := by omega
  have hf : decide (l = m) = false := decide_eq_false fun h => hn (by rw [h])
  rw [hf]
  refine Tri_in Tryz.func221 rfl (fun w0 S0 => ?_)
  repeat' (first | refine SX ?_ | refine SB ?_ | fail)
  (refine SRt ?_; refine RU ?_)
  rfl
section
variable {r : Option Nat} {m : Nat} {P : Program} {N : Nat} {w0 : World} {S0 : Foot} {c : Code} {env : Env} {ro rw : List SL} {Q : Exit → Act → World → Prop}
theorem HR_condT (hk : isCond c = true) (hv : Env.ev env (cCond c) = some (.bool true)) (h : HR r m P N w0 S0 (cT c) env ro rw Q) : HR r m P N w0 S0 c env ro rw Q := by
 cases c <;> simp [isCond] at hk
 exact fun a S w ha hw => wpIn_cond_true (ha.ev hv) (h a S w ha hw)
theorem HR_condF (hk : isCond c = true) (hv : Env.ev env (cCond c) = some (.bool false)) (h : HR r m P N w0 S0 (cE c) env ro rw Q) : HR r m P N w0 S0 c env ro rw Q := by
 cases c <;> simp [isCond] at hk
 exact fun a S w ha hw => wpIn_cond_false (ha.ev hv) (h a S w ha hw)
theorem HR_skip (hk : isSkip c = true) (h : HX N w0 S0 .normal env ro rw Q) : HR r m P N w0 S0 c env ro rw Q := by
 cases c <;> simp [isSkip] at hk
 unfold HX at h
 exact fun a S w ha hf => wpIn_skip (h a S w ha hf)
theorem HR_addR {e0 e : SL} (k : Nat) (hk : ro[k]? = some e0) (he : Ent e0 e) (h : HR r m P N w0 S0 c env (e :: ro) rw Q) : HR r m P N w0 S0 c env ro rw Q := by
 unfold HR at h ⊢
 exact fun a S w ha hf => h a S w ha ⟨hf.fr, hf.lt, hf.sub, hf.star, fun f hm => by
  cases hm with
  | head =>
   obtain ⟨F, hF, hp⟩ := hf.ros e0 (List.mem_of_getElem? hk)
   exact ⟨F, hF, he _ _ hp⟩
  | tail _ hm => exact hf.ros f hm⟩
theorem HX_dropR {e : SL} {x : Exit} (h : HX N w0 S0 x env ro rw Q) : HX N w0 S0 x env (e :: ro) rw Q := by
 unfold HX at h ⊢
 exact fun a S w ha hf => h a S w ha ⟨hf.fr, hf.lt, hf.sub, hf.star, fun f hm => hf.ros f (.tail _ hm)⟩
theorem HX_retDn {D : Nat} {vs : List Value} {ro1 : List SL} {fn : Func} {α : Type} {φ : α → Prop} {val : α → Value} {es : α → List SL} (hD : w0.heap.size ≤ D) (hsub : ∀ e ∈ ro, e ∈ ro1) (hcr : ∀ e ∈ ro, Cellish e) (hcw : ∀ e ∈ rw, Cellish e) (hr : ResAll P N w0 S0 env ro rw fn.results.toList vs) (h : RetQ vs rw φ val es) :
  HX N w0 S0 .normal env (markP D :: ro1) rw (mk D (bodyPostM Fence.wide 3 P fn (Post w0 S0 ro φ val es))) := by
 unfold HX
 obtain ⟨x, hφ, hv, hk⟩ := h
 exact fun a S w ha hf => by
  obtain ⟨F, hF, hFD, hdef⟩ := hf.ros (markP D) (by simp)
  have hf' : Fits w0 S0 ro rw S w := ⟨hf.fr, hf.lt, hf.sub, hf.star, fun e he => hf.ros e (by simp [hsub e he])⟩
  have hfc := hf'.cells hcr hcw
  have hg : w.grownBy (w.putObj D (.deferred none)) (some D) := grownBy_putObj' w D _
  have hfc' := hfc.grown hD hg (fun q e => by cases e; exact ⟨Nat.le_refl _, _, hdef, rfl⟩)
  obtain ⟨T, hT⟩ := hfc'.f.keeps hk
  show LeavesInM Fence.wide 3 P fn a.tmps _ [markD D] .returning w
  refine ⟨(fun hh => by cases hh), .inl ⟨D, _, rfl, run_takeDeferred hdef, tupV vs, results_run hr ha hfc'.f, x, T, hφ, by rw [hv], hT⟩⟩
end
def ptS (d : List UInt8) (k : Nat) (p : Int) : Int := if d.getD (4 * k) 0 = 0 ∧ d.getD (4 * k + 1) 0 = 1 ∧ d.getD (4 * k + 2) 0 = 1 ∧ 1 ≤ (d.getD (4 * k + 3) 0).toNat ∧ (d.getD (4 * k + 3) 0).toNat ≤ 3 then ((d.getD (4 * k + 3) 0).toNat : Int) else p
theorem paths_fold : ∀ (m : Nat) (p : Int) (d : List UInt8), d.length = 4 * m → pathsM m p d = (List.range m).foldl (fun p k => ptS d k p) p
 | 0, p, d, _ => rfl
 | m + 1, p, a :: b :: c :: e :: r, h => by
  have hr : r.length = 4 * m := by simp only [List.length_cons] at h; omega
  unfold pathsM
  rw [paths_fold m _ r hr, List.range_succ_eq_map, List.foldl_cons, List.foldl_map]
  rfl
 | m + 1, p, [], h => by simp at h
 | m + 1, p, [_], h => by simp only [List.length_cons, List.length_nil] at h; omega
 | m + 1, p, [_, _], h => by simp only [List.length_cons, List.length_nil] at h; omega
 | m + 1, p, [_, _, _], h => by simp only [List.length_cons, List.length_nil] at h; omega
@[reducible] def sdC (o : OpQ) : List Value := [.int .i64 o.as, .int .i64 o.hold, .int .u32 o.id, .bool o.four, .int .i64 o.paths]
@[reducible] def sdP (s : Nat) (o : OpQ) : SL := cel s 219 (sdC o)
def ptF {m : Nat} (d : List UInt8) (p : Int) (pre : List (Fin m)) : Int := pre.foldl (fun p k => ptS d k.val p) p
theorem ptF_all (d : List UInt8) (p : Int) (m : Nat) (h : d.length = 4 * m) : ptF d p (List.finRange m) = pathsM m p d := by
 rw [paths_fold m p d h]
 unfold ptF
 have : List.range m = (List.finRange m).map (·.val) := by
  apply List.ext_getElem
  ·simp
  ·intro i h1 h2
   simp
 rw [this, List.foldl_map]
theorem four_at {d : List UInt8} {k m : Nat} (h : d.length = 4 * m) (hk : k < m) : ∃ a b c e, (d.drop (4 * k)).take 4 = [a, b, c, e] ∧ d.getD (4 * k) 0 = a ∧ d.getD (4 * k + 1) 0 = b ∧ d.getD (4 * k + 2) 0 = c ∧ d.getD (4 * k + 3) 0 = e := by
 have hl : ((d.drop (4 * k)).take 4).length = 4 := by rw [List.length_take, List.length_drop]; omega
 have hg : ∀ j, j < 4 → d.getD (4 * k + j) 0 = ((d.drop (4 * k)).take 4).getD j 0 := fun j hj => by
  rw [List.getD_eq_getElem?_getD, List.getD_eq_getElem?_getD, List.getElem?_take, if_pos hj, List.getElem?_drop]
 have g0 := hg 0 (by decide)
 have g1 := hg 1 (by decide)
 have g2 := hg 2 (by decide)
 have g3 := hg 3 (by decide)
 obtain ⟨l, hl'⟩ : ∃ l, (d.drop (4 * k)).take 4 = l := ⟨_, rfl⟩
 rw [hl'] at hl g0 g1 g2 g3 ⊢
 match l, hl with
 | [a, b, c, e], _ => exact ⟨a, b, c, e, rfl, g0, g1, g2, g3⟩
theorem opaths_t (s : Nat) (o : OpQ) (dA : Option Addr) (dc : Nat) (d : List UInt8) (hc : d.length ≤ dc) (m : Nat) (hm : d.length = 4 * m) (h1 : m ≤ 1000) :
  Tri Tryz.prog 203 [pt s, .slice dA d.length dc] [arr bE 1 dA d] [sdP s o] (fun _ : Unit => True) (fun _ => .tuple #[]) (fun _ => [sdP s { o with paths := pathsM m o.paths d }]) := by
 refine Tri_ofM (N := Tryz.f203.ntmps) (c := bodyOf Tryz.f203) Tryz.func203 rfl rfl rfl rfl (fun w0 S0 => ?_)
 dsimp only [pt, sdP, sdC]
 repeat' (first | refine SY ?_ | (refine KC ?_; refine HO_callP rfl rfl rfl rfl (chunk_t _ _ _) findA (trivial) rfl rfl soA ?_; intro ⟨b1, b2⟩ hx; dsimp only [lca, lna]) | refine SB ?_ | (refine S2 ?_; intro _) | fail)
 rename_i b0
 refine HC_give 0 rfl rfl (HC_give 0 rfl rfl (HC_give 0 rfl rfl ?_))
 refine HC_range (α := Fin m) (ty := 22) (pos := "open.go:100") (i := 2) (t := 6) (p := 7) (d := 4) rfl rfl rfl rfl (Go.Proofs.enters_of Tryz.func229 (by kernel_rfl) rfl) (fun k => chkV dA dc k.val) (List.finRange m) (b1 := b1) (b2 := b2) (T1 := 22) (T2 := TIn) (cs1 := [.slice dA d.length dc]) (cs2 := [.int .i64 4]) (by simp) (by simp)
  (fun S w hf => chunk_stops (T1 := 22) (T2 := TIn) hf hm (by omega) (by omega) (by simp) (by simp)) (fun pre => [sdP s { o with paths := ptF d o.paths pre }]) rfl ?_ (fun pre e he => by simp at he; subst he; exact Cellish.cel) ?_ ?_
 ·intro e he
  simp at he
  rcases he with rfl | rfl | rfl | rfl
  ·exact Cellish.cel
  ·exact Cellish.cel
  ·exact Cellish.cel
  ·exact Cellish.arr rfl
 ·intro l pre k w S hlen
  have hk := k.isLt
  obtain ⟨x0, x1, x2, x3, e4, g0, g1, g2, g3⟩ := four_at hm hk
  have hF : ptF d o.paths (pre ++ [k]) = ptS d k.val (ptF d o.paths pre) := by unfold ptF; rw [List.foldl_append]; rfl
  have hent : Ent (arr bE 1 dA d) (arr bE 1 (cutA dA 1 dc (4 * k.val)) [x0, x1, x2, x3]) := by
   rw [← e4]
   exact arr_cut _ _ _ (fun h => by omega)
  refine HR_addR 3 rfl hent ?_
  obtain ⟨q, hq⟩ : ∃ q, ptF d o.paths pre = q := ⟨_, rfl⟩
  have hS : ptS d k.val q = if x0 = 0 ∧ x1 = 1 ∧ x2 = 1 ∧ 1 ≤ x3.toNat ∧ x3.toNat ≤ 3 then (x3.toNat : Int) else q := by
   unfold ptS
   rw [g0, g1, g2, g3]
  rw [hF, hq, hS]
  have c1 := fun B => equalB_t (cutA dA 1 dc (4 * k.val)) 4 [x0, x1, x2] B 3 [0, 1, 1] (by simp) (by simp)
  obtain ⟨Z, hZ⟩ : ∃ Z, cutA dA 1 dc (4 * k.val) = Z := ⟨_, rfl⟩
  unfold chkV
  rw [hZ] at c1 ⊢
  by_cases hm3 : [x0, x1, x2] = [0, 1, 1]
  ·rw [decide_eq_true hm3] at c1
   have hx0 : x0 = 0 ∧ x1 = 1 ∧ x2 = 1 := by simpa using hm3
   by_cases ha : 1 ≤ x3.toNat
   ·have haz : (x3.toNat : Int) ≥ 1 := by omega
    by_cases hb : x3.toNat ≤ 3
    ·have hbz : (x3.toNat : Int) ≤ 3 := by omega
     rw [if_pos ⟨hx0.1, hx0.2.1, hx0.2.2, ha, hb⟩]
     repeat' (first | refine SY ?_ | (refine HR_condT rfl rfl ?_) | (refine HR_condF rfl rfl ?_) | (refine HR_skip rfl ?_) | (refine KC ?_; refine HO_callq rfl rfl rfl rfl (c1 _) (fun _ _ => rfl) ((by first | exact AllSrc.via 0 rfl (fun S w h => arr_take 3 S w h) (AllSrc.own 6 rfl rfl trivial) | exact AllSrc.via 0 rfl (fun S w h => arr_take 3 S w h) (AllSrc.own 5 rfl rfl trivial))) rfl rfl sqA ?_) | refine S1 ?_ | (refine S2 ?_; intro _) | refine SR ?_ | refine S5 ?_ | fail)
     refine HX_dropR ?_
     exact HX_keeps permA (HX_endR rfl)
    ·have hbz : ¬ (x3.toNat : Int) ≤ 3 := by omega
     rw [if_neg (fun h => hb h.2.2.2.2)]
     repeat' (first | refine SY ?_ | (refine HR_condT rfl rfl ?_) | (refine HR_condF rfl rfl ?_) | (refine HR_skip rfl ?_) | (refine KC ?_; refine HO_callq rfl rfl rfl rfl (c1 _) (fun _ _ => rfl) ((by first | exact AllSrc.via 0 rfl (fun S w h => arr_take 3 S w h) (AllSrc.own 6 rfl rfl trivial) | exact AllSrc.via 0 rfl (fun S w h => arr_take 3 S w h) (AllSrc.own 5 rfl rfl trivial))) rfl rfl sqA ?_) | refine S1 ?_ | (refine S2 ?_; intro _) | refine SR ?_ | refine S5 ?_ | fail)
     refine HX_dropR ?_
     exact HX_keeps permA (HX_endR rfl)
   ·have haz : ¬ (x3.toNat : Int) ≥ 1 := by omega
    rw [if_neg (fun h => ha h.2.2.2.1)]
    repeat' (first | refine SY ?_ | (refine HR_condT rfl rfl ?_) | (refine HR_condF rfl rfl ?_) | (refine HR_skip rfl ?_) | (refine KC ?_; refine HO_callq rfl rfl rfl rfl (c1 _) (fun _ _ => rfl) ((by first | exact AllSrc.via 0 rfl (fun S w h => arr_take 3 S w h) (AllSrc.own 6 rfl rfl trivial) | exact AllSrc.via 0 rfl (fun S w h => arr_take 3 S w h) (AllSrc.own 5 rfl rfl trivial))) rfl rfl sqA ?_) | refine S1 ?_ | (refine S2 ?_; intro _) | refine SR ?_ | refine S5 ?_ | fail)
    refine HX_dropR ?_
    exact HX_keeps permA (HX_endR rfl)
  ·rw [decide_eq_false hm3] at c1
   rw [if_neg (fun h => hm3 (by rw [h.1, h.2.1, h.2.2.1]))]
   repeat' (first | refine SY ?_ | (refine HR_condT rfl rfl ?_) | (refine HR_condF rfl rfl ?_) | (refine HR_skip rfl ?_) | (refine KC ?_; refine HO_callq rfl rfl rfl rfl (c1 _) (fun _ _ => rfl) ((by first | exact AllSrc.via 0 rfl (fun S w h => arr_take 3 S w h) (AllSrc.own 6 rfl rfl trivial) | exact AllSrc.via 0 rfl (fun S w h => arr_take 3 S w h) (AllSrc.own 5 rfl rfl trivial))) rfl rfl sqA ?_) | refine S1 ?_ | (refine S2 ?_; intro _) | refine SR ?_ | refine S5 ?_ | fail)
   refine HX_dropR ?_
   exact HX_keeps permA (HX_endR rfl)
 ·intro D hD
  rw [ptF_all d o.paths m hm]
  refine HM_block ?_
  refine HX_retDn hD (fun e he => by simp at he; simp [he]) (fun e he => by simp at he; subst he; exact Cellish.arr rfl) (fun e he => by simp at he; subst he; exact Cellish.cel) Res_nil ⟨(), trivial, rfl, Keeps.refl⟩
end Go.Proofs.YteeogabkkblkgaaGreatDoor
