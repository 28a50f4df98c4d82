/- Part of a proof of many texts: what the theorem at its end leans on. -/
import Derived.Test.YteeogabkkblkgaaGreatDoorVAttM
import Derived.Test.YteeogabkkblkgaaGreatDoorVAttG
namespace Go.Proofs.YteeogabkkblkgaaGreatDoor
set_option maxHeartbeats 1000000000
set_option linter.unusedVariables false
set_option linter.unusedSimpArgs false
open Go.RowKit
attribute [local irreducible] HC HX HO Tri eP adr
def a0 : AttS := ⟨0, none, 0, [], 0, -1, -1, none, 0, []⟩
def az : AttS := ⟨0, none, 0, [], 0, 0, 0, none, 0, []⟩
theorem must14 : ∀ s, s < 512 → (bAnd .u32 (s : Nat) 14 = 14 ↔ mustB s = true) := by decide +kernel
theorem az_keeps {rw : List SL} : Keeps rw az.ro := Keeps.add (fun w => inn_nil w) (Keeps.add (fun w => arr_nil _ w) (Keeps.add (fun w => arr_nil _ w) Keeps.nil))
theorem getG_eq (w : Nat) (d : List UInt8) : getG w d = match allR w ⟨p0, 0⟩ d with
   | none => (pz, 3)
   | some s => if mustB s.seen = true then (s.a, 1) else (pz, 2) := rfl
set_option maxRecDepth 100000 in
theorem aget_t (four : Bool) (dA : Option Addr) (dc : Nat) (d : List UInt8) (hd : d.length ≤ 100000) :
  Tri Tryz.prog 182 [.slice dA d.length dc, .bool four] [arr bE 1 dA d] [] (fun a : AttS => a.pa = (getG (szF four) d).1) (fun a => .tuple #[.agg a.e.toArray, .int .i64 (getG (szF four) d).2]) (fun a => a.ro) := by
 have hall := fun b => all_t b a0 four 0 dA dc d hd (okS_p0 (szF four))
 have hgo := allG_ok (szF four) (d.length + 1) ⟨p0, 0⟩ d
 obtain ⟨res, hres⟩ : ∃ res, allR (szF four) ⟨p0, 0⟩ d = res := ⟨_, rfl⟩
 have hres' : allR (szF four) ⟨a0.pa, 0⟩ d = res := hres
 simp only [hres'] at hall
 cases res with
 | none =>
  have hg : getG (szF four) d = (pz, 3) := by rw [getG_eq, hres]
  rw [hg]
  refine Tri_in Tryz.func182 rfl (fun w0 S0 => ?_)
  dsimp only [pt]
  repeat' (first | refine SD ?_ | refine SB ?_ | (refine S2 ?_; intro _) | fail)
  rename_i b4 bx
  refine HO_nil (T := TIn) (sz := 1) (HO_keeps (Keeps.add inn_nil Keeps.refl) (HO_nil (T := TSg) (sz := 2) ?_))
  refine HO_mv 3 rfl rfl ?_
  (refine KC ?_; refine HO_call rfl rfl rfl rfl (hall bx) rfl (srcsA) rfl rfl soA ?_; intro ⟨a', seen'⟩ ha'; dsimp only [attP, lca, lna])
  repeat' (first | refine SD ?_ | refine SB ?_ | (refine S2 ?_; intro _) | fail)
  (refine SRt ?_; unfold RetQ; refine ⟨az, rfl, rfl, az_keeps⟩)
 | some s =>
  have hs := hgo s hres (okS_p0 _)
  have hm := must14 s.seen hs.sl
  have hg : getG (szF four) d = if mustB s.seen = true then (s.a, 1) else (pz, 2) := by rw [getG_eq, hres]
  by_cases h14 : bAnd .u32 (s.seen : Nat) 14 = 14
  ·rw [if_pos (hm.1 h14)] at hg
   rw [hg]
   refine Tri_in Tryz.func182 rfl (fun w0 S0 => ?_)
   dsimp only [pt]
   repeat' (first | refine SD ?_ | refine SB ?_ | (refine S2 ?_; intro _) | fail)
   rename_i b4 bx
   refine HO_nil (T := TIn) (sz := 1) (HO_keeps (Keeps.add inn_nil Keeps.refl) (HO_nil (T := TSg) (sz := 2) ?_))
   refine HO_mv 3 rfl rfl ?_
   (refine KC ?_; refine HO_call rfl rfl rfl rfl (hall bx) rfl (srcsA) rfl rfl soA ?_; intro ⟨a', seen'⟩ ha'; dsimp only [attP, lca, lna])
   obtain ⟨e1, e2⟩ := ha' s rfl
   dsimp only at e1 e2
   rw [e2]
   repeat' (first | refine SD ?_ | refine SB ?_ | (refine S2 ?_; intro _) | fail)
   (refine SRt ?_; unfold RetQ; refine ⟨a', e1, rfl, Keeps.skip (Keeps.swap (Keeps.cons Ent.rfl_ (Keeps.cons own_e (Keeps.cons own_e Keeps.nil))))⟩)
  ·rw [if_neg (fun h => h14 (hm.2 h))] at hg
   rw [hg]
   refine Tri_in Tryz.func182 rfl (fun w0 S0 => ?_)
   dsimp only [pt]
   repeat' (first | refine SD ?_ | refine SB ?_ | (refine S2 ?_; intro _) | fail)
   rename_i b4 bx
   refine HO_nil (T := TIn) (sz := 1) (HO_keeps (Keeps.add inn_nil Keeps.refl) (HO_nil (T := TSg) (sz := 2) ?_))
   refine HO_mv 3 rfl rfl ?_
   (refine KC ?_; refine HO_call rfl rfl rfl rfl (hall bx) rfl (srcsA) rfl rfl soA ?_; intro ⟨a', seen'⟩ ha'; dsimp only [attP, lca, lna])
   obtain ⟨e1, e2⟩ := ha' s rfl
   dsimp only at e1 e2
   rw [e2]
   repeat' (first | refine SD ?_ | refine SB ?_ | (refine S2 ?_; intro _) | fail)
   (refine SRt ?_; unfold RetQ; refine ⟨az, rfl, rfl, az_keeps⟩)
theorem all_same {α : Type} {l l' : List α} (hl : l.length = l'.length) (h : ∀ q, q < l.length → l[q]? = l'[q]?) : l = l' := by
 apply List.ext_getElem? 
 intro i
 rcases Nat.lt_or_ge i l.length with hi | hi
 ·exact h i hi
 ·rw [List.getElem?_eq_none hi, List.getElem?_eq_none (by omega)]
theorem dec_false {α : Type} [DecidableEq α] {l l' : List α} {j : Nat} {x y : α} (h1 : l[j]? = some x) (h2 : l'[j]? = some y) (hne : ¬ x = y) : decide (l = l') = false :=
 decide_eq_false fun e => hne (by rw [e, h2] at h1; injection h1 with h1; exact h1.symm)
theorem eqI_t (A : Option Addr) (n c : Nat) (l : List Int) (hn : n = l.length) (B : Option Addr) (n' c' : Nat) (l' : List Int) (hn' : n' = l'.length) (hl : l.length ≤ 1000000) (hl' : l'.length ≤ 1000000) :
  Tri Tryz.prog 187 [.slice A n c, .slice B n' c'] [arr iE 1 A l, arr iE 1 B l'] [] (fun _ : Unit => True) (fun _ => .bool (decide (l = l'))) (fun _ => []) := by
 by_cases hne : l.length = l'.length
 ·refine Tri_in Tryz.func187 rfl (fun w0 S0 => ?_)
  repeat' (first | refine SX ?_ | refine SB ?_ | fail)
  refine HC_loop (α := Nat) (fun j => j ≤ l.length ∧ ∀ q, q < j → l[q]? = l'[q]?) (fun j => [(13, .int .i64 j), (12, .int .i64 n), (0, .slice A n c), (1, .slice B n' c')]) (fun _ => []) (fun j => l.length - j) rfl 0 ⟨Nat.zero_le _, fun q hq => by omega⟩ ⟨rfl, rfl, rfl, rfl, trivial⟩ rfl ?_
  intro j ⟨hj, hno⟩
  rcases Nat.lt_or_ge j l.length with hlt | hge
  ·obtain ⟨x, hx⟩ : ∃ x, l[j]? = some x := ⟨l[j], List.getElem?_eq_getElem hlt⟩
   obtain ⟨y, hy⟩ : ∃ y, l'[j]? = some y := ⟨l'[j], List.getElem?_eq_getElem (by omega)⟩
   by_cases hxy : x = y
   ·repeat' (first | refine SX ?_ | refine SB ?_ | fail)
    exact HX_at (j + 1) ⟨⟨hlt, fun q hq => by
     rcases Nat.lt_or_ge q j with h | h
     ·exact hno q h
     ·obtain rfl : q = j := by omega
      rw [hx, hy, hxy]⟩, by omega⟩ ⟨rfl, rfl, rfl, rfl, trivial⟩ rfl
   ·repeat' (first | refine SX ?_ | refine SB ?_ | fail)
    (refine SRt ?_; refine RU ?_)
    rw [dec_false hx hy hxy]; rfl
  ·obtain rfl : j = l.length := by omega
   repeat' (first | refine SX ?_ | refine SB ?_ | fail)
   (refine SRt ?_; refine RU ?_)
   rw [decide_eq_true (all_same hne hno)]; rfl
 ·have e : decide (l = l') = false := decide_eq_false fun h => hne (by rw [h])
  rw [e]
  refine Tri_in Tryz.func187 rfl (fun w0 S0 => ?_)
  repeat' (first | refine SX ?_ | refine SB ?_ | fail)
  (refine SRt ?_; refine RU ?_)
  rfl
theorem reqI_t (A : Option Addr) (n c : Nat) (l : List Int) (hn : n = l.length) (B : Option Addr) (n' c' : Nat) (l' : List Int) (hn' : n' = l'.length) (hl : l.length ≤ 1000000) (hl' : l'.length ≤ 1000000) :
  Tri Tryz.prog 100 [.slice A n c, .slice B n' c'] [arr iE 1 A l, arr iE 1 B l'] [] (fun _ : Unit => True) (fun _ => .bool (decide (l = l'))) (fun _ => []) := by
 by_cases hne : l.length = l'.length
 ·refine Tri_in Tryz.func100 rfl (fun w0 S0 => ?_)
  repeat' (first | refine SX ?_ | refine SB ?_ | fail)
  refine HC_loop (α := Nat) (fun j => j ≤ l.length ∧ ∀ q, q < j → l[q]? = l'[q]?) (fun j => [(5, .int .i64 j), (0, .slice A n c), (1, .slice B n' c')]) (fun _ => []) (fun j => l.length - j) rfl 0 ⟨Nat.zero_le _, fun q hq => by omega⟩ ⟨rfl, rfl, rfl, trivial⟩ rfl ?_
  intro j ⟨hj, hno⟩
  rcases Nat.lt_or_ge j l.length with hlt | hge
  ·obtain ⟨x, hx⟩ : ∃ x, l[j]? = some x := ⟨l[j], List.getElem?_eq_getElem hlt⟩
   obtain ⟨y, hy⟩ : ∃ y, l'[j]? = some y := ⟨l'[j], List.getElem?_eq_getElem (by omega)⟩
   by_cases hxy : x = y
   ·repeat' (first | refine SX ?_ | refine SB ?_ | fail)
    exact HX_at (j + 1) ⟨⟨hlt, fun q hq => by
     rcases Nat.lt_or_ge q j with h | h
     ·exact hno q h
     ·obtain rfl : q = j := by omega
      rw [hx, hy, hxy]⟩, by omega⟩ ⟨rfl, rfl, rfl, trivial⟩ rfl
   ·repeat' (first | refine SX ?_ | refine SB ?_ | fail)
    (refine SRt ?_; refine RU ?_)
    rw [dec_false hx hy hxy]; rfl
  ·obtain rfl : j = l.length := by omega
   repeat' (first | refine SX ?_ | refine SB ?_ | fail)
   (refine SRt ?_; refine RU ?_)
   rw [decide_eq_true (all_same hne hno)]; rfl
 ·have e : decide (l = l') = false := decide_eq_false fun h => hne (by rw [h])
  rw [e]
  refine Tri_in Tryz.func100 rfl (fun w0 S0 => ?_)
  repeat' (first | refine SX ?_ | refine SB ?_ | fail)
  (refine SRt ?_; refine RU ?_)
  rfl
def sgSame (s t : SegS) : Bool := decide (s.set = t.set) && decide (s.ns = t.ns)
theorem sgSame_iff (s t : SegS) : sgSame s t = decide ((s.set, s.ns) = (t.set, t.ns)) := by
 unfold sgSame
 by_cases h1 : s.set = t.set <;> by_cases h2 : s.ns = t.ns <;> simp [h1, h2]
theorem sameSeg_t (s t : SegS) (L M : List SL) (hs : arr iE 1 s.A s.ns ∈ L) (ht : arr iE 1 t.A t.ns ∈ M) (h1 : s.ns.length ≤ 1000000) (h2 : t.ns.length ≤ 1000000) :
  Tri Tryz.prog 189 [.agg s.e.toArray, .agg t.e.toArray] [inn L, inn M] [] (fun _ : Unit => True) (fun _ => .bool (sgSame s t)) (fun _ => []) := by
 refine Tri_in Tryz.func189 rfl (fun w0 S0 => ?_)
 repeat' (first | (refine KC ?_; refine HO_callq rfl rfl rfl rfl (eqI_t s.A s.ns.length s.c s.ns rfl t.A t.ns.length t.c t.ns rfl h1 h2) (fun _ _ => rfl) (AllSrc.via 0 rfl (inn_arr hs) (AllSrc.via 1 rfl (inn_arr ht) trivial)) rfl rfl sqA ?_) | exact HO_seg rfl rfl | refine S1 ?_ | (refine S2 ?_; intro _) | (refine HO_g 2 rfl ?_; apply HO_a1 rfl) | refine S5 ?_ | (intro hb; try replace hb := simB hb; try exact kill hb))
 (refine SRt ?_; refine RU ?_)
 rfl
theorem spl_get {l : List SegS} {j : Nat} {s : SegS} (h : l[j]? = some s) : (spl l)[j]? = some (s.set, s.ns) := by
 unfold spl
 rw [List.getElem?_map, h]
 rfl
theorem spl_len (l : List SegS) : (spl l).length = l.length := by simp [spl]
theorem eqS_t (A : Option Addr) (n c : Nat) (l : List SegS) (hn : n = l.length) (B : Option Addr) (n' c' : Nat) (l' : List SegS) (hn' : n' = l'.length) (hl : l.length ≤ 1000000) (hl' : l'.length ≤ 1000000) (h1 : ∀ s ∈ l, s.ns.length ≤ 1000000) (h2 : ∀ s ∈ l', s.ns.length ≤ 1000000) :
  Tri Tryz.prog 188 [.slice A n c, .slice B n' c', .func (.func 189) #[] #[]] [inn (segPs l), inn (segPs l'), arr SegS.e 2 A l, arr SegS.e 2 B l'] [] (fun _ : Unit => True) (fun _ => .bool (decide (spl l = spl l'))) (fun _ => []) := by
 by_cases hne : l.length = l'.length
 ·refine Tri_in Tryz.func188 rfl (fun w0 S0 => ?_)
  repeat' (first | refine SX ?_ | refine SB ?_ | (refine S2 ?_; intro _) | fail)
  refine HC_loop (α := Nat) (fun j => j ≤ l.length ∧ ∀ q, q < j → (spl l)[q]? = (spl l')[q]?) (fun j => [(17, .int .i64 j), (16, .int .i64 n), (15, .slice A n c), (0, .slice A n c), (1, .slice B n' c'), (2, .func (.func 189) #[] #[])]) (fun _ => []) (fun j => l.length - j) rfl 0 ⟨Nat.zero_le _, fun q hq => by omega⟩ ⟨rfl, rfl, rfl, rfl, rfl, rfl, trivial⟩ rfl ?_
  intro j ⟨hj, hno⟩
  rcases Nat.lt_or_ge j l.length with hlt | hge
  ·obtain ⟨x, hx⟩ : ∃ x, l[j]? = some x := ⟨l[j], List.getElem?_eq_getElem hlt⟩
   obtain ⟨y, hy⟩ : ∃ y, l'[j]? = some y := ⟨l'[j], List.getElem?_eq_getElem (by omega)⟩
   have hxm := List.mem_of_getElem? hx
   have hym := List.mem_of_getElem? hy
   have hsm := sameSeg_t x y (segPs l) (segPs l') (seg_mem hxm) (seg_mem hym) (h1 x hxm) (h2 y hym)
   rw [sgSame_iff] at hsm
   by_cases hxy : (x.set, x.ns) = (y.set, y.ns)
   ·rw [decide_eq_true hxy] at hsm
    repeat' (first | refine SX ?_ | (refine KC ?_; refine HO_callq rfl rfl rfl rfl (hsm) (fun _ _ => rfl) (AllSrc.at_ 0 rfl (AllSrc.at_ 1 rfl trivial)) rfl rfl sqA ?_) | refine SB ?_ | (refine S2 ?_; intro _) | fail)
    refine HX_keeps Keeps.nil ?_
    exact HX_at (j + 1) ⟨⟨hlt, fun q hq => by
     rcases Nat.lt_or_ge q j with h | h
     ·exact hno q h
     ·obtain rfl : q = j := by omega
      rw [spl_get hx, spl_get hy, hxy]⟩, by omega⟩ ⟨rfl, rfl, rfl, rfl, rfl, rfl, trivial⟩ rfl
   ·rw [decide_eq_false hxy] at hsm
    repeat' (first | refine SX ?_ | (refine KC ?_; refine HO_callq rfl rfl rfl rfl (hsm) (fun _ _ => rfl) (AllSrc.at_ 0 rfl (AllSrc.at_ 1 rfl trivial)) rfl rfl sqA ?_) | refine SB ?_ | (refine S2 ?_; intro _) | fail)
    (refine SRt ?_; refine RU ?_)
    rw [dec_false (spl_get hx) (spl_get hy) hxy]; rfl
  ·obtain rfl : j = l.length := by omega
   repeat' (first | refine SX ?_ | refine SB ?_ | (refine S2 ?_; intro _) | fail)
   (refine SRt ?_; refine RU ?_)
   rw [decide_eq_true (all_same (by rw [spl_len, spl_len, hne]) (fun q hq => hno q (by rwa [spl_len] at hq)))]; rfl
 ·have e : decide (spl l = spl l') = false := decide_eq_false fun h => hne (by rw [← spl_len l, h, spl_len])
  rw [e]
  refine Tri_in Tryz.func188 rfl (fun w0 S0 => ?_)
  repeat' (first | refine SX ?_ | refine SB ?_ | (refine S2 ?_; intro _) | fail)
  (refine SRt ?_; refine RU ?_)
  rfl
def sameB (p q : PA) : Bool := decide (p.org = q.org) && decide (p.nxt = q.nxt) && decide (p.med = q.med) && decide (p.pref = q.pref) && decide (p.comms = q.comms) && decide (p.path = q.path)
theorem sameB_refl (p : PA) : sameB p p = true := by simp [sameB]
structure Lim (a : AttS) : Prop where
 p : a.path.length ≤ 1000
 c : a.comms.length ≤ 1000
 s : ∀ s ∈ a.path, s.ns.length ≤ 1000
theorem asame_t (a a' : AttS) (h : Lim a) (h' : Lim a') :
  Tri Tryz.prog 147 [.agg a.e.toArray, .agg a'.e.toArray] (a.ro ++ a'.ro) [] (fun _ : Unit => True) (fun _ => .bool (sameB a.pa a'.pa)) (fun _ => []) := by
 obtain ⟨hp, hc, hs⟩ := h
 obtain ⟨hp', hc', hs'⟩ := h'
 have hcm := eqI_t a.cA a.comms.length a.cc a.comms rfl a'.cA a'.comms.length a'.cc a'.comms rfl (by omega) (by omega)
 have hsg := eqS_t a.pA a.path.length a.pc a.path rfl a'.pA a'.path.length a'.pc a'.path rfl (by omega) (by omega) (fun s hm => by have := hs s hm; omega) (fun s hm => by have := hs' s hm; omega)
 refine Tri_in Tryz.func147 rfl (fun w0 S0 => ?_)
 dsimp only [AttS.ro, AttS.e, lca, lna]
 repeat' (first | (refine KC ?_; refine HO_callq rfl rfl rfl rfl (hcm) (fun _ _ => rfl) (srcsA) rfl rfl sqA ?_) | (refine KC ?_; refine HO_callq rfl rfl rfl rfl (hsg) (fun _ _ => rfl) (srcsA) rfl rfl sqA ?_) | exact HO_seg rfl rfl | refine S1 ?_ | (refine S2 ?_; intro _) | (refine HO_g 2 rfl ?_; apply HO_a1 rfl) | refine S5 ?_ | (intro hb; try replace hb := simB hb; try exact kill hb))
 (refine SRt ?_; refine RU ?_)
 rfl
theorem sameB_false {p q : PA} (h : ¬ (p.org = q.org ∧ p.nxt = q.nxt ∧ p.med = q.med ∧ p.pref = q.pref ∧ p.comms = q.comms ∧ p.path = q.path)) : sameB p q = false := by
 cases hb : sameB p q with
 | false => rfl
 | true =>
  unfold sameB at hb
  simp only [Bool.and_eq_true, decide_eq_true_eq] at hb
  exact absurd ⟨hb.1.1.1.1.1, hb.1.1.1.1.2, hb.1.1.1.2, hb.1.1.2, hb.1.2, hb.2⟩ h
theorem sameB_true {p q : PA} (h : p.org = q.org ∧ p.nxt = q.nxt ∧ p.med = q.med ∧ p.pref = q.pref ∧ p.comms = q.comms ∧ p.path = q.path) : sameB p q = true := by
 obtain ⟨h1, h2, h3, h4, h5, h6⟩ := h
 unfold sameB
 simp [h1, h2, h3, h4, h5, h6]
set_option maxRecDepth 100000 in
theorem rsame_t (a a' : AttS) (h : Lim a) (h' : Lim a') :
  Tri Tryz.prog 68 [.agg a.e.toArray, .agg a'.e.toArray] (a.ro ++ a'.ro) [] (fun _ : Unit => True) (fun _ => .bool (sameB a.pa a'.pa)) (fun _ => []) := by
 obtain ⟨hp, hc, hs⟩ := h
 obtain ⟨hp', hc', hs'⟩ := h'
 have hcm := reqI_t a.cA a.comms.length a.cc a.comms rfl a'.cA a'.comms.length a'.cc a'.comms rfl (by omega) (by omega)
 refine Tri_in Tryz.func68 rfl (fun w0 S0 => ?_)
 dsimp only [AttS.ro, AttS.e, lca, lna]
 repeat' (first | refine SW ?_ | (refine KC ?_; refine HO_callq rfl rfl rfl rfl (hcm) (fun _ _ => rfl) (srcsA) rfl rfl sqA ?_) | exact HO_seg rfl rfl | refine S1 ?_ | (refine S2 ?_; intro _) | (refine HO_g 2 rfl ?_; apply HO_o1 rfl) | refine S5 ?_ | (intro hb; try replace hb := simB hb; try exact kill hb))
 refine HC_cond rfl rfl (fun hb => ?_) (fun hb => ?_)
 ·repeat' (first | refine SW ?_ | exact HO_seg rfl rfl | refine S1 ?_ | (refine S2 ?_; intro _) | (refine HO_g 2 rfl ?_; apply HO_o1 rfl) | refine S5 ?_ | (intro hb; try replace hb := simB hb; try exact kill hb))
  (refine SRt ?_; refine RU ?_)
  refine congrArg Value.bool (Eq.symm (sameB_false fun hh => ?_))
  obtain ⟨h1, h2, h3, h4, h5, h6⟩ := hh
  simp only [AttS.pa] at h1 h2 h3 h4 h5 h6
  have h7 : a.path.length = a'.path.length := by rw [← spl_len, h6, spl_len]
  simp [h1, h2, h3, h4, h5, h7] at hb
 simp only [Bool.or_eq_false_iff, Bool.not_eq_false', decide_eq_true_eq] at hb
 obtain ⟨⟨⟨⟨⟨e1, e2⟩, e3⟩, e4⟩, e5⟩, e60⟩ := hb
 have e6 : a.path.length = a'.path.length := by omega
 repeat' (first | refine SW ?_ | exact HO_seg rfl rfl | refine S1 ?_ | (refine S2 ?_; intro _) | (refine HO_g 2 rfl ?_; apply HO_o1 rfl) | refine S5 ?_ | (intro hb; try replace hb := simB hb; try exact kill hb))
 rename_i b1 b2
 refine HC_loop (α := Nat) (fun j => j ≤ a.path.length ∧ ∀ q, q < j → (spl a.path)[q]? = (spl a'.path)[q]?) (fun j => [(5, .int .i64 j), (2, pt b1), (3, pt b2)]) (fun _ => [cel b2 53 a'.e, cel b1 53 a.e]) (fun j => a.path.length - j) rfl 0 ⟨Nat.zero_le _, fun q hq => by omega⟩ ⟨rfl, rfl, rfl, trivial⟩ rfl ?_
 intro j ⟨hj, hno⟩
 dsimp only [pt, AttS.e]
 rcases Nat.lt_or_ge j a.path.length with hlt | hge
 ·obtain ⟨x, hx⟩ : ∃ x, a.path[j]? = some x := ⟨a.path[j], List.getElem?_eq_getElem hlt⟩
  obtain ⟨y, hy⟩ : ∃ y, a'.path[j]? = some y := ⟨a'.path[j], List.getElem?_eq_getElem (by omega)⟩
  have hxm := List.mem_of_getElem? hx
  have hym := List.mem_of_getElem? hy
  have hsm := reqI_t x.A x.ns.length x.c x.ns rfl y.A y.ns.length y.c y.ns rfl (by have := hs x hxm; omega) (by have := hs' y hym; omega)
  have hwx := spl_get hx
  have hwy := spl_get hy
  repeat' (first | refine SX ?_ | (refine KC ?_; refine HO_callq rfl rfl rfl rfl (hsm) (fun _ _ => rfl) (AllSrc.via 0 rfl (inn_arr (seg_mem hxm)) (AllSrc.via 3 rfl (inn_arr (seg_mem hym)) trivial)) rfl rfl sqA ?_) | exact HO_seg rfl rfl | refine S1 ?_ | (refine S2 ?_; intro _) | (refine HO_g 2 rfl ?_; apply HO_o1 rfl) | refine S5 ?_ | (intro hb; try replace hb := simB hb; try exact kill hb))
  refine HC_cond rfl rfl (fun hb => ?_) (fun hb => ?_)
  ·repeat' (first | refine SW ?_ | exact HO_seg rfl rfl | refine S1 ?_ | (refine S2 ?_; intro _) | (refine HO_g 2 rfl ?_; apply HO_o1 rfl) | refine S5 ?_ | (intro hb; try replace hb := simB hb; try exact kill hb))
   (refine SRt ?_; refine RU ?_)
   refine congrArg Value.bool (Eq.symm (sameB_false fun hh => ?_))
   have h6 : spl a.path = spl a'.path := hh.2.2.2.2.2
   rw [h6, hwy] at hwx
   injection hwx with hwx
   injection hwx with g1 g2
   simp [g1, g2] at hb
  ·simp only [Bool.or_eq_false_iff, Bool.not_eq_false', decide_eq_true_eq] at hb
   repeat' (first | refine SX ?_ | exact HO_seg rfl rfl | refine S1 ?_ | (refine S2 ?_; intro _) | (refine HO_g 2 rfl ?_; apply HO_o1 rfl) | refine S5 ?_ | (intro hb; try replace hb := simB hb; try exact kill hb))
   exact HX_at (j + 1) ⟨⟨hlt, fun q hq => by
    rcases Nat.lt_or_ge q j with h | h
    ·exact hno q h
    ·obtain rfl : q = j := by omega
     rw [hwx, hwy, hb.1, hb.2]⟩, by omega⟩ ⟨rfl, rfl, rfl, trivial⟩ rfl
 ·obtain rfl : j = a.path.length := by omega
  repeat' (first | refine SX ?_ | exact HO_seg rfl rfl | refine S1 ?_ | (refine S2 ?_; intro _) | (refine HO_g 2 rfl ?_; apply HO_o1 rfl) | refine S5 ?_ | (intro hb; try replace hb := simB hb; try exact kill hb))
  (refine SRt ?_; refine RU ?_)
  refine congrArg Value.bool (Eq.symm (sameB_true ⟨e1, e2, e3, e4, e5, ?_⟩))
  exact all_same (by simp only [AttS.pa]; rw [spl_len, spl_len, e6]) (fun q hq => hno q (by simpa [AttS.pa, spl] using hq))
def largeB (a : AttS) : Bool := decide (20 < a.path.length) || decide (100 < a.comms.length) || a.path.any fun s => decide (200 < s.ns.length)
theorem large_lim {a : AttS} (h : largeB a = false) : a.path.length ≤ 20 ∧ a.comms.length ≤ 100 ∧ ∀ s ∈ a.path, s.ns.length ≤ 200 := by
 unfold largeB at h
 simp only [Bool.or_eq_false_iff, decide_eq_false_iff_not] at h
 refine ⟨by omega, by omega, fun s hs => ?_⟩
 have := List.any_eq_false.1 h.2 s hs
 simp at this
 exact this
theorem lim_of {a : AttS} (h : largeB a = false) : Lim a := by
 obtain ⟨h1, h2, h3⟩ := large_lim h
 exact ⟨by omega, by omega, fun s hs => by have := h3 s hs; omega⟩
theorem large_t (a : AttS) : Tri Tryz.prog 44 [.agg a.e.toArray] a.ro [] (fun _ : Unit => True) (fun _ => .bool (largeB a)) (fun _ => []) := by
 by_cases h0 : 20 < a.path.length ∨ 100 < a.comms.length
 ·have e : largeB a = true := by
   unfold largeB
   rcases h0 with h | h <;> simp [h]
  rw [e]
  refine Tri_in Tryz.func44 rfl (fun w0 S0 => ?_)
  dsimp only [AttS.ro, AttS.e]
  repeat' (first | refine SW ?_ | exact HO_seg rfl rfl | refine S1 ?_ | (refine S2 ?_; intro _) | (refine HO_g 2 rfl ?_; apply HO_o1 rfl) | refine S5 ?_ | (intro hb; try replace hb := simB hb; try exact kill hb))
  refine HC_cond rfl rfl (fun hb => ?_) (fun hb => by exfalso; simp only [Bool.or_eq_false_iff, decide_eq_false_iff_not] at hb; omega)
  repeat' (first | refine SW ?_ | exact HO_seg rfl rfl | refine S1 ?_ | (refine S2 ?_; intro _) | (refine HO_g 2 rfl ?_; apply HO_o1 rfl) | refine S5 ?_ | (intro hb; try replace hb := simB hb; try exact kill hb))
  (refine SRt ?_; refine RU ?_)
  rfl
 refine Tri_in Tryz.func44 rfl (fun w0 S0 => ?_)
 dsimp only [AttS.ro, AttS.e]
 repeat' (first | refine SX ?_ | exact HO_seg rfl rfl | refine S1 ?_ | (refine S2 ?_; intro _) | (refine HO_g 2 rfl ?_; apply HO_o1 rfl) | refine S5 ?_ | (intro hb; try replace hb := simB hb; try exact kill hb))
 rename_i b1
 refine HC_loop (α := Nat) (fun j => j ≤ a.path.length ∧ ∀ s ∈ a.path.take j, decide (200 < s.ns.length) = false) (fun j => [(3, .int .i64 j), (1, pt b1)]) (fun _ => [cel b1 53 a.e]) (fun j => a.path.length - j) rfl 0 ⟨Nat.zero_le _, fun s hs => by simp at hs⟩ ⟨rfl, rfl, trivial⟩ rfl ?_
 intro j ⟨hj, hno⟩
 dsimp only [pt, AttS.e]
 rcases Nat.lt_or_ge j a.path.length with hlt | hge
 ·obtain ⟨s, hs0⟩ : ∃ s, a.path[j]? = some s := ⟨a.path[j], List.getElem?_eq_getElem hlt⟩
  have hsm := List.mem_of_getElem? hs0
  by_cases h2 : 200 < s.ns.length
  ·repeat' (first | refine SX ?_ | exact HO_seg rfl rfl | refine S1 ?_ | (refine S2 ?_; intro _) | (refine HO_g 2 rfl ?_; apply HO_o1 rfl) | refine S5 ?_ | (intro hb; try replace hb := simB hb; try exact kill hb))
   (refine SRt ?_; refine RU ?_)
   refine congrArg Value.bool (Eq.symm ?_)
   unfold largeB
   rw [List.any_eq_true.2 ⟨s, hsm, decide_eq_true h2⟩, Bool.or_true]
  ·repeat' (first | refine SX ?_ | exact HO_seg rfl rfl | refine S1 ?_ | (refine S2 ?_; intro _) | (refine HO_g 2 rfl ?_; apply HO_o1 rfl) | refine S5 ?_ | (intro hb; try replace hb := simB hb; try exact kill hb))
   exact HX_at (j + 1) ⟨⟨hlt, fun m hm => by
    rw [List.take_add_one, hs0, List.mem_append] at hm
    rcases hm with hm | hm
    ·exact hno m hm
    ·simp at hm; rw [hm]; exact decide_eq_false h2⟩, by omega⟩ ⟨rfl, rfl, trivial⟩ rfl
 ·obtain rfl : j = a.path.length := by omega
  rw [List.take_length] at hno
  repeat' (first | refine SX ?_ | exact HO_seg rfl rfl | refine S1 ?_ | (refine S2 ?_; intro _) | (refine HO_g 2 rfl ?_; apply HO_o1 rfl) | refine S5 ?_ | (intro hb; try replace hb := simB hb; try exact kill hb))
  (refine SRt ?_; refine RU ?_)
  refine congrArg Value.bool (Eq.symm ?_)
  unfold largeB
  rw [List.any_eq_false.2 fun s hs => by rw [hno s hs]; decide, decide_eq_false (by omega), decide_eq_false (by omega)]
  rfl
end Go.Proofs.YteeogabkkblkgaaGreatDoor
