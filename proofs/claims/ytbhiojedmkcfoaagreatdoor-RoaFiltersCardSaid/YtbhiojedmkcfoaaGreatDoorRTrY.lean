/- Part of a proof of many texts: what the theorem at its end leans on. -/
import Derived.Test.YtbhiojedmkcfoaaGreatDoorRTrQ
import Derived.Test.YtbhiojedmkcfoaaGreatDoorRTrJ
namespace Go.Proofs.YtbhiojedmkcfoaaGreatDoor
set_option linter.unusedVariables false
set_option linter.unusedSimpArgs false
open Go.RowKit
attribute [local irreducible] HC HX HO Tri eP adr
theorem all_same {α : Type} {l l' : List α} (hl : l.length = l'.length) (h : ∀ q, q < l.length → l[q]? = l'[q]?) : l = l' := by
 apply List.ext_getElem? 
 intro i
 rcases Nat.lt_or_ge i l.length with hi | hi
 ·exact h i hi
 ·rw [List.getElem?_eq_none hi, List.getElem?_eq_none (by omega)]
theorem dec_false {α : Type} [DecidableEq α] {l l' : List α} {j : Nat} {x y : α} (h1 : l[j]? = some x) (h2 : l'[j]? = some y) (hne : ¬ x = y) : decide (l = l') = false :=
 decide_eq_false fun e => hne (by rw [e, h2] at h1; injection h1 with h1; exact h1.symm)
set_option maxHeartbeats 1000000000 in
theorem reqI_t (A : Option Addr) (n c : Nat) (l : List Int) (hn : n = l.length) (B : Option Addr) (n' c' : Nat) (l' : List Int) (hn' : n' = l'.length) (hl : l.length ≤ 1000000) (hl' : l'.length ≤ 1000000) :
  Tri Tryz.prog 155 [.slice A n c, .slice B n' c'] [arr iE 1 A l, arr iE 1 B l'] [] (fun _ : Unit => True) (fun _ => .bool (decide (l = l'))) (fun _ => []) := by
 by_cases hne : l.length = l'.length
 ·refine Tri_of (N := Tryz.f155.ntmps) (c := bodyOf Tryz.f155) Tryz.func155 rfl rfl rfl rfl (fun w0 S0 => ?_)
  repeat' (first | refine SW ?_ | refine SD ?_ | exact HO_seg rfl rfl | refine S1 ?_ | (refine S2 ?_; intro _) | (refine S3 ?_; intro _ _) | (refine S4 ?_; intro _ _ _) | (refine HO_g 2 rfl ?_; first | apply HO_a1 rfl | apply HO_o1 rfl) | refine S5 ?_ | (intro hb; try replace hb := simB hb; try exact kill hb))
  refine HC_loop (α := Nat) (fun j => j ≤ l.length ∧ ∀ q, q < j → l[q]? = l'[q]?) (fun j => [(5, .int .i64 j), (0, .slice A n c), (1, .slice B n' c')]) (fun _ => []) (fun j => l.length - j) rfl 0 ⟨Nat.zero_le _, fun q hq => by omega⟩ ⟨rfl, rfl, rfl, trivial⟩ rfl ?_
  intro j ⟨hj, hno⟩
  rcases Nat.lt_or_ge j l.length with hlt | hge
  ·obtain ⟨x, hx⟩ : ∃ x, l[j]? = some x := ⟨l[j], List.getElem?_eq_getElem hlt⟩
   obtain ⟨y, hy⟩ : ∃ y, l'[j]? = some y := ⟨l'[j], List.getElem?_eq_getElem (by omega)⟩
   by_cases hxy : x = y
   ·repeat' (first | refine SW ?_ | refine SD ?_ | exact HO_seg rfl rfl | refine S1 ?_ | (refine S2 ?_; intro _) | (refine S3 ?_; intro _ _) | (refine S4 ?_; intro _ _ _) | (refine HO_g 2 rfl ?_; first | apply HO_a1 rfl | apply HO_o1 rfl) | refine S5 ?_ | (intro hb; try replace hb := simB hb; try exact kill hb))
    exact HX_at (j + 1) ⟨⟨hlt, fun q hq => by
     rcases Nat.lt_or_ge q j with h | h
     ·exact hno q h
     ·obtain rfl : q = j := by omega
      rw [hx, hy, hxy]⟩, by omega⟩ ⟨rfl, rfl, rfl, trivial⟩ rfl
   ·repeat' (first | refine SW ?_ | refine SD ?_ | exact HO_seg rfl rfl | refine S1 ?_ | (refine S2 ?_; intro _) | (refine S3 ?_; intro _ _) | (refine S4 ?_; intro _ _ _) | (refine HO_g 2 rfl ?_; first | apply HO_a1 rfl | apply HO_o1 rfl) | refine S5 ?_ | (intro hb; try replace hb := simB hb; try exact kill hb))
    (refine SRt ?_; unfold RetQ; refine ⟨(), trivial, ?_, Keeps.nil⟩)
    rw [dec_false hx hy hxy]; rfl
  ·obtain rfl : j = l.length := by omega
   repeat' (first | refine SW ?_ | refine SD ?_ | exact HO_seg rfl rfl | refine S1 ?_ | (refine S2 ?_; intro _) | (refine S3 ?_; intro _ _) | (refine S4 ?_; intro _ _ _) | (refine HO_g 2 rfl ?_; first | apply HO_a1 rfl | apply HO_o1 rfl) | refine S5 ?_ | (intro hb; try replace hb := simB hb; try exact kill hb))
   (refine SRt ?_; unfold RetQ; refine ⟨(), trivial, ?_, Keeps.nil⟩)
   rw [decide_eq_true (all_same hne hno)]; rfl
 ·have e : decide (l = l') = false := decide_eq_false fun h => hne (by rw [h])
  rw [e]
  refine Tri_of (N := Tryz.f155.ntmps) (c := bodyOf Tryz.f155) Tryz.func155 rfl rfl rfl rfl (fun w0 S0 => ?_)
  repeat' (first | refine SW ?_ | refine SD ?_ | exact HO_seg rfl rfl | refine S1 ?_ | (refine S2 ?_; intro _) | (refine S3 ?_; intro _ _) | (refine S4 ?_; intro _ _ _) | (refine HO_g 2 rfl ?_; first | apply HO_a1 rfl | apply HO_o1 rfl) | refine S5 ?_ | (intro hb; try replace hb := simB hb; try exact kill hb))
  (refine SRt ?_; unfold RetQ; refine ⟨(), trivial, ?_, Keeps.nil⟩)
  rfl
theorem sameB_refl (p : PA) : sameB p p = true := by simp [sameB]
theorem spl_get {l : List SegS} {j : Nat} {s : SegS} (h : l[j]? = some s) : (spl l)[j]? = some (s.set, s.ns) := by
 unfold spl
 rw [List.getElem?_map, h]
 rfl
theorem spl_len (l : List SegS) : (spl l).length = l.length := by simp [spl]
theorem sameB_false {p q : PA} (h : ¬ (p.org = q.org ∧ p.nxt = q.nxt ∧ p.med = q.med ∧ p.pref = q.pref ∧ p.comms = q.comms ∧ p.path = q.path)) : sameB p q = false := by
 cases hb : sameB p q with
 | false => rfl
 | true =>
  unfold sameB at hb
  simp only [Bool.and_eq_true, decide_eq_true_eq] at hb
  exact absurd ⟨hb.1.1.1.1.1, hb.1.1.1.1.2, hb.1.1.1.2, hb.1.1.2, hb.1.2, hb.2⟩ h
theorem sameB_true {p q : PA} (h : p.org = q.org ∧ p.nxt = q.nxt ∧ p.med = q.med ∧ p.pref = q.pref ∧ p.comms = q.comms ∧ p.path = q.path) : sameB p q = true := by
 obtain ⟨h1, h2, h3, h4, h5, h6⟩ := h
 unfold sameB
 simp [h1, h2, h3, h4, h5, h6]
set_option maxHeartbeats 1000000000 in
set_option maxRecDepth 100000 in
theorem rsame_t (a a' : AttS) (h : Lim a) (h' : Lim a') :
  Tri Tryz.prog 103 [.agg a.e.toArray, .agg a'.e.toArray] (a.ro ++ a'.ro) [] (fun _ : Unit => True) (fun _ => .bool (sameB a.pa a'.pa)) (fun _ => []) := by
 obtain ⟨hp, hc, hs⟩ := h
 obtain ⟨hp', hc', hs'⟩ := h'
 have hcm := reqI_t a.cA a.comms.length a.cc a.comms rfl a'.cA a'.comms.length a'.cc a'.comms rfl (by omega) (by omega)
 refine Tri_of (N := Tryz.f103.ntmps) (c := bodyOf Tryz.f103) Tryz.func103 rfl rfl rfl rfl (fun w0 S0 => ?_)
 dsimp only [AttS.ro, AttS.e, lca, lna]
 repeat' (first | refine SW ?_ | (refine HO_k 12 rfl ?_; refine HO_callq rfl rfl rfl rfl (hcm) (fun _ _ => rfl) (srcsA) rfl rfl sqA ?_) | exact HO_seg rfl rfl | refine S1 ?_ | (refine S2 ?_; intro _) | (refine S3 ?_; intro _ _) | (refine S4 ?_; intro _ _ _) | (refine HO_g 2 rfl ?_; first | apply HO_a1 rfl | apply HO_o1 rfl) | refine S5 ?_ | (intro hb; try replace hb := simB hb; try exact kill hb))
 refine HC_cond rfl rfl (fun hb => ?_) (fun hb => ?_)
 ·repeat' (first | refine SW ?_ | exact HO_seg rfl rfl | refine S1 ?_ | (refine S2 ?_; intro _) | (refine S3 ?_; intro _ _) | (refine S4 ?_; intro _ _ _) | (refine HO_g 2 rfl ?_; first | apply HO_a1 rfl | apply HO_o1 rfl) | refine S5 ?_ | (intro hb; try replace hb := simB hb; try exact kill hb))
  (refine SRt ?_; unfold RetQ; refine ⟨(), trivial, ?_, Keeps.nil⟩)
  refine congrArg Value.bool (Eq.symm (sameB_false fun hh => ?_))
  obtain ⟨h1, h2, h3, h4, h5, h6⟩ := hh
  simp only [AttS.pa] at h1 h2 h3 h4 h5 h6
  have h7 : a.path.length = a'.path.length := by rw [← spl_len, h6, spl_len]
  simp [h1, h2, h3, h4, h5, h7] at hb
 simp only [Bool.or_eq_false_iff, Bool.not_eq_false', decide_eq_true_eq] at hb
 obtain ⟨⟨⟨⟨⟨e1, e2⟩, e3⟩, e4⟩, e5⟩, e60⟩ := hb
 have e6 : a.path.length = a'.path.length := by omega
 repeat' (first | refine SW ?_ | exact HO_seg rfl rfl | refine S1 ?_ | (refine S2 ?_; intro _) | (refine S3 ?_; intro _ _) | (refine S4 ?_; intro _ _ _) | (refine HO_g 2 rfl ?_; first | apply HO_a1 rfl | apply HO_o1 rfl) | refine S5 ?_ | (intro hb; try replace hb := simB hb; try exact kill hb))
 rename_i b1 b2
 refine HC_loop (α := Nat) (fun j => j ≤ a.path.length ∧ ∀ q, q < j → (spl a.path)[q]? = (spl a'.path)[q]?) (fun j => [(5, .int .i64 j), (2, pt b1), (3, pt b2)]) (fun _ => [cel b2 52 a'.e, cel b1 52 a.e]) (fun j => a.path.length - j) rfl 0 ⟨Nat.zero_le _, fun q hq => by omega⟩ ⟨rfl, rfl, rfl, trivial⟩ rfl ?_
 intro j ⟨hj, hno⟩
 dsimp only [pt, AttS.e]
 rcases Nat.lt_or_ge j a.path.length with hlt | hge
 ·obtain ⟨x, hx⟩ : ∃ x, a.path[j]? = some x := ⟨a.path[j], List.getElem?_eq_getElem hlt⟩
  obtain ⟨y, hy⟩ : ∃ y, a'.path[j]? = some y := ⟨a'.path[j], List.getElem?_eq_getElem (by omega)⟩
  have hxm := List.mem_of_getElem? hx
  have hym := List.mem_of_getElem? hy
  have hsm := reqI_t x.A x.ns.length x.c x.ns rfl y.A y.ns.length y.c y.ns rfl (by have := hs x hxm; omega) (by have := hs' y hym; omega)
  have hwx := spl_get hx
  have hwy := spl_get hy
  repeat' (first | refine SW ?_ | refine SD ?_ | (refine HO_k 12 rfl ?_; refine HO_callq rfl rfl rfl rfl (hsm) (fun _ _ => rfl) (AllSrc.via 0 rfl (inn_arr (seg_mem hxm)) (AllSrc.via 3 rfl (inn_arr (seg_mem hym)) trivial)) rfl rfl sqA ?_) | exact HO_seg rfl rfl | refine S1 ?_ | (refine S2 ?_; intro _) | (refine S3 ?_; intro _ _) | (refine S4 ?_; intro _ _ _) | (refine HO_g 2 rfl ?_; first | apply HO_a1 rfl | apply HO_o1 rfl) | refine S5 ?_ | (intro hb; try replace hb := simB hb; try exact kill hb))
  refine HC_cond rfl rfl (fun hb => ?_) (fun hb => ?_)
  ·repeat' (first | refine SW ?_ | exact HO_seg rfl rfl | refine S1 ?_ | (refine S2 ?_; intro _) | (refine S3 ?_; intro _ _) | (refine S4 ?_; intro _ _ _) | (refine HO_g 2 rfl ?_; first | apply HO_a1 rfl | apply HO_o1 rfl) | refine S5 ?_ | (intro hb; try replace hb := simB hb; try exact kill hb))
   (refine SRt ?_; unfold RetQ; refine ⟨(), trivial, ?_, Keeps.nil⟩)
   refine congrArg Value.bool (Eq.symm (sameB_false fun hh => ?_))
   have h6 : spl a.path = spl a'.path := hh.2.2.2.2.2
   rw [h6, hwy] at hwx
   injection hwx with hwx
   injection hwx with g1 g2
   simp [g1, g2] at hb
  ·simp only [Bool.or_eq_false_iff, Bool.not_eq_false', decide_eq_true_eq] at hb
   repeat' (first | refine SW ?_ | refine SD ?_ | exact HO_seg rfl rfl | refine S1 ?_ | (refine S2 ?_; intro _) | (refine S3 ?_; intro _ _) | (refine S4 ?_; intro _ _ _) | (refine HO_g 2 rfl ?_; first | apply HO_a1 rfl | apply HO_o1 rfl) | refine S5 ?_ | (intro hb; try replace hb := simB hb; try exact kill hb))
   exact HX_at (j + 1) ⟨⟨hlt, fun q hq => by
    rcases Nat.lt_or_ge q j with h | h
    ·exact hno q h
    ·obtain rfl : q = j := by omega
     rw [hwx, hwy, hb.1, hb.2]⟩, by omega⟩ ⟨rfl, rfl, rfl, trivial⟩ rfl
 ·obtain rfl : j = a.path.length := by omega
  repeat' (first | refine SW ?_ | refine SD ?_ | exact HO_seg rfl rfl | refine S1 ?_ | (refine S2 ?_; intro _) | (refine S3 ?_; intro _ _) | (refine S4 ?_; intro _ _ _) | (refine HO_g 2 rfl ?_; first | apply HO_a1 rfl | apply HO_o1 rfl) | refine S5 ?_ | (intro hb; try replace hb := simB hb; try exact kill hb))
  (refine SRt ?_; unfold RetQ; refine ⟨(), trivial, ?_, Keeps.nil⟩)
  refine congrArg Value.bool (Eq.symm (sameB_true ⟨e1, e2, e3, e4, e5, ?_⟩))
  exact all_same (by simp only [AttS.pa]; rw [spl_len, spl_len, e6]) (fun q hq => hno q (by simpa [AttS.pa, spl] using hq))
instance : TyDeep Tryz.prog 151 [0, 0, 0] := ⟨⟨by kernel_rfl, by kernel_rfl⟩, by kernel_rfl⟩
theorem nl_eq (x : Nl) : eqZ [0, 0, 0] x.e x.e = some true := by
 show some (decide (x.i = x.i) && (decide ((x.a : Int) = x.a) && (decide (x.n = x.n) && true))) = _
 simp
set_option maxHeartbeats 1000000000 in
theorem rnlsame_t (A A' : Option Addr) (c c' : Nat) (l : List Nl) (h1 : l.length ≤ 1000000) :
  Tri Tryz.prog 102 [.slice A l.length c, .slice A' l.length c'] [arr Nl.e 3 A l, arr Nl.e 3 A' l] [] (fun _ : Unit => True) (fun _ => .bool true) (fun _ => []) := by
 refine Tri_of (N := Tryz.f102.ntmps) (c := bodyOf Tryz.f102) Tryz.func102 rfl rfl rfl rfl (fun w0 S0 => ?_)
 repeat' (first | refine SW ?_ | refine SD ?_ | exact HO_seg rfl rfl | refine S1 ?_ | (refine S2 ?_; intro _) | (refine S3 ?_; intro _ _) | (refine S4 ?_; intro _ _ _) | (refine HO_g 2 rfl ?_; first | apply HO_a1 rfl | apply HO_o1 rfl) | refine S5 ?_ | (intro hb; try replace hb := simB hb; try exact kill hb))
 refine HC_loop (α := Nat) (fun j => j ≤ l.length) (fun j => [(5, .int .i64 j), (0, .slice A l.length c), (1, .slice A' l.length c')]) (fun _ => []) (fun j => l.length - j) rfl 0 (Nat.zero_le _) ⟨rfl, rfl, rfl, trivial⟩ rfl ?_
 intro j hj
 rcases Nat.lt_or_ge j l.length with hlt | hge
 ·obtain ⟨x, hx⟩ : ∃ x, l[j]? = some x := ⟨l[j], List.getElem?_eq_getElem hlt⟩
  repeat' (first | refine SW ?_ | refine SD ?_ | (refine HO_k 0 rfl ?_; refine HO_eqd (b := true) (r := false) rfl rfl rfl (nl_eq x) rfl rfl rfl rdA ?_) | exact HO_seg rfl rfl | refine S1 ?_ | (refine S2 ?_; intro _) | (refine S3 ?_; intro _ _) | (refine S4 ?_; intro _ _ _) | (refine HO_g 2 rfl ?_; first | apply HO_a1 rfl | apply HO_o1 rfl) | refine S5 ?_ | (intro hb; try replace hb := simB hb; try exact kill hb))
  exact HX_at (j + 1) ⟨hlt, by omega⟩ ⟨rfl, rfl, rfl, trivial⟩ rfl
 ·obtain rfl : j = l.length := by omega
  repeat' (first | refine SW ?_ | refine SD ?_ | exact HO_seg rfl rfl | refine S1 ?_ | (refine S2 ?_; intro _) | (refine S3 ?_; intro _ _) | (refine S4 ?_; intro _ _ _) | (refine HO_g 2 rfl ?_; first | apply HO_a1 rfl | apply HO_o1 rfl) | refine S5 ?_ | (intro hb; try replace hb := simB hb; try exact kill hb))
  (refine SRt ?_; unfold RetQ; refine ⟨(), trivial, ?_, Keeps.nil⟩)
  rfl
set_option maxHeartbeats 1000000000 in
theorem rusame_t (u v : UpS) (hs : u.soft = v.soft) (hg : u.gone = v.gone) (hr : u.routes = v.routes) (hp : u.a.pa = v.a.pa) (lu : Lim u.a) (lv : Lim v.a) (gl : u.gone.length ≤ 1000000) (rl : u.routes.length ≤ 1000000) :
  Tri Tryz.prog 37 [.agg u.e.toArray, .agg v.e.toArray] (u.ro ++ v.ro) [] (fun _ : Unit => True) (fun _ => .bool true) (fun _ => []) := by
 obtain ⟨gA, gc, gone, rA, rc, routes, a, soft⟩ := u
 obtain ⟨gA', gc', gone', rA', rc', routes', a', soft'⟩ := v
 dsimp only at hs hg hr hp lu lv gl rl
 subst hs hg hr
 have h1 := rnlsame_t gA gA' gc gc' gone gl
 have h2 := rnlsame_t rA rA' rc rc' routes rl
 have h3 := rsame_t a a' lu lv
 rw [hp, sameB_refl] at h3
 have hbb : (soft == soft) = true := by cases soft <;> rfl
 cases soft
 all_goals
  refine Tri_of (N := Tryz.f37.ntmps) (c := bodyOf Tryz.f37) Tryz.func37 rfl rfl rfl rfl (fun w0 S0 => ?_)
  dsimp only [UpS.ro, UpS.e, lca, lna]
  repeat' (first | refine SW ?_ | refine SD ?_ | (refine HO_k 12 rfl ?_; refine HO_callq rfl rfl rfl rfl (h1) (fun _ _ => rfl) (srcsA) rfl rfl sqA ?_) | (refine HO_k 12 rfl ?_; refine HO_callq rfl rfl rfl rfl (h2) (fun _ _ => rfl) (srcsA) rfl rfl sqA ?_) | (refine HO_k 12 rfl ?_; refine HO_callq rfl rfl rfl rfl (h3) (fun _ _ => rfl) (srcsA) rfl rfl sqA ?_) | exact HO_seg rfl rfl | refine S1 ?_ | (refine S2 ?_; intro _) | (refine S3 ?_; intro _ _) | (refine S4 ?_; intro _ _ _) | (refine HO_g 2 rfl ?_; first | apply HO_a1 rfl | apply HO_o1 rfl) | refine S5 ?_ | (intro hb; try replace hb := simB hb; try exact kill hb))
  (refine SRt ?_; unfold RetQ; refine ⟨(), trivial, ?_, Keeps.nil⟩)
  rfl
def bigU (u : UpS) : Bool := decide (1100 < u.gone.length) || decide (1100 < u.routes.length) || largeB u.a
set_option maxHeartbeats 1000000000 in
theorem rlarge7_t (u : UpS) : Tri Tryz.prog 36 [.agg u.e.toArray] u.ro [] (fun _ : Unit => True) (fun _ => .bool (bigU u)) (fun _ => []) := by
 have hla := large_t u.a
 unfold bigU
 by_cases h1 : 1100 < u.gone.length
 ·rw [decide_eq_true h1, Bool.true_or, Bool.true_or]
  refine Tri_of (N := Tryz.f36.ntmps) (c := bodyOf Tryz.f36) Tryz.func36 rfl rfl rfl rfl (fun w0 S0 => ?_)
  dsimp only [UpS.ro, UpS.e]
  repeat' (first | refine SW ?_ | refine SD ?_ | exact HO_seg rfl rfl | refine S1 ?_ | (refine S2 ?_; intro _) | (refine S3 ?_; intro _ _) | (refine S4 ?_; intro _ _ _) | (refine HO_g 2 rfl ?_; first | apply HO_a1 rfl | apply HO_o1 rfl) | refine S5 ?_ | (intro hb; try replace hb := simB hb; try exact kill hb))
  (refine SRt ?_; unfold RetQ; refine ⟨(), trivial, ?_, Keeps.nil⟩)
  rfl
 rw [decide_eq_false h1, Bool.false_or]
 by_cases h2 : 1100 < u.routes.length
 ·rw [decide_eq_true h2, Bool.true_or]
  refine Tri_of (N := Tryz.f36.ntmps) (c := bodyOf Tryz.f36) Tryz.func36 rfl rfl rfl rfl (fun w0 S0 => ?_)
  dsimp only [UpS.ro, UpS.e]
  repeat' (first | refine SW ?_ | refine SD ?_ | exact HO_seg rfl rfl | refine S1 ?_ | (refine S2 ?_; intro _) | (refine S3 ?_; intro _ _) | (refine S4 ?_; intro _ _ _) | (refine HO_g 2 rfl ?_; first | apply HO_a1 rfl | apply HO_o1 rfl) | refine S5 ?_ | (intro hb; try replace hb := simB hb; try exact kill hb))
  (refine SRt ?_; unfold RetQ; refine ⟨(), trivial, ?_, Keeps.nil⟩)
  rfl
 rw [decide_eq_false h2, Bool.false_or]
 refine Tri_of (N := Tryz.f36.ntmps) (c := bodyOf Tryz.f36) Tryz.func36 rfl rfl rfl rfl (fun w0 S0 => ?_)
 dsimp only [UpS.ro, UpS.e]
 repeat' (first | refine SW ?_ | refine SD ?_ | (refine HO_k 12 rfl ?_; refine HO_callq rfl rfl rfl rfl (hla) (fun _ _ => rfl) (srcsA) rfl rfl sqA ?_) | exact HO_seg rfl rfl | refine S1 ?_ | (refine S2 ?_; intro _) | (refine S3 ?_; intro _ _) | (refine S4 ?_; intro _ _ _) | (refine HO_g 2 rfl ?_; first | apply HO_a1 rfl | apply HO_o1 rfl) | refine S5 ?_ | (intro hb; try replace hb := simB hb; try exact kill hb))
 (refine SRt ?_; unfold RetQ; refine ⟨(), trivial, ?_, Keeps.nil⟩)
 rfl
end Go.Proofs.YtbhiojedmkcfoaaGreatDoor
