/- Part of a proof of many texts: what the theorem at its end leans on. -/
import Derived.Test.YtbhiojedmkcfoaaGreatDoorRTsA
import Derived.Test.YtbhiojedmkcfoaaGreatDoorRTrR
import Derived.Test.YtbhiojedmkcfoaaGreatDoorRTrP
namespace Go.Proofs.YtbhiojedmkcfoaaGreatDoor
set_option linter.unusedVariables false
set_option linter.unusedSimpArgs false
open Go.RowKit
attribute [local irreducible] HC HX HO Tri eP adr
theorem segQ_spl {l m : List SegS} (h : l.map segQ = m.map segQ) : spl l = spl m := h
theorem segQ_lim {l m : List SegS} (h : l.map segQ = m.map segQ) {k : Nat} (hm : ∀ s ∈ m, s.ns.length ≤ k) : l.length = m.length ∧ ∀ s ∈ l, s.ns.length ≤ k := by
 refine ⟨by have := congrArg List.length h; simpa using this, fun s hs => ?_⟩
 have h1 : segQ s ∈ m.map segQ := h ▸ List.mem_map.2 ⟨s, hs, rfl⟩
 obtain ⟨t, ht, e⟩ := List.mem_map.1 h1
 injection e with _ e2
 rw [← e2]
 exact hm t ht
theorem cpU_lim {u : UpS} {z : (OA × OA × OA × OA) × List SegS} (hz : z.2.map segQ = u.a.path.map segQ) (hl : Lim u.a) : Lim (cpU u z).a ∧ (cpU u z).a.pa = u.a.pa := by
 obtain ⟨h1, h2, h3⟩ := hl
 obtain ⟨g1, g2⟩ := segQ_lim hz h3
 exact ⟨⟨by show z.2.length ≤ 1000; omega, h2, g2⟩, by unfold AttS.pa; rw [show spl (cpU u z).a.path = spl u.a.path from segQ_spl hz]; rfl⟩
theorem lim00 : Lim att00 := ⟨by decide, by decide, fun s hs => by cases hs⟩
set_option maxHeartbeats 1000000000 in
theorem fil_same (u : UpS) (h1 : u.routes.length ≤ 1100) (h2 : u.gone.length ≤ 1100) (hl : Lim u.a) (wr : Nl → Bool) (y : OA) (z : (OA × OA × OA × OA) × List SegS) (hz : z.2.map segQ = u.a.path.map segQ) (y' z' : OA) :
  Tri Tryz.prog 37 [.agg (flU u wr y z).e.toArray, .agg (frU u wr y' z').e.toArray] ((flU u wr y z).ro ++ (frU u wr y' z').ro) [] (fun _ : Unit => True) (fun _ => .bool true) (fun _ => []) := by
 obtain ⟨l1, l2⟩ := cpU_lim hz hl
 have hk := List.length_filter_le (fun x => !wr x) u.routes
 have hf := List.length_filter_le wr u.routes
 refine rusame_t (flU u wr y z) (frU u wr y' z') rfl rfl rfl ?_ ?_ ?_ ?_ ?_
 ·unfold flU frU
  dsimp only
  split
  ·rfl
  ·exact l2
 ·unfold flU
  dsimp only
  split
  ·exact lim00
  ·exact l1
 ·unfold frU
  dsimp only
  split
  ·exact lim00
  ·exact hl
 ·unfold flU
  dsimp only
  rw [List.length_append]
  omega
 ·unfold flU keptF
  dsimp only
  omega
set_option maxHeartbeats 1000000000 in
theorem fil_none (u : UpS) (hu : UpL u) (hl : Lim u.a) : Tri Tryz.prog 38 [.pointer none, .agg u.e.toArray] u.ro [] (fun v : UpS => v.gone = u.gone ∧ v.routes = u.routes ∧ v.soft = u.soft ∧ v.a.pa = u.a.pa ∧ Lim v.a) (fun v => .agg v.e.toArray) (fun v => v.ro) := by
 have h := filter_t none u hu [] (fun _ => 1) (fun x hx => Tri_ro (state_nil x.a x.n u.a) trivial)
 rw [List.append_nil] at h
 refine Tri_weak h ?_
 rintro ⟨y, z⟩ hz
 obtain ⟨l1, l2⟩ := cpU_lim (u := u) hz hl
 have e1 : keptF (fun _ : Nl => false) u.routes = u.routes := by simp [keptF]
 have e2 : u.routes.filter (fun _ : Nl => false) = [] := by simp
 have e : flU u (fun x => decide ((1 : Int) = 3)) y z = ⟨y.1, y.2, u.gone, z.1.2.1.1, z.1.2.1.2, u.routes, (cpU u z).a, u.soft⟩ := by
  show flU u (fun _ => false) y z = _
  unfold flU
  rw [e1, e2, List.append_nil, if_neg (fun h => h.2 h.1)]
 refine ⟨⟨y.1, y.2, u.gone, z.1.2.1.1, z.1.2.1.2, u.routes, (cpU u z).a, u.soft⟩, ⟨rfl, rfl, rfl, l2, l1⟩, ?_, ?_⟩
 ·show Value.agg (flU u (fun x => decide ((1 : Int) = 3)) y z).e.toArray = _
  rw [e]
 ·show Keeps (flU u (fun x => decide ((1 : Int) = 3)) y z).ro _
  rw [e]
  exact Keeps.refl
def frA (u : UpS) (wr : Nl → Bool) (y z : OA) (a : AttS) : UpS := ⟨y.1, y.2, u.gone ++ u.routes.filter wr, z.1, z.2, keptF wr u.routes, a, u.soft⟩
set_option maxHeartbeats 1000000000 in
theorem lawFilters (m : Int) (hlv : Tri Tryz.prog 28 [] [tab1, maxLen0 m] [] (fun _ : Unit => True) (fun _ => .bool true) (fun _ => [])) (A : Option Addr) (c : Nat) (l : List RoQ) (hla : ∀ x ∈ l, x.a < 4294967296) (u : UpS) (hN : NlsOk u.routes) :
  Tri Tryz.prog 8 [.slice A l.length c, .agg u.e.toArray] ([tab1, maxLen0 m] ++ (arr RoQ.e 4 A l :: u.ro)) [] (fun _ : Unit => True) (fun _ => .bool true) (fun _ => []) := by
 have c0 := rlarge7_t u
 by_cases hlen : 100 < l.length
 ·have hlz : (100 : Int) < (l.length : Int) := by omega
  dsimp only [UpS.e, UpS.ro, lca, lna] at c0 ⊢
  refine Tri_of (N := Tryz.f8.ntmps) (c := bodyOf Tryz.f8) Tryz.func8 rfl rfl rfl rfl (fun w0 S0 => ?_)
  repeat' (first | refine SW ?_ | ((refine HO_g 2 rfl ?_); (refine HO_skip rfl rfl rfl rfl rdA ?_)) | refine SD ?_ | (refine HO_k 12 rfl ?_; refine HO_callq rfl rfl rfl rfl (c0) (fun _ _ => rfl) (srcsA) rfl rfl sqA ?_) | (refine HO_k 12 rfl ?_; refine HO_callq rfl rfl rfl rfl (hlv) (fun _ _ => rfl) (srcsA) rfl rfl sqA ?_) | exact HO_seg rfl rfl | refine S1 ?_ | (refine S2 ?_; intro _) | (refine S3 ?_; intro _ _) | (refine S4 ?_; intro _ _ _) | (refine HO_g 2 rfl ?_; first | apply HO_a1 rfl | apply HO_o1 rfl) | refine S5 ?_ | (intro hb; try replace hb := simB hb; try exact kill hb))
  (refine SRt ?_; unfold RetQ; refine ⟨(), trivial, ?_, Keeps.nil⟩)
  rfl
 have hlz : ¬ (100 : Int) < (l.length : Int) := by omega
 have c3 := r33check_t A c l (by omega) hla
 cases hok : roaOk l with
 | false =>
  rw [hok] at c3
  dsimp only [UpS.e, UpS.ro, lca, lna] at c0 ⊢
  refine Tri_of (N := Tryz.f8.ntmps) (c := bodyOf Tryz.f8) Tryz.func8 rfl rfl rfl rfl (fun w0 S0 => ?_)
  repeat' (first | refine SW ?_ | ((refine HO_g 2 rfl ?_); (refine HO_skip rfl rfl rfl rfl rdA ?_)) | refine SD ?_ | (refine HO_k 12 rfl ?_; refine HO_callq rfl rfl rfl rfl (c0) (fun _ _ => rfl) (srcsA) rfl rfl sqA ?_) | (refine HO_k 12 rfl ?_; refine HO_callq rfl rfl rfl rfl (hlv) (fun _ _ => rfl) (srcsA) rfl rfl sqA ?_) | (refine HO_k 12 rfl ?_; refine HO_callq rfl rfl rfl rfl (c3) (fun _ _ => rfl) (srcsA) rfl rfl sqA ?_) | exact HO_seg rfl rfl | refine S1 ?_ | (refine S2 ?_; intro _) | (refine S3 ?_; intro _ _) | (refine S4 ?_; intro _ _ _) | (refine HO_g 2 rfl ?_; first | apply HO_a1 rfl | apply HO_o1 rfl) | refine S5 ?_ | (intro hb; try replace hb := simB hb; try exact kill hb))
  (refine SRt ?_; unfold RetQ; refine ⟨(), trivial, ?_, Keeps.nil⟩)
  rfl
 | true =>
  rw [hok] at c3
  cases hlg : bigU u with
  | true =>
   rw [hlg] at c0
   dsimp only [UpS.e, UpS.ro, lca, lna] at c0 ⊢
   refine Tri_of (N := Tryz.f8.ntmps) (c := bodyOf Tryz.f8) Tryz.func8 rfl rfl rfl rfl (fun w0 S0 => ?_)
   repeat' (first | refine SW ?_ | ((refine HO_g 2 rfl ?_); (refine HO_skip rfl rfl rfl rfl rdA ?_)) | refine SD ?_ | (refine HO_k 12 rfl ?_; refine HO_callq rfl rfl rfl rfl (c0) (fun _ _ => rfl) (srcsA) rfl rfl sqA ?_) | (refine HO_k 12 rfl ?_; refine HO_callq rfl rfl rfl rfl (hlv) (fun _ _ => rfl) (srcsA) rfl rfl sqA ?_) | (refine HO_k 12 rfl ?_; refine HO_callq rfl rfl rfl rfl (c3) (fun _ _ => rfl) (srcsA) rfl rfl sqA ?_) | exact HO_seg rfl rfl | refine S1 ?_ | (refine S2 ?_; intro _) | (refine S3 ?_; intro _ _) | (refine S4 ?_; intro _ _ _) | (refine HO_g 2 rfl ?_; first | apply HO_a1 rfl | apply HO_o1 rfl) | refine S5 ?_ | (intro hb; try replace hb := simB hb; try exact kill hb))
   (refine SRt ?_; unfold RetQ; refine ⟨(), trivial, ?_, Keeps.nil⟩)
   rfl
  | false =>
   rw [hlg] at c0
   by_cases hrn : 100 < u.routes.length
   ·have hrz : (100 : Int) < (u.routes.length : Int) := by omega
    dsimp only [UpS.e, UpS.ro, lca, lna] at c0 ⊢
    refine Tri_of (N := Tryz.f8.ntmps) (c := bodyOf Tryz.f8) Tryz.func8 rfl rfl rfl rfl (fun w0 S0 => ?_)
    repeat' (first | refine SW ?_ | ((refine HO_g 2 rfl ?_); (refine HO_skip rfl rfl rfl rfl rdA ?_)) | refine SD ?_ | (refine HO_k 12 rfl ?_; refine HO_callq rfl rfl rfl rfl (c0) (fun _ _ => rfl) (srcsA) rfl rfl sqA ?_) | (refine HO_k 12 rfl ?_; refine HO_callq rfl rfl rfl rfl (hlv) (fun _ _ => rfl) (srcsA) rfl rfl sqA ?_) | (refine HO_k 12 rfl ?_; refine HO_callq rfl rfl rfl rfl (c3) (fun _ _ => rfl) (srcsA) rfl rfl sqA ?_) | exact HO_seg rfl rfl | refine S1 ?_ | (refine S2 ?_; intro _) | (refine S3 ?_; intro _ _) | (refine S4 ?_; intro _ _ _) | (refine HO_g 2 rfl ?_; first | apply HO_a1 rfl | apply HO_o1 rfl) | refine S5 ?_ | (intro hb; try replace hb := simB hb; try exact kill hb))
    (refine SRt ?_; unfold RetQ; refine ⟨(), trivial, ?_, Keeps.nil⟩)
    rfl
   have hrz : ¬ (100 : Int) < (u.routes.length : Int) := by omega
   unfold bigU at hlg
   simp only [Bool.or_eq_false_iff, decide_eq_false_iff_not] at hlg
   obtain ⟨⟨hg1, hg2⟩, hg3⟩ := hlg
   have hL := lim_of hg3
   have hP : PathW u.a := path_of hg3
   have hu : UpL u := ⟨by omega, by omega, by have := hL.c; omega, hP⟩
   have hall : ∀ x ∈ l, roOk x = true := by
    have h := hok
    unfold roaOk at h
    simp only [Bool.and_eq_true, List.all_eq_true] at h
    exact h.1
   have c4 := ronew_t A c l (by omega) hla hok
   obtain ⟨wr, hwr⟩ : ∃ wr : Nl → Bool, (fun x : Nl => decide (stQ l x.a x.n (lastQ u.a) = 3)) = wr := ⟨_, rfl⟩
   have c5 : ∀ (z : (Nat × Nat × Nat) × Int × Tre RoN) (hz : z.2.2.root = some ⟨z.1.2.2, 0, none⟩ ∧ TabOk z.2.2 l), Tri Tryz.prog 38 [pt z.1.1, .agg u.e.toArray] (u.ro ++ [cel z.1.1 TTab [pt z.1.2.1, .int .i64 l.length], cel z.1.2.1 TTr [pt z.1.2.2, .int .i64 z.2.1], inn z.2.2.pc]) [] (fun v : UpS => ∃ y z', z'.2.map segQ = u.a.path.map segQ ∧ v = flU u wr y z') (fun v => .agg v.e.toArray) (fun v => v.ro) := fun z hz => by
    have h := filter_t (some ⟨z.1.1, 0, none⟩) u hu [cel z.1.1 TTab [pt z.1.2.1, .int .i64 l.length], cel z.1.2.1 TTr [pt z.1.2.2, .int .i64 z.2.1], inn z.2.2.pc] (fun x => stQ l x.a x.n (lastQ u.a)) (fun x hx =>
     Tri_ro (state_r z.1.1 z.1.2.1 z.1.2.2 z.2.2 z.2.1 l.length l hz.1 hz.2 hall hla (by omega) x.a (hN x hx) x.n u.a hP) (AllSrc.at_ 3 rfl (AllSrc.at_ 4 rfl (AllSrc.at_ 5 rfl (AllSrc.at_ 0 rfl (AllSrc.at_ 1 rfl (AllSrc.at_ 2 rfl trivial)))))))
    rw [hwr] at h
    exact Tri_weak h fun yz hz => ⟨_, ⟨yz.1, yz.2, hz, rfl⟩, rfl, Keeps.refl⟩
   have c6 := rfilter_t A c l (by omega) hla u hu hN
   rw [hwr] at c6
   clear hwr
   have c7 : ∀ v : UpS, (∃ y z', z'.2.map segQ = u.a.path.map segQ ∧ v = flU u wr y z') → ∀ y z : OA, Tri Tryz.prog 37 [.agg v.e.toArray, .agg (frU u wr y z).e.toArray] (v.ro ++ (frU u wr y z).ro) [] (fun _ : Unit => True) (fun _ => .bool true) (fun _ => []) := fun v hv y z => by
    obtain ⟨y', z', hz, rfl⟩ := hv
    exact fil_same u (by omega) (by omega) hL wr y' z' hz y z
   have c8 := fil_none u hu hL
   have c9 : ∀ v : UpS, (v.gone = u.gone ∧ v.routes = u.routes ∧ v.soft = u.soft ∧ v.a.pa = u.a.pa ∧ Lim v.a) → Tri Tryz.prog 37 [.agg v.e.toArray, .agg u.e.toArray] (v.ro ++ u.ro) [] (fun _ : Unit => True) (fun _ => .bool true) (fun _ => []) := fun v hv =>
    rusame_t v u hv.2.2.1 hv.1 hv.2.1 hv.2.2.2.1 hv.2.2.2.2 hL (by rw [hv.1]; omega) (by rw [hv.2.1]; omega)
   have hfa : (∀ y z, frU u wr y z = frA u wr y z att00) ∨ (∀ y z, frU u wr y z = frA u wr y z u.a) := by
    unfold frU frA
    by_cases h : keptF wr u.routes = [] ∧ u.routes ≠ []
    ·exact .inl fun y z => by rw [if_pos h]
    ·exact .inr fun y z => by rw [if_neg h]
   rcases hfa with hfa | hfa
   all_goals
    simp only [hfa] at c6 c7
    clear hfa hall hu hP hL hN hla
    dsimp only [frA, att00, tabP, UpS.e, UpS.ro, AttS.e, AttS.ro, segPs, List.map_nil, List.length_nil, lca, lna] at c0 c4 c5 c6 c7 c8 c9 ⊢
    refine Tri_of (N := Tryz.f8.ntmps) (c := bodyOf Tryz.f8) Tryz.func8 rfl rfl rfl rfl (fun w0 S0 => ?_)
    repeat' (first | refine SW ?_ | (refine HC_lex rfl rfl (by decide +kernel) rfl rfl ?_) | ((refine HO_g 2 rfl ?_); (refine HO_skip rfl rfl rfl rfl rdA ?_)) | refine SD ?_ | (refine HO_k 12 rfl ?_; refine HO_callq rfl rfl rfl rfl (c0) (fun _ _ => rfl) (srcsA) rfl rfl sqA ?_) | (refine HO_k 12 rfl ?_; refine HO_call rfl rfl rfl rfl (c4) rfl (srcsA) rfl rfl soA ?_; intro z hz; dsimp only [lca, lna]) | (refine HO_k 12 rfl ?_; refine HO_callq rfl rfl rfl rfl (hlv) (fun _ _ => rfl) (srcsA) rfl rfl sqA ?_) | (refine HO_k 12 rfl ?_; refine HO_callq rfl rfl rfl rfl (c3) (fun _ _ => rfl) (srcsA) rfl rfl sqA ?_) | (refine HO_k 12 rfl ?_; refine HO_callq rfl rfl rfl rfl (c7 _ hv _ _) (fun _ _ => rfl) (srcsD) rfl rfl sqA ?_) | (refine HO_k 12 rfl ?_; refine HO_callq rfl rfl rfl rfl (c9 _ hw) (fun _ _ => rfl) (srcsD) rfl rfl sqA ?_) | (refine HO_k 12 rfl ?_; refine HO_call rfl rfl rfl rfl (c5 z hz) rfl (srcsC) rfl rfl soA ?_; intro v hv; dsimp only [UpS.ro, UpS.e, segPs, lca, lna]) | (refine HO_k 12 rfl ?_; refine HO_call rfl rfl rfl rfl (c6) rfl (srcsC) rfl rfl soA ?_; intro yz hyz; dsimp only [lca, lna]) | (refine HO_k 12 rfl ?_; refine HO_call rfl rfl rfl rfl (c8) rfl (srcsC) rfl rfl soA ?_; intro w hw; dsimp only [UpS.ro, UpS.e, segPs, lca, lna]) | exact HO_seg rfl rfl | refine S1 ?_ | (refine S2 ?_; intro _) | (refine S3 ?_; intro _ _) | (refine S4 ?_; intro _ _ _) | (refine HO_g 2 rfl ?_; first | apply HO_a1 rfl | apply HO_o1 rfl) | refine S5 ?_ | (intro hb; try replace hb := simB hb; try exact kill hb))
    (refine SRt ?_; unfold RetQ; refine ⟨(), trivial, ?_, Keeps.nil⟩)
    rfl
end Go.Proofs.YtbhiojedmkcfoaaGreatDoor
