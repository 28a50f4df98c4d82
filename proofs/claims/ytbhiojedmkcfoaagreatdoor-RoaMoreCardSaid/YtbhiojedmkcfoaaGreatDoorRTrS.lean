/- Part of a proof of many texts: what the theorem at its end leans on. -/
import Derived.Test.YtbhiojedmkcfoaaGreatDoorRTrR
namespace Go.Proofs.YtbhiojedmkcfoaaGreatDoor
set_option linter.unusedVariables false
set_option linter.unusedSimpArgs false
open Go.RowKit
attribute [local irreducible] HC HX HO Tri eP adr
theorem st3 (p q r q2 r2 : Bool) : ((if (p && q) = true then (2 : Int) else if r = true then 3 else 1) = 2 → (if (p && (q || q2)) = true then (2 : Int) else if (r || r2) = true then 3 else 1) = 2) ∧
  ((if (p && q) = true then (2 : Int) else if r = true then 3 else 1) = 3 → (if (p && (q || q2)) = true then (2 : Int) else if (r || r2) = true then 3 else 1) ≠ 1) ∧
  ((if (p && q) = true then (2 : Int) else if r = true then 3 else 1) = 1 ∨ (if (p && q) = true then (2 : Int) else if r = true then 3 else 1) = 2 ∨ (if (p && q) = true then (2 : Int) else if r = true then 3 else 1) = 3) := by
 cases p <;> cases q <;> cases r <;> cases q2 <;> cases r2 <;> decide
theorem stQ_more (l : List RoQ) (x : RoQ) (a : Nat) (n : Int) (la : Int × Bool) : (stQ l a n la = 2 → stQ (l ++ [x]) a n la = 2) ∧ (stQ l a n la = 3 → stQ (l ++ [x]) a n la ≠ 1) ∧ (stQ l a n la = 1 ∨ stQ l a n la = 2 ∨ stQ l a n la = 3) := by
 unfold stQ
 rw [List.any_append, List.any_append]
 exact st3 _ _ _ _ _
theorem roaOk_pre {l : List RoQ} {x : RoQ} (h : roaOk (l ++ [x]) = true) : roaOk l = true := by
 unfold roaOk at h ⊢
 simp only [Bool.and_eq_true, List.all_append, decide_eq_true_eq] at h ⊢
 exact ⟨h.1.1, h.2.sublist (List.sublist_append_left l [x])⟩
set_option maxHeartbeats 1000000000 in
theorem lawMore (m : Int) (hlv : Tri Tryz.prog 28 [] [tab1, maxLen0 m] [] (fun _ : Unit => True) (fun _ => .bool true) (fun _ => [])) (A : Option Addr) (c : Nat) (l : List RoQ) (hn : l.length * 32 ≤ 140737488351232) (hla : ∀ x ∈ l, x.a < 4294967296) (x : RoQ) (hxa : x.a < 4294967296) (a : Nat) (ha : a < 4294967296) (n : Int) (at_ : AttS) :
  Tri Tryz.prog 9 [.slice A l.length c, .agg x.e.toArray, pfV a n, .agg at_.e.toArray] ([tab1, maxLen0 m] ++ (arr RoQ.e 4 A l :: at_.ro)) [] (fun _ : Unit => True) (fun _ => .bool true) (fun _ => []) := by
 have c0 := large_t at_
 have hn1 : l.length * 32 + 32 ≤ 140737488355328 := by omega
 have eL : 0 + l.length + 1 = (l ++ [x]).length := by simp
 have hmap : [] ++ List.map RoQ.e l ++ [x.e] = List.map RoQ.e (l ++ [x]) := by simp
 have hla2 : ∀ y ∈ l ++ [x], y.a < 4294967296 := fun y hy => by
  rcases List.mem_append.1 hy with h | h
  ·exact hla y h
  ·exact (List.mem_singleton.1 h) ▸ hxa
 dsimp only [RoQ.e] at hmap
 unfold pfV
 dsimp only [AttS.e, AttS.ro, RoQ.e, lca, lna] at c0 ⊢
 refine Tri_of (N := Tryz.f9.ntmps) (c := bodyOf Tryz.f9) Tryz.func9 rfl rfl rfl rfl (fun w0 S0 => ?_)
 repeat' (first | refine SW ?_ | refine SD ?_ | exact HO_seg rfl rfl | refine S1 ?_ | (refine S2 ?_; intro _) | (refine S3 ?_; intro _ _) | (refine S4 ?_; intro _ _ _) | (refine HO_g 2 rfl ?_; first | apply HO_a1 rfl | apply HO_o1 rfl) | refine S5n ?_ | (intro hb; try replace hb := simB hb; try exact kill hb))
 rename_i b5 b6 b7
 refine HC_cutP (α := OA) (fun _ => True) (fun z => [(9, .slice z.1 (l ++ [x]).length z.2), (8, .bool false), (7, pt b7), (6, pt b6), (0, .slice A l.length c)]) (fun z => [own idE 73 4 z.1 (l ++ [x]).length z.2 ((l ++ [x]).map RoQ.e), cel b7 52 at_.e, cel b6 49 [.int .u32 a, .int .i64 n]]) ?_ ?_
 ·repeat' (first | refine SW ?_ | (refine HC_lex rfl rfl (by decide +kernel) rfl rfl ?_) | refine SD ?_ | (first | refine HO_2p 0 4 (by decide +kernel) rfl rfl (by decide +kernel) ?_ ?_ | refine HO_2p 2 4 (by decide +kernel) rfl rfl (by decide +kernel) ?_ ?_) | (refine HO_k 11 rfl ?_; refine HO_appw rfl rfl rfl rfl rfl rfl rfl rfl ?h1 ?h2 rfl rfl ?h3 ?h4 rfl rfl rfl ?h5 ?_; (case h1 => simp only [List.length_append, List.length_map, List.length_cons, List.length_nil, be_length]); (case h2 => repeat (first | exact WfL.nil | exact WfL.map | apply WfL.append | refine WfL.cons rfl rfl ?_ | assumption)); (case h3 => (try simp only [List.length_append, List.length_map, List.length_cons, List.length_nil, be_length]); (try omega)); (case h4 => (try simp only [List.length_append, List.length_map, List.length_cons, List.length_nil, be_length]); (try omega)); (case h5 => exact soA); intro _ _) | (refine HO_k 11 rfl ?_; refine HO_appr rfl rfl rfl rfl rfl rfl rfl rfl ?h1 ?h2 rfl rfl ?h3 ?h4 rfl rfl rfl ?h5 ?_; (case h1 => simp only [List.length_append, List.length_map, List.length_cons, List.length_nil, be_length]); (case h2 => repeat (first | exact WfL.nil | exact WfL.map | apply WfL.append | refine WfL.cons rfl rfl ?_ | assumption)); (case h3 => (try simp only [List.length_append, List.length_map, List.length_cons, List.length_nil, be_length]); (try omega)); (case h4 => (try simp only [List.length_append, List.length_map, List.length_cons, List.length_nil, be_length]); (try omega)); (case h5 => exact soA); intro _ _) | exact HO_seg rfl rfl | refine S1 ?_ | (refine S2 ?_; intro _) | (refine S3 ?_; intro _ _) | (refine S4 ?_; intro _ _ _) | (refine HO_g 2 rfl ?_; first | apply HO_a1 rfl | apply HO_o1 rfl) | refine S5 ?_ | (intro hb; try replace hb := simB hb; try exact kill hb))
  all_goals
   rw [eL, hmap]
   first
    | (rename_i A2 c2; exact HX_keeps (rw' := [own idE 73 4 A2 (l ++ [x]).length c2 ((l ++ [x]).map RoQ.e), cel b7 52 at_.e, cel b6 49 [.int .u32 a, .int .i64 n]]) permA (HX_at (A2, c2) trivial ⟨rfl, rfl, rfl, rfl, rfl, trivial⟩ rfl))
 rintro ⟨A2, c2⟩ -
 clear eL hmap
 dsimp only [AttS.e]
 by_cases hlen : 100 < l.length
 ·have hlz : (100 : Int) < (l.length : Int) := by omega
  repeat' (first | refine SW ?_ | ((refine HO_g 2 rfl ?_); (refine HO_skip rfl rfl rfl rfl rdA ?_)) | refine SD ?_ | (refine HO_k 12 rfl ?_; refine HO_callq rfl rfl rfl rfl (hlv) (fun _ _ => rfl) (srcsA) rfl rfl sqA ?_) | exact HO_seg rfl rfl | refine S1 ?_ | (refine S2 ?_; intro _) | (refine S3 ?_; intro _ _) | (refine S4 ?_; intro _ _ _) | (refine HO_g 2 rfl ?_; first | apply HO_a1 rfl | apply HO_o1 rfl) | refine S5 ?_ | (intro hb; try replace hb := simB hb; try exact kill hb))
  (refine SRt ?_; unfold RetQ; refine ⟨(), trivial, ?_, Keeps.nil⟩)
  rfl
 have hlz : ¬ (100 : Int) < (l.length : Int) := by omega
 have hl2 : (l ++ [x]).length ≤ 4096 := by rw [List.length_append]; simp; omega
 have c3 := r33check_t A2 c2 (l ++ [x]) hl2 hla2
 cases hok : roaOk (l ++ [x]) with
 | false =>
  rw [hok] at c3
  repeat' (first | refine SW ?_ | ((refine HO_g 2 rfl ?_); (refine HO_skip rfl rfl rfl rfl rdA ?_)) | refine SD ?_ | (refine HO_k 12 rfl ?_; refine HO_callq rfl rfl rfl rfl (c3) (fun _ _ => rfl) ((AllSrc.own 6 rfl rfl trivial)) rfl rfl sqA ?_) | (refine HO_k 12 rfl ?_; refine HO_callq rfl rfl rfl rfl (hlv) (fun _ _ => rfl) (srcsA) rfl rfl sqA ?_) | exact HO_seg rfl rfl | refine S1 ?_ | (refine S2 ?_; intro _) | (refine S3 ?_; intro _ _) | (refine S4 ?_; intro _ _ _) | (refine HO_g 2 rfl ?_; first | apply HO_a1 rfl | apply HO_o1 rfl) | refine S5 ?_ | (intro hb; try replace hb := simB hb; try exact kill hb))
  (refine SRt ?_; unfold RetQ; refine ⟨(), trivial, ?_, Keeps.nil⟩)
  rfl
 | true =>
  rw [hok] at c3
  cases hlg : largeB at_ with
  | true =>
   rw [hlg] at c0
   repeat' (first | refine SW ?_ | ((refine HO_g 2 rfl ?_); (refine HO_skip rfl rfl rfl rfl rdA ?_)) | refine SD ?_ | (refine HO_k 12 rfl ?_; refine HO_callq rfl rfl rfl rfl (c3) (fun _ _ => rfl) ((AllSrc.own 6 rfl rfl trivial)) rfl rfl sqA ?_) | (refine HO_k 12 rfl ?_; refine HO_callq rfl rfl rfl rfl (c0) (fun _ _ => rfl) (srcsA) rfl rfl sqA ?_) | (refine HO_k 12 rfl ?_; refine HO_callq rfl rfl rfl rfl (hlv) (fun _ _ => rfl) (srcsA) rfl rfl sqA ?_) | exact HO_seg rfl rfl | refine S1 ?_ | (refine S2 ?_; intro _) | (refine S3 ?_; intro _ _) | (refine S4 ?_; intro _ _ _) | (refine HO_g 2 rfl ?_; first | apply HO_a1 rfl | apply HO_o1 rfl) | refine S5 ?_ | (intro hb; try replace hb := simB hb; try exact kill hb))
   (refine SRt ?_; unfold RetQ; refine ⟨(), trivial, ?_, Keeps.nil⟩)
   rfl
  | false =>
   rw [hlg] at c0
   have hat : PathW at_ := path_of hlg
   have hokl := roaOk_pre hok
   have hall2 : ∀ y ∈ l ++ [x], roOk y = true := by
    have h := hok
    unfold roaOk at h
    simp only [Bool.and_eq_true, List.all_eq_true] at h
    exact h.1
   have hall : ∀ y ∈ l, roOk y = true := fun y hy => hall2 y (List.mem_append.2 (.inl hy))
   have d1 := ronew_t A c l (by omega) hla hokl
   have d2 := ronew_t A2 c2 (l ++ [x]) hl2 hla2 hok
   have e1 := fun (z : (Nat × Nat × Nat) × Int × Tre RoN) (hz : z.2.2.root = some ⟨z.1.2.2, 0, none⟩ ∧ TabOk z.2.2 l) => state_r z.1.1 z.1.2.1 z.1.2.2 z.2.2 z.2.1 l.length l hz.1 hz.2 hall hla (by omega) a ha n at_ hat
   have e2 := fun (z : (Nat × Nat × Nat) × Int × Tre RoN) (hz : z.2.2.root = some ⟨z.1.2.2, 0, none⟩ ∧ TabOk z.2.2 (l ++ [x])) => state_r z.1.1 z.1.2.1 z.1.2.2 z.2.2 z.2.1 (l ++ [x]).length (l ++ [x]) hz.1 hz.2 hall2 hla2 hl2 a ha n at_ hat
   obtain ⟨m1, m2, m3⟩ := stQ_more l x a n (lastQ at_)
   obtain ⟨v, hv⟩ : ∃ v, stQ l a n (lastQ at_) = v := ⟨_, rfl⟩
   obtain ⟨w, hw⟩ : ∃ w, stQ (l ++ [x]) a n (lastQ at_) = w := ⟨_, rfl⟩
   rw [hv] at m1 m2 m3
   rw [hw] at m1 m2
   simp only [hv] at e1
   simp only [hw] at e2
   clear hv hw hall hall2 hokl
   unfold pfV at e1 e2
   dsimp only [AttS.e, AttS.ro, List.cons_append, List.nil_append, tabP] at d1 d2 e1 e2
   rcases m3 with rfl | rfl | rfl
   ·clear m1 m2
    repeat' (first | refine SW ?_ | ((refine HO_g 2 rfl ?_); (refine HO_skip rfl rfl rfl rfl rdA ?_)) | refine SD ?_ | (refine HO_k 12 rfl ?_; refine HO_callq rfl rfl rfl rfl (c3) (fun _ _ => rfl) ((AllSrc.own 6 rfl rfl trivial)) rfl rfl sqA ?_) | (refine HO_k 12 rfl ?_; refine HO_callq rfl rfl rfl rfl (c0) (fun _ _ => rfl) (srcsA) rfl rfl sqA ?_) | (refine HO_k 12 rfl ?_; refine HO_callq rfl rfl rfl rfl (hlv) (fun _ _ => rfl) (srcsA) rfl rfl sqA ?_) | (refine HO_k 12 rfl ?_; refine HO_call rfl rfl rfl rfl (d1) rfl (srcsA) rfl rfl soA ?_; intro z1 hz1; dsimp only [lca, lna]) | (refine HO_k 12 rfl ?_; refine HO_call rfl rfl rfl rfl (d2) rfl ((AllSrc.own 9 rfl rfl trivial)) rfl rfl soA ?_; intro z2 hz2; dsimp only [lca, lna]) | (refine HO_k 12 rfl ?_; refine HO_callq rfl rfl rfl rfl (e1 z1 hz1) (fun _ _ => rfl) ((AllSrc.at_ 9 rfl (AllSrc.at_ 10 rfl (AllSrc.via 11 rfl outn_inn (AllSrc.at_ 3 rfl (AllSrc.at_ 4 rfl (AllSrc.at_ 5 rfl trivial))))))) rfl rfl sqA ?_) | (refine HO_k 12 rfl ?_; refine HO_callq rfl rfl rfl rfl (e2 z2 hz2) (fun _ _ => rfl) ((AllSrc.at_ 6 rfl (AllSrc.at_ 7 rfl (AllSrc.via 8 rfl outn_inn (AllSrc.at_ 3 rfl (AllSrc.at_ 4 rfl (AllSrc.at_ 5 rfl trivial))))))) rfl rfl sqA ?_) | exact HO_seg rfl rfl | refine S1 ?_ | (refine S2 ?_; intro _) | (refine S3 ?_; intro _ _) | (refine S4 ?_; intro _ _ _) | (refine HO_g 2 rfl ?_; first | apply HO_a1 rfl | apply HO_o1 rfl) | refine S5 ?_ | (intro hb; try replace hb := simB hb; try exact kill hb))
    (refine SRt ?_; unfold RetQ; refine ⟨(), trivial, ?_, Keeps.nil⟩)
    rfl
   ·obtain rfl := m1 rfl
    repeat' (first | refine SW ?_ | ((refine HO_g 2 rfl ?_); (refine HO_skip rfl rfl rfl rfl rdA ?_)) | refine SD ?_ | (refine HO_k 12 rfl ?_; refine HO_callq rfl rfl rfl rfl (c3) (fun _ _ => rfl) ((AllSrc.own 6 rfl rfl trivial)) rfl rfl sqA ?_) | (refine HO_k 12 rfl ?_; refine HO_callq rfl rfl rfl rfl (c0) (fun _ _ => rfl) (srcsA) rfl rfl sqA ?_) | (refine HO_k 12 rfl ?_; refine HO_callq rfl rfl rfl rfl (hlv) (fun _ _ => rfl) (srcsA) rfl rfl sqA ?_) | (refine HO_k 12 rfl ?_; refine HO_call rfl rfl rfl rfl (d1) rfl (srcsA) rfl rfl soA ?_; intro z1 hz1; dsimp only [lca, lna]) | (refine HO_k 12 rfl ?_; refine HO_call rfl rfl rfl rfl (d2) rfl ((AllSrc.own 9 rfl rfl trivial)) rfl rfl soA ?_; intro z2 hz2; dsimp only [lca, lna]) | (refine HO_k 12 rfl ?_; refine HO_callq rfl rfl rfl rfl (e1 z1 hz1) (fun _ _ => rfl) ((AllSrc.at_ 9 rfl (AllSrc.at_ 10 rfl (AllSrc.via 11 rfl outn_inn (AllSrc.at_ 3 rfl (AllSrc.at_ 4 rfl (AllSrc.at_ 5 rfl trivial))))))) rfl rfl sqA ?_) | (refine HO_k 12 rfl ?_; refine HO_callq rfl rfl rfl rfl (e2 z2 hz2) (fun _ _ => rfl) ((AllSrc.at_ 6 rfl (AllSrc.at_ 7 rfl (AllSrc.via 8 rfl outn_inn (AllSrc.at_ 3 rfl (AllSrc.at_ 4 rfl (AllSrc.at_ 5 rfl trivial))))))) rfl rfl sqA ?_) | exact HO_seg rfl rfl | refine S1 ?_ | (refine S2 ?_; intro _) | (refine S3 ?_; intro _ _) | (refine S4 ?_; intro _ _ _) | (refine HO_g 2 rfl ?_; first | apply HO_a1 rfl | apply HO_o1 rfl) | refine S5 ?_ | (intro hb; try replace hb := simB hb; try exact kill hb))
    (refine SRt ?_; unfold RetQ; refine ⟨(), trivial, ?_, Keeps.nil⟩)
    rfl
   ·have hw1 : ¬ w = 1 := m2 rfl
    clear m1 m2
    repeat' (first | refine SW ?_ | ((refine HO_g 2 rfl ?_); (refine HO_skip rfl rfl rfl rfl rdA ?_)) | refine SD ?_ | (refine HO_k 12 rfl ?_; refine HO_callq rfl rfl rfl rfl (c3) (fun _ _ => rfl) ((AllSrc.own 6 rfl rfl trivial)) rfl rfl sqA ?_) | (refine HO_k 12 rfl ?_; refine HO_callq rfl rfl rfl rfl (c0) (fun _ _ => rfl) (srcsA) rfl rfl sqA ?_) | (refine HO_k 12 rfl ?_; refine HO_callq rfl rfl rfl rfl (hlv) (fun _ _ => rfl) (srcsA) rfl rfl sqA ?_) | (refine HO_k 12 rfl ?_; refine HO_call rfl rfl rfl rfl (d1) rfl (srcsA) rfl rfl soA ?_; intro z1 hz1; dsimp only [lca, lna]) | (refine HO_k 12 rfl ?_; refine HO_call rfl rfl rfl rfl (d2) rfl ((AllSrc.own 9 rfl rfl trivial)) rfl rfl soA ?_; intro z2 hz2; dsimp only [lca, lna]) | (refine HO_k 12 rfl ?_; refine HO_callq rfl rfl rfl rfl (e1 z1 hz1) (fun _ _ => rfl) ((AllSrc.at_ 9 rfl (AllSrc.at_ 10 rfl (AllSrc.via 11 rfl outn_inn (AllSrc.at_ 3 rfl (AllSrc.at_ 4 rfl (AllSrc.at_ 5 rfl trivial))))))) rfl rfl sqA ?_) | (refine HO_k 12 rfl ?_; refine HO_callq rfl rfl rfl rfl (e2 z2 hz2) (fun _ _ => rfl) ((AllSrc.at_ 6 rfl (AllSrc.at_ 7 rfl (AllSrc.via 8 rfl outn_inn (AllSrc.at_ 3 rfl (AllSrc.at_ 4 rfl (AllSrc.at_ 5 rfl trivial))))))) rfl rfl sqA ?_) | exact HO_seg rfl rfl | refine S1 ?_ | (refine S2 ?_; intro _) | (refine S3 ?_; intro _ _) | (refine S4 ?_; intro _ _ _) | (refine HO_g 2 rfl ?_; first | apply HO_a1 rfl | apply HO_o1 rfl) | refine S5 ?_ | (intro hb; try replace hb := simB hb; try exact kill hb))
    (refine SRt ?_; unfold RetQ; refine ⟨(), trivial, ?_, Keeps.nil⟩)
    rfl
end Go.Proofs.YtbhiojedmkcfoaaGreatDoor
