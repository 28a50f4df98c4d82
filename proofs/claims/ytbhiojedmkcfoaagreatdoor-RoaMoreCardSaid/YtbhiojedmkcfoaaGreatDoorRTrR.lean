/- Part of a proof of many texts: what the theorem at its end leans on. -/
import Derived.Test.YtbhiojedmkcfoaaGreatDoorRTrG
import Derived.Test.YtbhiojedmkcfoaaGreatDoorRTrQ
import Derived.Test.YtbhiojedmkcfoaaGreatDoorRCgR
namespace Go.Proofs.YtbhiojedmkcfoaaGreatDoor
set_option linter.unusedVariables false
set_option linter.unusedSimpArgs false
open Go.RowKit
attribute [local irreducible] HC HX HO Tri eP adr
theorem tlen_t (tt tb : Nat) (n : Int) : Tri Tryz.prog 33 [pt tt] [cel tt TTab [pt tb, .int .i64 n]] [] (fun _ : Unit => True) (fun _ => .int .i64 n) (fun _ => []) := by
 refine Tri_of (N := Tryz.f33.ntmps) (c := bodyOf Tryz.f33) Tryz.func33 rfl rfl rfl rfl (fun w0 S0 => ?_)
 repeat' (first | refine SW ?_ | refine SD ?_ | exact HO_seg rfl rfl | refine S1 ?_ | (refine S2 ?_; intro _) | (refine S3 ?_; intro _ _) | (refine S4 ?_; intro _ _ _) | (refine HO_g 2 rfl ?_; first | apply HO_a1 rfl | apply HO_o1 rfl) | refine S5 ?_ | (intro hb; try replace hb := simB hb; try exact kill hb))
 (refine SRt ?_; unfold RetQ; refine ⟨(), trivial, ?_, Keeps.nil⟩)
 rfl
theorem tlen_nil : Tri Tryz.prog 33 [.pointer none] [] [] (fun _ : Unit => True) (fun _ => .int .i64 0) (fun _ => []) := by
 refine Tri_of (N := Tryz.f33.ntmps) (c := bodyOf Tryz.f33) Tryz.func33 rfl rfl rfl rfl (fun w0 S0 => ?_)
 repeat' (first | refine SW ?_ | refine SD ?_ | exact HO_seg rfl rfl | refine S1 ?_ | (refine S2 ?_; intro _) | (refine S3 ?_; intro _ _) | (refine S4 ?_; intro _ _ _) | (refine HO_g 2 rfl ?_; first | apply HO_a1 rfl | apply HO_o1 rfl) | refine S5 ?_ | (intro hb; try replace hb := simB hb; try exact kill hb))
 (refine SRt ?_; unfold RetQ; refine ⟨(), trivial, ?_, Keeps.nil⟩)
 rfl
theorem state_r (tt tb b : Nat) (t : Tre RoN) (k m : Int) (es : List RoQ) (hr : t.root = some ⟨b, 0, none⟩) (ht : TabOk t es) (he : ∀ x ∈ es, roOk x = true) (hea : ∀ x ∈ es, x.a < 4294967296) (hel : es.length ≤ 4096) (a : Nat) (ha : a < 4294967296) (n : Int) (at_ : AttS) (hat : PathW at_) :
  Tri Tryz.prog 34 [pt tt, pfV a n, .agg at_.e.toArray] ([cel tt TTab [pt tb, .int .i64 m], cel tb TTr [pt b, .int .i64 k], inn t.pc] ++ at_.ro) [] (fun _ : Unit => True) (fun _ => .int .i64 (stQ es a n (lastQ at_))) (fun _ => []) := by
 obtain ⟨x, l, r, rfl⟩ := root_some hr
 exact state_t tt tb b x l r k m es ht he hea hel a ha n at_ hat
set_option maxHeartbeats 1000000000 in
theorem lawStates (m : Int) (hlv : Tri Tryz.prog 28 [] [tab1, maxLen0 m] [] (fun _ : Unit => True) (fun _ => .bool true) (fun _ => [])) (A : Option Addr) (c : Nat) (l : List RoQ) (hla : ∀ x ∈ l, x.a < 4294967296) (a : Nat) (ha : a < 4294967296) (n : Int) (at_ : AttS) :
  Tri Tryz.prog 7 [.slice A l.length c, pfV a n, .agg at_.e.toArray] ([tab1, maxLen0 m] ++ (arr RoQ.e 4 A l :: at_.ro)) [] (fun _ : Unit => True) (fun _ => .bool true) (fun _ => []) := by
 have c0 := large_t at_
 by_cases hlen : 100 < l.length
 ·have hlz : (100 : Int) < (l.length : Int) := by omega
  unfold pfV
  dsimp only [AttS.e, AttS.ro, lca, lna] at c0 ⊢
  refine Tri_of (N := Tryz.f7.ntmps) (c := bodyOf Tryz.f7) Tryz.func7 rfl rfl rfl rfl (fun w0 S0 => ?_)
  repeat' (first | refine SW ?_ | ((refine HO_g 2 rfl ?_); (refine HO_skip rfl rfl rfl rfl rdA ?_)) | refine SD ?_ | (refine HO_k 12 rfl ?_; refine HO_callq rfl rfl rfl rfl (hlv) (fun _ _ => rfl) (srcsA) rfl rfl sqA ?_) | exact HO_seg rfl rfl | refine S1 ?_ | (refine S2 ?_; intro _) | (refine S3 ?_; intro _ _) | (refine S4 ?_; intro _ _ _) | (refine HO_g 2 rfl ?_; first | apply HO_a1 rfl | apply HO_o1 rfl) | refine S5 ?_ | (intro hb; try replace hb := simB hb; try exact kill hb))
  (refine SRt ?_; unfold RetQ; refine ⟨(), trivial, ?_, Keeps.nil⟩)
  rfl
 have hlz : ¬ (100 : Int) < (l.length : Int) := by omega
 cases hlg : largeB at_ with
 | true =>
  rw [hlg] at c0
  unfold pfV
  dsimp only [AttS.e, AttS.ro, lca, lna] at c0 ⊢
  refine Tri_of (N := Tryz.f7.ntmps) (c := bodyOf Tryz.f7) Tryz.func7 rfl rfl rfl rfl (fun w0 S0 => ?_)
  repeat' (first | refine SW ?_ | ((refine HO_g 2 rfl ?_); (refine HO_skip rfl rfl rfl rfl rdA ?_)) | refine SD ?_ | (refine HO_k 12 rfl ?_; refine HO_callq rfl rfl rfl rfl (c0) (fun _ _ => rfl) (srcsA) rfl rfl sqA ?_) | (refine HO_k 12 rfl ?_; refine HO_callq rfl rfl rfl rfl (hlv) (fun _ _ => rfl) (srcsA) rfl rfl sqA ?_) | exact HO_seg rfl rfl | refine S1 ?_ | (refine S2 ?_; intro _) | (refine S3 ?_; intro _ _) | (refine S4 ?_; intro _ _ _) | (refine HO_g 2 rfl ?_; first | apply HO_a1 rfl | apply HO_o1 rfl) | refine S5 ?_ | (intro hb; try replace hb := simB hb; try exact kill hb))
  (refine SRt ?_; unfold RetQ; refine ⟨(), trivial, ?_, Keeps.nil⟩)
  rfl
 | false =>
  rw [hlg] at c0
  have hat : PathW at_ := path_of hlg
  have c1 := last_t at_ hat
  have c2 := rlast33_t at_ hat
  have c3 := r33check_t A c l (by omega) hla
  cases hok : roaOk l with
  | false =>
   have c4 := ronew_no A c l (by omega) hla hok
   rw [hok] at c3
   obtain ⟨⟨asv, is⟩, hq⟩ : ∃ q, lastQ at_ = q := ⟨_, rfl⟩
   rw [hq] at c1 c2
   unfold pfV
   dsimp only [AttS.e, AttS.ro, lca, lna] at c0 c1 c2 ⊢
   refine Tri_of (N := Tryz.f7.ntmps) (c := bodyOf Tryz.f7) Tryz.func7 rfl rfl rfl rfl (fun w0 S0 => ?_)
   repeat' (first | refine SW ?_ | ((refine HO_g 2 rfl ?_); (refine HO_skip rfl rfl rfl rfl rdA ?_)) | refine SD ?_ | (refine HO_k 12 rfl ?_; refine HO_callq rfl rfl rfl rfl (c0) (fun _ _ => rfl) (srcsA) rfl rfl sqA ?_) | (refine HO_k 12 rfl ?_; refine HO_callq rfl rfl rfl rfl (c4) (fun _ _ => rfl) (srcsA) rfl rfl sqA ?_) | (refine HO_k 12 rfl ?_; refine HO_callq rfl rfl rfl rfl (c1) (fun _ _ => rfl) (srcsA) rfl rfl sqA ?_) | (refine HO_k 12 rfl ?_; refine HO_callq rfl rfl rfl rfl (c2) (fun _ _ => rfl) (srcsA) rfl rfl sqA ?_) | (refine HO_k 12 rfl ?_; refine HO_callq rfl rfl rfl rfl (hlv) (fun _ _ => rfl) (srcsA) rfl rfl sqA ?_) | (refine HO_k 12 rfl ?_; refine HO_callq rfl rfl rfl rfl (c3) (fun _ _ => rfl) (srcsA) rfl rfl sqA ?_) | exact HO_seg rfl rfl | refine S1 ?_ | (refine S2 ?_; intro _) | (refine S3 ?_; intro _ _) | (refine S4 ?_; intro _ _ _) | (refine HO_g 2 rfl ?_; first | apply HO_a1 rfl | apply HO_o1 rfl) | refine S5 ?_ | (intro hb; try replace hb := simB hb; try exact kill hb))
   (refine SRt ?_; unfold RetQ; refine ⟨(), trivial, ?_, Keeps.nil⟩)
   rfl
  | true =>
   have hall : ∀ x ∈ l, roOk x = true := by
    have h := hok
    unfold roaOk at h
    simp only [Bool.and_eq_true, List.all_eq_true] at h
    exact h.1
   have c4 := ronew_t A c l (by omega) hla hok
   rw [hok] at c3
   have c5 := fun (z : (Nat × Nat × Nat) × Int × Tre RoN) (hz : z.2.2.root = some ⟨z.1.2.2, 0, none⟩ ∧ TabOk z.2.2 l) => state_r z.1.1 z.1.2.1 z.1.2.2 z.2.2 z.2.1 l.length l hz.1 hz.2 hall hla (by omega) a ha n at_ hat
   have c6 := rstate_t A c l (by omega) hla a ha n at_ hat
   have c7 := state_nil a n at_
   have c8 := fun (z : (Nat × Nat × Nat) × Int × Tre RoN) => tlen_t z.1.1 z.1.2.1 l.length
   have c9 := tlen_nil
   obtain ⟨v, hv⟩ : ∃ v, stQ l a n (lastQ at_) = v := ⟨_, rfl⟩
   rw [hv] at c6
   simp only [hv] at c5
   obtain ⟨⟨asv, is⟩, hq⟩ : ∃ q, lastQ at_ = q := ⟨_, rfl⟩
   rw [hq] at c1 c2
   clear hv hq
   unfold pfV at c5 c6 c7 ⊢
   dsimp only [AttS.e, AttS.ro, List.cons_append, List.nil_append, tabP] at c0 c1 c2 c4 c5 c6 c7 ⊢
   refine Tri_of (N := Tryz.f7.ntmps) (c := bodyOf Tryz.f7) Tryz.func7 rfl rfl rfl rfl (fun w0 S0 => ?_)
   repeat' (first | refine SW ?_ | ((refine HO_g 2 rfl ?_); (refine HO_skip rfl rfl rfl rfl rdA ?_)) | refine SD ?_ | (refine HO_k 12 rfl ?_; refine HO_callq rfl rfl rfl rfl (c0) (fun _ _ => rfl) (srcsA) rfl rfl sqA ?_) | (refine HO_k 12 rfl ?_; refine HO_call rfl rfl rfl rfl (c4) rfl (srcsA) rfl rfl soA ?_; intro z hz; dsimp only [lca, lna]) | (refine HO_k 12 rfl ?_; refine HO_callq rfl rfl rfl rfl (c1) (fun _ _ => rfl) (srcsA) rfl rfl sqA ?_) | (refine HO_k 12 rfl ?_; refine HO_callq rfl rfl rfl rfl (c2) (fun _ _ => rfl) (srcsA) rfl rfl sqA ?_) | (refine HO_k 12 rfl ?_; refine HO_callq rfl rfl rfl rfl (hlv) (fun _ _ => rfl) (srcsA) rfl rfl sqA ?_) | (refine HO_k 12 rfl ?_; refine HO_callq rfl rfl rfl rfl (c3) (fun _ _ => rfl) (srcsA) rfl rfl sqA ?_) | (refine HO_k 12 rfl ?_; refine HO_callq rfl rfl rfl rfl (c9) (fun _ _ => rfl) (trivial) rfl rfl sqA ?_) | (refine HO_k 12 rfl ?_; refine HO_callq rfl rfl rfl rfl (c8 z) (fun _ _ => rfl) (srcsA) rfl rfl sqA ?_) | (refine HO_k 12 rfl ?_; refine HO_callq rfl rfl rfl rfl (c7) (fun _ _ => rfl) (trivial) rfl rfl sqA ?_) | (refine HO_k 12 rfl ?_; refine HO_callq rfl rfl rfl rfl (c6) (fun _ _ => rfl) (srcsA) rfl rfl sqA ?_) | (refine HO_k 12 rfl ?_; refine HO_callq rfl rfl rfl rfl (c5 z hz) (fun _ _ => rfl) ((by first | exact AllSrc.at_ 6 rfl (AllSrc.at_ 7 rfl (AllSrc.via 8 rfl outn_inn (AllSrc.at_ 3 rfl (AllSrc.at_ 4 rfl (AllSrc.at_ 5 rfl trivial))))))) rfl rfl sqA ?_) | exact HO_seg rfl rfl | refine S1 ?_ | (refine S2 ?_; intro _) | (refine S3 ?_; intro _ _) | (refine S4 ?_; intro _ _ _) | (refine HO_g 2 rfl ?_; first | apply HO_a1 rfl | apply HO_o1 rfl) | refine S5 ?_ | (intro hb; try replace hb := simB hb; try exact kill hb))
   (refine SRt ?_; unfold RetQ; refine ⟨(), trivial, ?_, Keeps.nil⟩)
   rfl
end Go.Proofs.YtbhiojedmkcfoaaGreatDoor
