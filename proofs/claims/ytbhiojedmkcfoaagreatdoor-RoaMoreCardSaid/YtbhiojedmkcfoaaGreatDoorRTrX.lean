/- Part of a proof of many texts: what the theorem at its end leans on. -/
import Derived.Test.YtbhiojedmkcfoaaGreatDoorRTrW
import Derived.Test.YtbhiojedmkcfoaaGreatDoorRTrP
namespace Go.Proofs.YtbhiojedmkcfoaaGreatDoor
set_option linter.unusedVariables false
set_option linter.unusedSimpArgs false
open Go.RowKit
attribute [local irreducible] HC HX HO Tri eP adr
theorem last9_t (q1 q2 : Nat) : Tri Tryz.prog 30 [.agg (lAt 9 1 q1 q2).e.toArray] [arr iE 1 (some ⟨q1, 0, none⟩) [9], arr SegS.e 2 (some ⟨q2, 0, none⟩) [lSg 9 q1]] [] (fun _ : Unit => True) (fun _ => .tuple #[.int .i64 9, .bool true]) (fun _ => []) := by
 have hat : PathW (lAt 9 1 q1 q2) := by
  unfold PathW lAt lSg
  simp
 exact Tri_ro (last_t (lAt 9 1 q1 q2) hat) (AllSrc.via 0 rfl inn_1 (AllSrc.at_ 1 rfl (AllSrc.free (fun w => arr_nil _ w) trivial)))
set_option maxHeartbeats 1000000000 in
theorem lives33_t (m : Int) : Tri Tryz.prog 28 [] [tab1, maxLen0 m] [] (fun _ : Unit => True) (fun _ => .bool true) (fun _ => []) := by
 have c1 := show33_t
 have c2 := parse33_t m
 have c3 := parse34_t m
 have c4 := fun b => ronew_t (some ⟨b, 0, none⟩) 1 es33 (by decide) es33_a es33_ok
 have c5 := said14_t 7 1
 have c6 := fun z hz b b1 b2 => flt33_t z hz b b1 b2
 unfold u33 at c6
 dsimp only [tabP, lAt, AttS.e, UpS.e] at c4 c5 c6
 simp only [show es33.length = 1 from rfl, show ((1 : Nat) : Int) = 1 from rfl] at c4
 refine Tri_of (N := Tryz.f28.ntmps) (c := bodyOf Tryz.f28) Tryz.func28 rfl rfl rfl rfl (fun w0 S0 => ?_)
 repeat' (first | refine SW ?_ | refine SD ?_ | (refine HO_k 12 rfl ?_; refine HO_callq rfl rfl rfl rfl (c1 _) (fun _ _ => rfl) (srcsA) rfl rfl sqA ?_) | (refine HO_k 12 rfl ?_; refine HO_call rfl rfl rfl rfl (c2) rfl (srcsA) rfl rfl soA ?_; intro y hy; dsimp only [lca, lna]) | (refine HO_k 12 rfl ?_; refine HO_callq rfl rfl rfl rfl (c3) (fun _ _ => rfl) (srcsA) rfl rfl sqA ?_) | (refine HO_k 12 rfl ?_; refine HO_call rfl rfl rfl rfl (c4 _) rfl (srcsA) rfl rfl soA ?_; intro z hz; dsimp only [lca, lna]) | exact HO_seg rfl rfl | refine S1 ?_ | (refine S2 ?_; intro _) | (refine S3 ?_; intro _ _) | (refine S4 ?_; intro _ _ _) | (refine HO_g 2 rfl ?_; first | apply HO_a1 rfl | apply HO_o1 rfl) | refine S5n ?_ | (intro hb; try replace hb := simB hb; try exact kill hb))
 rename_i b1 b9 b10
 refine HC_cutP (α := Nat × OA × OA × OA × OA × Nat × Nat) (fun _ => True) (fun v => [(11, pt v.1), (10, pt b10), (9, pt b9), (8, .int .i64 0), (7, pt z.1.1), (6, .int .i64 330), (4, .int .i64 0), (3, .slice y.1 1 y.2), (2, .string ⟨tx33.toArray⟩), (1, .slice (some ⟨b1, 0, none⟩) 1 1)]) (fun v => [cel v.1 66 [.slice v.2.1.1 1 v.2.1.2, .slice v.2.2.1.1 1 v.2.2.1.2, .int .i64 0, .slice v.2.2.2.1.1 v.2.2.2.2.2.1 v.2.2.2.1.2, .int .u32 1, .int .i64 (-1), .int .i64 (-1), .slice v.2.2.2.2.1.1 v.2.2.2.2.2.2 v.2.2.2.2.1.2, .bool false], arr Nl.e 3 v.2.1.1 [n33b], cel b10 49 [.int .u32 167837696, .int .i64 24], cel b9 49 [.int .u32 167837696, .int .i64 16], cel z.1.1 TTab [pt z.1.2.1, .int .i64 1], cel z.1.2.1 TTr [pt z.1.2.2, .int .i64 z.2.1], outn z.2.2.pc, own idE 73 4 y.1 1 y.2 (es33.map RoQ.e), own idE 73 4 (some ⟨b1, 0, none⟩) 1 1 (es33.map RoQ.e)]) ?_ ?_
 ·repeat' (first | refine SW ?_ | (refine HC_lex rfl rfl (by decide +kernel) rfl rfl ?_) | refine SD ?_ | (first | refine HO_3p 5 6 9 (by decide +kernel) rfl rfl rfl (by decide +kernel) ?_ ?_ ?_ | refine HO_2p 5 6 (by decide +kernel) rfl rfl (by decide +kernel) ?_ ?_ | refine HO_2p 5 9 (by decide +kernel) rfl rfl (by decide +kernel) ?_ ?_ | refine HO_2p 6 9 (by decide +kernel) rfl rfl (by decide +kernel) ?_ ?_ | refine HO_2p 8 9 (by decide +kernel) rfl rfl (by decide +kernel) ?_ ?_) | (refine HO_k 12 rfl ?_; refine HO_call rfl rfl rfl rfl (c5) rfl (trivial) rfl rfl soA ?_; intro ⟨q1, q2⟩ hq; dsimp only [lca, lna]) | (refine HO_k 12 rfl ?_; refine HO_call rfl rfl rfl rfl (c6 z hz _ _ _) rfl (srcsC) rfl rfl soA ?_; intro v hv; dsimp only [lca, lna]) | exact HO_seg rfl rfl | refine S1 ?_ | (refine S2 ?_; intro _) | (refine S3 ?_; intro _ _) | (refine S4 ?_; intro _ _ _) | (refine HO_g 2 rfl ?_; first | apply HO_a1 rfl | apply HO_o1 rfl) | refine S5 ?_ | (intro hb; try replace hb := simB hb; try exact kill hb))
  all_goals first
   | (rename_i bs b11; exact HX_keeps permA (HX_at (b11, v) trivial ⟨rfl, rfl, rfl, rfl, rfl, rfl, rfl, rfl, rfl, rfl, trivial⟩ rfl))
   | (rename_i b11 bs; exact HX_keeps permA (HX_at (b11, v) trivial ⟨rfl, rfl, rfl, rfl, rfl, rfl, rfl, rfl, rfl, rfl, trivial⟩ rfl))
 clear c1 c2 c3 c4 c6
 rintro ⟨b11, g, r, pa, co, np, nc⟩ -
 dsimp only
 have d1 := said14_t 9 1
 have d2 := said14_t 8 1
 have d3 := fun q1 q2 => last9_t q1 q2
 have d4 := fun A c => same33_t (some ⟨b1, 0, none⟩) A 1 c es33 es33 (by decide)
 have s1 := fun q1 q2 => st33_t z hz 167837696 (by decide) 16 7 q1 q2 2 (by decide +kernel)
 have s2 := fun q1 q2 => st33_t z hz 167837696 (by decide) 24 7 q1 q2 3 (by decide +kernel)
 have s3 := fun q1 q2 => st33_t z hz 167837696 (by decide) 16 8 q1 q2 3 (by decide +kernel)
 have s4 := fun q1 q2 => st33_t z hz 0 (by decide) 0 7 q1 q2 1 (by decide +kernel)
 have s5 := tlen_t z.1.1 z.1.2.1 1
 simp only [decide_true, eq_self] at d4
 unfold pfV at s1 s2 s3 s4
 dsimp only [lAt, AttS.e] at d1 d2 d3 s1 s2 s3 s4
 have hx0 : [n33b][(0 : Int).toNat]? = some n33b := rfl
 have hx1 : [n33b][0]? = some n33b := rfl
 repeat' (first | refine SW ?_ | (refine HC_lex rfl rfl (by decide +kernel) rfl rfl ?_) | ((refine HO_g 2 rfl ?_); (refine HO_skip rfl rfl rfl rfl rdA ?_)) | (with_reducible refine HO_rw (congrArg Value.bool (sba_eq _ _)) ?_) | refine SD ?_ | (refine HO_k 12 rfl ?_; refine HO_call rfl rfl rfl rfl (d1) rfl (trivial) rfl rfl soA ?_; intro ⟨q1, q2⟩ hq; dsimp only [lca, lna]) | (refine HO_k 12 rfl ?_; refine HO_callq rfl rfl rfl rfl (d3 _ _) (fun _ _ => rfl) (srcsC) rfl rfl sqA ?_) | (refine HO_k 12 rfl ?_; refine HO_call rfl rfl rfl rfl (c5) rfl (trivial) rfl rfl soA ?_; intro ⟨q1, q2⟩ hq; dsimp only [lca, lna]) | (refine HO_k 12 rfl ?_; refine HO_callq rfl rfl rfl rfl (d4 _ _) (fun _ _ => rfl) (srcsC) rfl rfl sqA ?_) | (refine HO_k 12 rfl ?_; refine HO_callq rfl rfl rfl rfl (s1 _ _) (fun _ _ => rfl) (srcsC) rfl rfl sqA ?_) | exact HO_seg rfl rfl | refine S1 ?_ | (refine S2 ?_; intro _) | (refine S3 ?_; intro _ _) | (refine S4 ?_; intro _ _ _) | (refine HO_g 2 rfl ?_; first | apply HO_a1 rfl | apply HO_o1 rfl) | refine S5 ?_ | (intro hb; try replace hb := simB hb; try exact kill hb))
 repeat' (first | refine SW ?_ | ((refine HO_g 2 rfl ?_); (refine HO_skip rfl rfl rfl rfl rdA ?_)) | (with_reducible refine HO_rw (congrArg Value.bool (sba_eq _ _)) ?_) | refine SD ?_ | (refine HO_k 12 rfl ?_; refine HO_callq rfl rfl rfl rfl (s2 _ _) (fun _ _ => rfl) (srcsC) rfl rfl sqA ?_) | (refine HO_k 12 rfl ?_; refine HO_call rfl rfl rfl rfl (d2) rfl (trivial) rfl rfl soA ?_; intro ⟨q1, q2⟩ hq; dsimp only [lca, lna]) | exact HO_seg rfl rfl | refine S1 ?_ | (refine S2 ?_; intro _) | (refine S3 ?_; intro _ _) | (refine S4 ?_; intro _ _ _) | (refine HO_g 2 rfl ?_; first | apply HO_a1 rfl | apply HO_o1 rfl) | refine S5 ?_ | (intro hb; try replace hb := simB hb; try exact kill hb))
 repeat' (first | refine SW ?_ | ((refine HO_g 2 rfl ?_); (refine HO_skip rfl rfl rfl rfl rdA ?_)) | (with_reducible refine HO_rw (congrArg Value.bool (sba_eq _ _)) ?_) | refine SD ?_ | (refine HO_k 12 rfl ?_; refine HO_callq rfl rfl rfl rfl (s3 _ _) (fun _ _ => rfl) (srcsC) rfl rfl sqA ?_) | (refine HO_k 12 rfl ?_; refine HO_call rfl rfl rfl rfl (c5) rfl (trivial) rfl rfl soA ?_; intro ⟨q1, q2⟩ hq; dsimp only [lca, lna]) | (refine HO_k 12 rfl ?_; refine HO_callq rfl rfl rfl rfl (s4 _ _) (fun _ _ => rfl) (srcsC) rfl rfl sqA ?_) | (refine HO_k 12 rfl ?_; refine HO_callq rfl rfl rfl rfl (s5) (fun _ _ => rfl) (srcsC) rfl rfl sqA ?_) | (refine HO_k 10 rfl ?_; refine HO_holdA 10 rfl rfl ?_; refine HO_ixA rfl rfl rfl rfl wfA geA lenA lenA rfl rfl rdA ?_) | exact HO_seg rfl rfl | refine S1 ?_ | (refine S2 ?_; intro _) | (refine S3 ?_; intro _ _) | (refine S4 ?_; intro _ _ _) | (refine HO_g 2 rfl ?_; first | apply HO_a1 rfl | apply HO_o1 rfl) | refine S5 ?_ | (intro hb; try replace hb := simB hb; try exact kill hb))
 (refine SRt ?_; unfold RetQ; refine ⟨(), trivial, ?_, Keeps.nil⟩)
 rfl
end Go.Proofs.YtbhiojedmkcfoaaGreatDoor
