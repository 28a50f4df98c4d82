/- Part of a proof of many texts: what the theorem at its end leans on. -/
import Derived.Test.YteeogabkkblkgaaGreatDoorVRiA
import Derived.Test.YteeogabkkblkgaaGreatDoorVPgG
import Derived.Test.YteeogabkkblkgaaGreatDoorVPgH
import Derived.Test.YteeogabkkblkgaaGreatDoorXPRiE
namespace Go.Proofs.YteeogabkkblkgaaGreatDoor
set_option maxHeartbeats 1000000000
set_option linter.unusedVariables false
set_option linter.unusedSimpArgs false
open Go.RowKit
attribute [local irreducible] HC HX HO Tri eP adr
def locL : Loc := ⟨65000, 90, 1, true, 1, 30⟩
def otherQ : OpQ := ⟨65000, 60, 2, true, 2⟩
def theirB : List UInt8 := frB 1 (opB otherQ) ++ frB 4 []
def bg0 : PrQ := newP 1 locL 65536 []
def bg1 : PrQ × RsQ UpP := doM 0 bg0 1
def bg2 : PrQ × RsQ UpP := doM 0 bg1.1 3
def lv0 : PrQ := newP 3 locL 5000 []
def lv1 : PrQ × RsQ UpP := doM 10 lv0 1
def lv2 : PrQ × RsQ UpP := doM 11 lv1.1 3
def lv3 : PrQ × RsQ UpP := inM updM 12 lv2.1 theirB
def lv4 : PrQ × Int := putM lv3.1 (upOk lv3.1.st.four false uz) (upB lv3.1.st.four false uz)
def lv5 : PrQ := { lv4.1 with q := lv4.1.q.drop (tkN 29 lv4.1.q.length) }
def lv6 : PrQ × RsQ UpP := inM updM 13 lv5 (List.replicate 19 0)
theorem lv_1 : lv1.2.con = true := by decide +kernel
theorem lv_2 : lv2.2.clo = false := by decide +kernel
theorem lv_3 : lv3.2.up = true := by decide +kernel
theorem lv_t : tmAt lv3.1.tm ⟨3, 1⟩ = (72, true) := by decide +kernel
theorem lv_4 : lv4.2 = 0 := by decide +kernel
theorem lv_w : lv4.1.q.length = 91 := by decide +kernel
theorem lv_o : (lv4.1.q.take (tkN 29 lv4.1.q.length)).length = 29 ∧ (lv4.1.q.take (tkN 29 lv4.1.q.length))[18]? = some 1 := by decide +kernel
theorem lv_s : lv5.st.ph = 5 := by decide +kernel
theorem lv_6 : lv6.2.clo = true ∧ lv6.2.dn = true ∧ lv6.2.last.length = 21 ∧ lv6.1.q.length = 0 ∧ lv6.1.n = 3 := by decide +kernel
theorem ok_bg0 : PrOk bg0 := ⟨by decide +kernel, by decide +kernel, by decide +kernel, by decide +kernel, by decide +kernel, by decide +kernel, by decide +kernel, by decide +kernel, by decide +kernel⟩
theorem ok_bg1 : PrOk bg1.1 := ⟨by decide +kernel, by decide +kernel, by decide +kernel, by decide +kernel, by decide +kernel, by decide +kernel, by decide +kernel, by decide +kernel, by decide +kernel⟩
theorem ok_bg2 : PrOk bg2.1 := ⟨by decide +kernel, by decide +kernel, by decide +kernel, by decide +kernel, by decide +kernel, by decide +kernel, by decide +kernel, by decide +kernel, by decide +kernel⟩
theorem ok_lv0 : PrOk lv0 := ⟨by decide +kernel, by decide +kernel, by decide +kernel, by decide +kernel, by decide +kernel, by decide +kernel, by decide +kernel, by decide +kernel, by decide +kernel⟩
theorem ok_lv1 : PrOk lv1.1 := ⟨by decide +kernel, by decide +kernel, by decide +kernel, by decide +kernel, by decide +kernel, by decide +kernel, by decide +kernel, by decide +kernel, by decide +kernel⟩
theorem ok_lv2 : PrOk lv2.1 := ⟨by decide +kernel, by decide +kernel, by decide +kernel, by decide +kernel, by decide +kernel, by decide +kernel, by decide +kernel, by decide +kernel, by decide +kernel⟩
theorem ok_lv3 : PrOk lv3.1 := ⟨by decide +kernel, by decide +kernel, by decide +kernel, by decide +kernel, by decide +kernel, by decide +kernel, by decide +kernel, by decide +kernel, by decide +kernel⟩
theorem ok_lv4 : PrOk lv4.1 := ⟨by decide +kernel, by decide +kernel, by decide +kernel, by decide +kernel, by decide +kernel, by decide +kernel, by decide +kernel, by decide +kernel, by decide +kernel⟩
theorem ok_lv5 : PrOk lv5 := ⟨by decide +kernel, by decide +kernel, by decide +kernel, by decide +kernel, by decide +kernel, by decide +kernel, by decide +kernel, by decide +kernel, by decide +kernel⟩
theorem local_t : Tri Tryz.prog 34 [] [] [] (fun _ : Unit => True) (fun _ => locV locL) (fun _ => []) := by
 dsimp only [locV, locL]
 refine Tri_in Tryz.func34 rfl (fun w0 S0 => ?_)
 repeat' (first | refine SB ?_ | (refine S2 ?_; intro _) | fail)
 (refine SRt ?_; refine RU ?_)
 rfl
theorem other_t : Tri Tryz.prog 15 [] [] [] (fun _ : Unit => True) (fun _ => opV otherQ) (fun _ => []) := by
 dsimp only [opV, otherQ]
 refine Tri_in Tryz.func15 rfl (fun w0 S0 => ?_)
 repeat' (first | refine SB ?_ | (refine S2 ?_; intro _) | fail)
 (refine SRt ?_; refine RU ?_)
 rfl
theorem theirs_t : Tri Tryz.prog 14 [opV otherQ] [] [] (fun _ : OA => True) (fun z => .slice z.1 theirB.length z.2) (fun z => [ownB z theirB]) := by
 have c1 := roput_t otherQ (by decide) (by decide +kernel)
 have c2 := fun A c => rput3_t 1 A c (opB otherQ) (by decide +kernel)
 have c3 := rput3_t 4 none 0 [] (by decide +kernel)
 have l1 : (frB 1 (opB otherQ)).length ≤ 1000 := by decide +kernel
 have l2 : (frB 4 []).length ≤ 1000 := by decide +kernel
 unfold theirB
 obtain ⟨B, hB⟩ : ∃ B, opB otherQ = B := ⟨_, rfl⟩
 rw [hB] at c1 c2 l1 ⊢
 obtain ⟨F, hF⟩ : ∃ F, frB 1 B = F := ⟨_, rfl⟩
 rw [hF] at c2 l1 ⊢
 obtain ⟨G, hG⟩ : ∃ G, frB 4 [] = G := ⟨_, rfl⟩
 rw [hG] at c3 l2 ⊢
 dsimp only [opV, otherQ, mgV] at c1 c2 c3 ⊢
 refine Tri_in Tryz.func14 rfl (fun w0 S0 => ?_)
 repeat' (first | (refine KC ?_; refine HO_callP rfl rfl rfl rfl (c1) findA (trivial) rfl rfl soA ?_; intro ⟨y1, y2⟩ hy; dsimp only [lca, lna]) | (refine KC ?_; refine HO_callP rfl rfl rfl rfl (c2 _ _) findA (srcsA) rfl rfl soA ?_; intro ⟨x1, x2⟩ hx; dsimp only [lca, lna]) | (refine KC ?_; refine HO_callP rfl rfl rfl rfl (c3) findA ((AllSrc.free (fun w => arr_nil _ w) trivial)) rfl rfl soA ?_; intro ⟨z1, z2⟩ hz; dsimp only [lca, lna]) | refine SB ?_ | (refine T2 ?_; intros) | fail)
 rename_i A' c'
 have e1 : F.length + G.length = (F ++ G).length := List.length_append.symm
 have e2 : F.map bE ++ G.map bE = (F ++ G).map bE := List.map_append.symm
 rw [e1, e2]
 (refine SRt ?_; unfold RetQ; refine ⟨(A', c'), trivial, rfl, permA⟩)
theorem begun_t : Tri Tryz.prog 9 [] [leW] [] (fun _ : Nat × Nat => True) (fun y => .tuple #[pt y.1, .bool true]) (fun y => [peP y.1 y.2 bg2.1]) := by
 have c1 := local_t
 have c2 := fun t => pnew_t 1 locL 65536 t [] (by decide +kernel) (by decide +kernel)
 have c3 := fun p t => pdo_t p t 1 0 bg0 ok_bg0 (by decide)
 have c4 := fun p t => pdo_t p t 3 0 bg1.1 ok_bg1 (by decide +kernel)
 have e3 : doM 0 bg0 1 = bg1 := rfl
 have e4 : doM 0 bg1.1 3 = bg2 := rfl
 have e2 : newP 1 locL 65536 [] = bg0 := rfl
 simp only [e3] at c3
 simp only [e4] at c4
 simp only [e2] at c2
 obtain ⟨⟨B2, r2⟩, h2⟩ : ∃ B, bg2 = B := ⟨_, rfl⟩
 rw [h2] at c4 ⊢
 obtain ⟨⟨B1, r1⟩, h1⟩ : ∃ B, bg1 = B := ⟨_, rfl⟩
 rw [h1] at c3 c4
 obtain ⟨B0, h0⟩ : ∃ B, bg0 = B := ⟨_, rfl⟩
 rw [h0] at c2 c3
 dsimp only [locV, locL] at c1 c2
 refine Tri_in Tryz.func9 rfl (fun w0 S0 => ?_)
 repeat' (first | refine SD ?_ | (refine KC ?_; refine HO_callq rfl rfl rfl rfl (c1) (fun _ _ => rfl) (trivial) rfl rfl sqA ?_) | (refine KC ?_; refine HO_callP rfl rfl rfl rfl (tnew_t) findA (trivial) rfl rfl soA ?_; intro t ht; dsimp only [lca, lna]) | (refine KC ?_; refine HO_callP rfl rfl rfl rfl (c2 _) findA (trivial) rfl rfl soA ?_; intro p hp; dsimp only [lca, lna]) | (refine KC ?_; refine HO_callP rfl rfl rfl rfl (c3 _ _) findA (srcsA) rfl rfl soA ?_; intro z1 hz1; dsimp only [lca, lna]) | (refine KC ?_; refine HO_callP rfl rfl rfl rfl (c4 _ _) findA (srcsA) rfl rfl soA ?_; intro z2 hz2; dsimp only [lca, lna]) | refine SB ?_ | fail)
 (refine SRt ?_; unfold RetQ; refine ⟨(p, t), trivial, rfl, permA⟩)
theorem pnew_9 (n : Int) (t : Nat) : Tri Tryz.prog 28 [.int .i64 n, locV locL, .int .i64 9, pt t] [] [] (fun _ : Unit => True) (fun _ => .tuple #[nilV, .int .i64 1]) (fun _ => []) := by
 have c1 := fcheck_t locL.asn locL.hold locL.id locL.paths locL.retry locL.four
 have hl : locOk locL.asn locL.hold locL.id locL.paths locL.retry locL.four = true := by decide +kernel
 rw [hl, if_pos rfl] at c1
 clear hl
 dsimp only [locV, locL] at c1 ⊢
 refine Tri_in Tryz.func28 rfl (fun w0 S0 => ?_)
 repeat' (first | refine SK ?_ | refine SD ?_ | (refine KC ?_; refine HO_callq rfl rfl rfl rfl (c1) (fun _ _ => rfl) (trivial) rfl rfl sqA ?_) | refine SB ?_ | (refine S2 ?_; intro _) | fail)
 (refine SRt ?_; refine RU ?_)
 rfl
theorem uz_src {l : List SL} : AllSrc (leW :: l) (uz.ro ++ [leW]) :=
 AllSrc.free (fun w => arr_nil _ w) (AllSrc.free (fun w => arr_nil _ w) (AllSrc.free (fun w => inn_nil w) (AllSrc.free (fun w => arr_nil _ w) (AllSrc.free (fun w => arr_nil _ w) (AllSrc.at_ 0 rfl trivial)))))
set_option maxRecDepth 100000 in
theorem lives_t : Tri Tryz.prog 8 [] [leW] [] (fun _ : Unit => True) (fun _ => .bool true) (fun _ => []) := by
 have c1 := local_t
 have c2 := fun t => pnew_t 3 locL 5000 t [] (by decide +kernel) (by decide +kernel)
 have c3 := fun p t => pdo_t p t 1 10 lv0 ok_lv0 (by decide)
 have c4 := fun p t => pdo_t p t 3 11 lv1.1 ok_lv1 (by decide +kernel)
 have c5 := fun p t A c => pfeed_t p t 12 lv2.1 ok_lv2 (by decide +kernel) (by kernel_rfl) A c theirB (by decide +kernel)
 have c6 := fun t => tat_t t lv3.1.tm ⟨3, 1⟩
 have c7 := fun p t => pputu_t p t lv3.1 ok_lv3 uz uz_w
 have c8 := fun p t => pwaiting_t p t lv4.1
 have c9 := fun p t => pout_t p t lv4.1 ok_lv4 29
 have d1 := fun p t => pstate_t p t lv5
 have d2 := fun p t A c => pfeed_t p t 13 lv5 ok_lv5 (by decide +kernel) (by kernel_rfl) A c (List.replicate 19 0) (by decide)
 have d3 := fun t => pnew_9 3 t
 have d4 := fun p t => pwaiting_t p t lv6.1
 have d5 := fun p t => pnumber_t p t lv6.1
 have e2 : newP 3 locL 5000 [] = lv0 := rfl
 have e3 : doM 10 lv0 1 = lv1 := rfl
 have e4 : doM 11 lv1.1 3 = lv2 := rfl
 have e5 : inM updM 12 lv2.1 theirB = lv3 := rfl
 have e7 : putM lv3.1 (upOk lv3.1.st.four false uz) (upB lv3.1.st.four false uz) = lv4 := rfl
 have e9 : ({ lv4.1 with q := lv4.1.q.drop (tkN 29 lv4.1.q.length) } : PrQ) = lv5 := rfl
 have eb : inM updM 13 lv5 (List.replicate 19 0) = lv6 := rfl
 simp only [e2] at c2
 simp only [e3] at c3
 simp only [e4] at c4
 simp only [e5] at c5
 simp only [e7] at c7
 simp only [e9] at c9
 simp only [eb] at d2
 clear e2 e3 e4 e5 e7 e9 eb
 have f1 := lv_1
 have f2 := lv_2
 have f3 := lv_3
 have f4 := lv_t
 have f5 := lv_4
 have f6 := lv_w
 obtain ⟨f7, f8⟩ := lv_o
 have f9 := lv_s
 obtain ⟨g1, g2, g3, g4, g5⟩ := lv_6
 rw [f4] at c6
 rw [List.length_replicate] at d2
 obtain ⟨O, hO⟩ : ∃ O, lv4.1.q.take (tkN 29 lv4.1.q.length) = O := ⟨_, rfl⟩
 rw [hO] at c9 f7 f8
 clear hO f4
 obtain ⟨⟨M6, ⟨u6, con6, clo6, last6, up6, dn6⟩⟩, h6⟩ : ∃ B, lv6 = B := ⟨_, rfl⟩
 rw [h6] at d2 d4 d5 g1 g2 g3 g4 g5
 obtain ⟨M5, h5⟩ : ∃ B, lv5 = B := ⟨_, rfl⟩
 rw [h5] at c9 d1 d2 f9
 obtain ⟨⟨M4, k4⟩, h4⟩ : ∃ B, lv4 = B := ⟨_, rfl⟩
 rw [h4] at c7 c8 c9 f5 f6
 obtain ⟨⟨M3, ⟨u3, con3, clo3, last3, up3, dn3⟩⟩, h3⟩ : ∃ B, lv3 = B := ⟨_, rfl⟩
 rw [h3] at c5 c6 c7 f3
 obtain ⟨⟨M2, ⟨u2, con2, clo2, last2, up2, dn2⟩⟩, h2⟩ : ∃ B, lv2 = B := ⟨_, rfl⟩
 rw [h2] at c4 c5 f2
 obtain ⟨⟨M1, ⟨u1, con1, clo1, last1, up1, dn1⟩⟩, h1⟩ : ∃ B, lv1 = B := ⟨_, rfl⟩
 rw [h1] at c3 c4 f1
 obtain ⟨M0, h0⟩ : ∃ B, lv0 = B := ⟨_, rfl⟩
 rw [h0] at c2 c3
 clear h0 h1 h2 h3 h4 h5 h6
 dsimp only at f1 f2 f3 f5 f6 f9 g1 g2 g3 g4 g5
 subst f1 f2 f3 f5 g1 g2
 have g3z : (last6.length : Int) = 21 := by omega
 have g4z : (M6.q.length : Int) = 0 := by omega
 have f6z : (M4.q.length : Int) = 91 := by omega
 have f7z : (O.length : Int) = 29 := by omega
 obtain ⟨T, hT⟩ : ∃ T, theirB = T := ⟨_, rfl⟩
 have c0 := theirs_t
 have co := other_t
 rw [hT] at c0 c5
 clear hT
 dsimp only [locV, locL, opV, otherQ, tkV, tkC] at c0 co c1 c2 c6 d3
 dsimp only [UpS.e, uz, az] at c7
 dsimp only [rsV, rsC, rsP] at c3 c4 c5 d2
 refine Tri_in Tryz.func8 rfl (fun w0 S0 => ?_)
 repeat' (first | refine SD ?_ | (refine KC ?_; refine HO_callq rfl rfl rfl rfl (c1) (fun _ _ => rfl) (trivial) rfl rfl sqA ?_) | (refine KC ?_; refine HO_callq rfl rfl rfl rfl (co) (fun _ _ => rfl) (trivial) rfl rfl sqA ?_) | (refine KC ?_; refine HO_callP rfl rfl rfl rfl (tnew_t) findA (trivial) rfl rfl soA ?_; intro t ht; dsimp only [lca, lna]) | (refine KC ?_; refine HO_callP rfl rfl rfl rfl (c2 _) findA (trivial) rfl rfl soA ?_; intro p hp; dsimp only [lca, lna]) | (refine KC ?_; refine HO_callP rfl rfl rfl rfl (c3 _ _) findA (srcsA) rfl rfl soA ?_; intro z1 hz1; dsimp only [lca, lna]) | (refine KC ?_; refine HO_callP rfl rfl rfl rfl (c4 _ _) findA (srcsA) rfl rfl soA ?_; intro z2 hz2; dsimp only [lca, lna]) | (refine KC ?_; refine HO_callP rfl rfl rfl rfl (c0) findA (trivial) rfl rfl soA ?_; intro ⟨y1, y2⟩ hy; dsimp only [lca, lna]) | (refine KC ?_; refine HO_callP rfl rfl rfl rfl (c5 _ _ _ _) findA (srcsA) rfl rfl soA ?_; intro z3 hz3; dsimp only [lca, lna]) | refine SB ?_ | (refine S2 ?_; intro _) | fail)
 refine HO_open (β := Nat × Nat) 4 rfl rfl rfl (fun w hw => ?_)
 dsimp only [peF, peC, lca, lna]
 repeat' (first | refine SD ?_ | (refine KC ?_; refine HO_callP rfl rfl rfl rfl (c6 _) findA (trivial) rfl rfl soA ?_; intro q hq; dsimp only [lca, lna]) | (refine KC ?_; refine HO_keeps ((Keeps.close (φ := fun _ : Nat × Nat => True) (f := peF p t M3) w trivial findA)) ?_; refine HO_callP rfl rfl rfl rfl (c7 _ _) findA (uz_src) rfl rfl soA ?_; intro v hv; dsimp only [lca, lna]) | (refine KC ?_; refine HO_callP rfl rfl rfl rfl (c8 _ _) findA (trivial) rfl rfl soA ?_; intro v hv; dsimp only [lca, lna]) | (refine KC ?_; refine HO_callP rfl rfl rfl rfl (c9 _ _) findA (trivial) rfl rfl soA ?_; intro ⟨o1, o2⟩ ho; dsimp only [lca, lna]) | (refine KC ?_; refine HO_callP rfl rfl rfl rfl (d1 _ _) findA (trivial) rfl rfl soA ?_; intro v hv; dsimp only [lca, lna]) | refine SB ?_ | (refine S2 ?_; intro _) | fail)
 have hz0 : List.replicate (Int.toNat 19) [Value.int .u8 0] = (List.replicate 19 (0 : UInt8)).map bE := rfl
 have f8z : ((1 : UInt8).toNat : Int) = 1 := rfl
 dsimp only [nilV] at d3
 have d6 := nnumber_t
 dsimp only [nilV] at d6
 repeat' (first | refine SD ?_ | (refine KC ?_; refine HO_callP rfl rfl rfl rfl (d2 _ _ _ _) findA ((AllSrc.own (k := 1) rfl hz0 (AllSrc.at_ 0 rfl trivial))) rfl rfl soA ?_; intro z4 hz4; dsimp only [lca, lna]) | (refine KC ?_; refine HO_callq rfl rfl rfl rfl (c1) (fun _ _ => rfl) (trivial) rfl rfl sqA ?_) | (refine KC ?_; refine HO_callq rfl rfl rfl rfl (d3 _) (fun _ _ => rfl) (trivial) rfl rfl sqA ?_) | (refine KC ?_; refine HO_callP rfl rfl rfl rfl (d4 _ _) findA (trivial) rfl rfl soA ?_; intro v hv; dsimp only [lca, lna]) | (refine KC ?_; refine HO_callP rfl rfl rfl rfl (d5 _ _) findA (trivial) rfl rfl soA ?_; intro v hv; dsimp only [lca, lna]) | (refine KC ?_; refine HO_callq rfl rfl rfl rfl (d6) (fun _ _ => rfl) (trivial) rfl rfl sqA ?_) | refine SB ?_ | (refine S2 ?_; intro _) | fail)
 (refine SRt ?_; refine RU ?_)
 rfl
end Go.Proofs.YteeogabkkblkgaaGreatDoor
