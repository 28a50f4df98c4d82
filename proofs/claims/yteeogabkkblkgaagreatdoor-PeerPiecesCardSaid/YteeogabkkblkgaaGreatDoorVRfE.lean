/- Part of a proof of many texts: what the theorem at its end leans on. -/
import Derived.Test.YteeogabkkblkgaaGreatDoorVRfA
import Derived.Test.YteeogabkkblkgaaGreatDoorVPeN
import Derived.Test.YteeogabkkblkgaaGreatDoorVUpd
namespace Go.Proofs.YteeogabkkblkgaaGreatDoor
set_option maxHeartbeats 1000000000
set_option linter.unusedVariables false
set_option linter.unusedSimpArgs false
open Go.RowKit
attribute [local irreducible] HC HX HO Tri eP adr
theorem rsame3_t (k j : Int) (A B : Option Addr) (c d : Nat) (l m : List UInt8) (hl : l.length ≤ 1000000) (hm : m.length ≤ 1000000) : Tri Tryz.prog 22 [mgV k A l.length c, mgV j B m.length d] [arr bE 1 A l, arr bE 1 B m] [] (fun _ : Unit => True) (fun _ => .bool (decide (k = j) && decide (l = m))) (fun _ => []) := by
 dsimp only [mgV]
 refine Tri_in Tryz.func22 rfl (fun w0 S0 => ?_)
 repeat' (first | (refine HO_k 7 rfl ?_; (first | refine HO_b2s (l := l) rfl rfl ⟨_, seeL_ro (List.mem_of_getElem? (i := 0) rfl), arr_raw⟩ rfl rfl rfl rdA ?_ | refine HO_b2s (l := l) rfl rfl ⟨_, seeL_ro (List.mem_of_getElem? (i := 1) rfl), arr_raw⟩ rfl rfl rfl rdA ?_ | refine HO_b2s (l := l) rfl rfl ⟨_, seeL_ro (List.mem_of_getElem? (i := 2) rfl), arr_raw⟩ rfl rfl rfl rdA ?_ | refine HO_b2s (l := l) rfl rfl ⟨_, seeL_ro (List.mem_of_getElem? (i := 3) rfl), arr_raw⟩ rfl rfl rfl rdA ?_)) | (refine HO_k 7 rfl ?_; (first | refine HO_b2s (l := m) rfl rfl ⟨_, seeL_ro (List.mem_of_getElem? (i := 0) rfl), arr_raw⟩ rfl rfl rfl rdA ?_ | refine HO_b2s (l := m) rfl rfl ⟨_, seeL_ro (List.mem_of_getElem? (i := 1) rfl), arr_raw⟩ rfl rfl rfl rdA ?_ | refine HO_b2s (l := m) rfl rfl ⟨_, seeL_ro (List.mem_of_getElem? (i := 2) rfl), arr_raw⟩ rfl rfl rfl rdA ?_ | refine HO_b2s (l := m) rfl rfl ⟨_, seeL_ro (List.mem_of_getElem? (i := 3) rfl), arr_raw⟩ rfl rfl rfl rdA ?_)) | (with_reducible refine HO_rw (congrArg Value.bool (sba_eq _ _)) ?_) | exact HO_seg rfl rfl | refine S1 ?_ | (refine S2 ?_; intro _) | (refine HO_g 2 rfl ?_; apply HO_a1 rfl) | refine S5 ?_ | (intro hb; try replace hb := simB hb; try exact kill hb))
 (refine SRt ?_; refine RU ?_)
 rfl
@[reducible] def rdsS (s : Nat) (x : StQ) (z dA : OA) : List SL := [cel s 46 [.slice z.1 x.b.length z.2, .int .i64 x.n.c, .int .i64 x.n.s, .slice dA.1 x.n.d.length dA.2], ownB z x.b]
theorem rsfeedS_t (s : Nat) (x : StQ) (hx : x.b.length ≤ 65536) (hn : x.n.c = 0) (z dA : OA) (A : Option Addr) (c : Nat) (l : List UInt8) (hl : l.length ≤ 1000000) :
  Tri Tryz.prog 19 [.pointer (some ⟨s, 0, none⟩), .slice A l.length c] [arr bE 1 A l] (rdsS s x z dA) (fun _ : OA => True) (fun _ => .int .i64 (feedM x l).2) (fun y => rdsS s (feedM x l).1 y dA) := by
 unfold feedM
 rw [if_neg (by omega)]
 by_cases h2 : 65536 - (x.b.length : Int) < (l.length : Int)
 ·rw [if_pos h2]
  have h2z : (x.b.length : Int) + (l.length : Int) > 65536 := by omega
  dsimp only [rdsS]
  refine Tri_in Tryz.func19 rfl (fun w0 S0 => ?_)
  repeat' (first | refine SX ?_ | refine SB ?_ | (refine T2 ?_; intros) | fail)
  (refine SRt ?_; unfold RetQ; refine ⟨z, trivial, rfl, permA⟩)
 ·rw [if_neg h2]
  have h2z : ¬ (x.b.length : Int) + (l.length : Int) > 65536 := by omega
  have w1z : 0 + x.b.length + l.length = (x.b ++ l).length := by rw [List.length_append]; omega
  have w2z : [] ++ x.b.map bE ++ l.map bE = (x.b ++ l).map bE := by rw [List.nil_append, List.map_append]
  dsimp only [rdsS]
  refine Tri_in Tryz.func19 rfl (fun w0 S0 => ?_)
  repeat' (first | refine SX ?_ | refine SB ?_ | (refine T2 ?_; intros) | fail)
  rename_i A1 c1 A' c'
  rw [w1z, w2z]
  (refine SRt ?_; unfold RetQ; refine ⟨(A', c'), trivial, rfl, permA⟩)
theorem rsnextS_t (s : Nat) (x : StQ) (hx : x.b.length ≤ 65536) (hn : x.n.c = 0) (z dA : OA) :
  Tri Tryz.prog 21 [.pointer (some ⟨s, 0, none⟩)] [] (rdsS s x z dA) (fun _ : OA × OA × OA × OA => True)
   (fun y => .tuple #[mgV (mgK (nextM x).2.1) y.1.1 (mgB (nextM x).2.1).length y.1.2, .bool (nextM x).2.1.isSome, noV (nextM x).2.2 y.2.1.1 y.2.1.2])
   (fun y => rdsS s (nextM x).1 y.2.2.1 y.2.2.2 ++ [ownB y.1 (mgB (nextM x).2.1), ownB y.2.1 (nextM x).2.2.d]) := by
 dsimp only [rdsS]
 refine Tri_know (C := x.b.length ≤ z.2) (fun w h => own_cap 1 rfl h) (fun hc => ?_)
 have c2 := rhead_t z.1 z.2 x.b (by omega) hc
 have hd2 := headM_d x.b
 by_cases h2 : (headM x.b).2.2.c ≠ 0
 ·rw [next_1 hn h2]
  obtain ⟨⟨K, n, N⟩, hH⟩ : ∃ h, headM x.b = h := ⟨_, rfl⟩
  rw [hH] at c2 h2 hd2 ⊢
  dsimp only [mgK, mgB, mgV, noV, Option.isSome] at c2 h2 hd2 ⊢
  refine Tri_in Tryz.func21 rfl (fun w0 S0 => ?_)
  repeat' (first | refine SK ?_ | refine SD ?_ | (refine KC ?_; refine HO_call rfl rfl rfl rfl (c2) rfl (srcsA) rfl rfl soA ?_; intro ⟨yA, yc⟩ hy; dsimp only [lca, lna]) | refine SB ?_ | (refine S2 ?_; intro _) | fail)
  (refine SRt ?_; unfold RetQ; refine ⟨((none, 0), (yA, yc), (none, 0), (yA, yc)), trivial, rfl, (by
   refine Keeps.comp (b := [cel s 46 [.slice none 0 0, .int .i64 N.c, .int .i64 N.s, .slice yA N.d.length yc], ownB (yA, yc) N.d]) permA ?_
   exact Keeps.pick 0 rfl rfl (Keeps.add (fun w => own_nil w) (Keeps.add (fun w => own_nil w) Keeps.refl)))⟩)
 have h2 : (headM x.b).2.2.c = 0 := by omega
 by_cases h3 : (headM x.b).1 = 0 ∨ (x.b.length : Int) < (headM x.b).2.1
 ·rw [next_2 hn h2 h3]
  obtain ⟨⟨K, n, N⟩, hH⟩ : ∃ h, headM x.b = h := ⟨_, rfl⟩
  rw [hH] at c2 h2 h3
  dsimp only [mgK, mgB, mgV, noV, Option.isSome] at c2 h2 h3 ⊢
  rcases Decidable.em (K = 0) with hK | hK
  ·refine Tri_in Tryz.func21 rfl (fun w0 S0 => ?_)
   repeat' (first | refine SK ?_ | refine SD ?_ | (refine KC ?_; refine HO_call rfl rfl rfl rfl (c2) rfl (srcsA) rfl rfl soA ?_; intro ⟨yA, yc⟩ hy; dsimp only [lca, lna]) | refine SB ?_ | (refine S2 ?_; intro _) | fail)
   (refine SRt ?_; unfold RetQ; refine ⟨((none, 0), (none, 0), z, dA), trivial, rfl, (by
    refine Keeps.comp (b := [cel s 46 [.slice z.1 x.b.length z.2, .int .i64 x.n.c, .int .i64 x.n.s, .slice dA.1 x.n.d.length dA.2], ownB z x.b]) permA ?_
    exact Keeps.pick 0 rfl rfl (Keeps.pick 0 rfl rfl (Keeps.add (fun w => own_nil w) (Keeps.add (fun w => own_nil w) Keeps.refl))))⟩)
  ·have hlt : (x.b.length : Int) < n := h3.resolve_left hK
   refine Tri_in Tryz.func21 rfl (fun w0 S0 => ?_)
   repeat' (first | refine SK ?_ | refine SD ?_ | (refine KC ?_; refine HO_call rfl rfl rfl rfl (c2) rfl (srcsA) rfl rfl soA ?_; intro ⟨yA, yc⟩ hy; dsimp only [lca, lna]) | refine SB ?_ | (refine S2 ?_; intro _) | fail)
   (refine SRt ?_; unfold RetQ; refine ⟨((none, 0), (none, 0), z, dA), trivial, rfl, (by
    refine Keeps.comp (b := [cel s 46 [.slice z.1 x.b.length z.2, .int .i64 x.n.c, .int .i64 x.n.s, .slice dA.1 x.n.d.length dA.2], ownB z x.b]) permA ?_
    exact Keeps.pick 0 rfl rfl (Keeps.pick 0 rfl rfl (Keeps.add (fun w => own_nil w) (Keeps.add (fun w => own_nil w) Keeps.refl))))⟩)
 ·rw [next_3 hn h2 h3]
  have h4 := headM_n x.b (fun e => h3 (.inl e))
  obtain ⟨⟨K, n, N⟩, hH⟩ : ∃ h, headM x.b = h := ⟨_, rfl⟩
  rw [hH] at c2 h2 h3 h4 ⊢
  dsimp only at h4 h3 h2
  obtain ⟨q, rfl⟩ := Int.eq_ofNat_of_zero_le (show 0 ≤ n by omega)
  have hK : ¬ K = 0 := fun e => h3 (.inl e)
  have hq : 19 ≤ q ∧ q ≤ x.b.length := by omega
  have el : (x.b.take ((q : Int).toNat)).drop 19 = (x.b.drop 19).take (q - 19) := by rw [Int.toNat_natCast, List.drop_take]
  have hl1 : ((x.b.drop 19).take (q - 19)).length = q - 19 := by rw [List.length_take, List.length_drop]; omega
  have hl2 : (x.b.drop q).length = x.b.length - q := List.length_drop
  rw [el, Int.toNat_natCast]
  dsimp only [mgK, mgB, mgV, noV, Option.isSome] at c2 h2 h3 ⊢
  refine Tri_in Tryz.func21 rfl (fun w0 S0 => ?_)
  repeat' (first | refine SK ?_ | refine SD ?_ | (refine KC ?_; refine HO_call rfl rfl rfl rfl (c2) rfl (srcsA) rfl rfl soA ?_; intro ⟨yA, yc⟩ hy; dsimp only [lca, lna]) | (refine HO_k 11 rfl ?_; refine HO_app (k := 0) (k2 := 6) (l2 := ((x.b.drop 19).take (q - 19)).map bE) rfl rfl rfl rfl rfl rfl rfl rfl ⟨_, rfl, fun _ S w h => (fun S w (h : (ownB z x.b).p S w) => arr_raw S w (arr_cut z.2 19 (q - 19) (fun e => by omega) S w (own_byte S w h))) S w h⟩ lenA WfL.map rfl rfl lenA lenA rfl rfl rfl soA ?_; intro _ _) | (refine HO_k 11 rfl ?_; refine HO_app (k := 0) (k2 := 8) (l2 := (x.b.drop q).map bE) rfl rfl rfl rfl rfl rfl rfl rfl ⟨_, rfl, fun _ S w h => (fun S w (h : (ownB z x.b).p S w) => arr_raw S w (arr_drop z.2 q (fun e => by omega) S w (own_byte S w h))) S w h⟩ lenA WfL.map rfl rfl lenA lenA rfl rfl rfl soA ?_; intro _ _) | refine SB ?_ | (refine S2 ?_; intro _) | fail)
  rename_i A1 c1 b8 bb A' c'
  have w1z : 0 + (Int.toNat (q : Nat) - Int.toNat 19) = ((x.b.drop 19).take (q - 19)).length := by rw [hl1]; simp
  have w2z : 0 + (Int.toNat (x.b.length : Nat) - Int.toNat (q : Nat)) = (x.b.drop q).length := by rw [hl2]; simp
  rw [w1z, w2z]
  simp only [List.nil_append]
  (refine SRt ?_; unfold RetQ; refine ⟨((A1, c1), (none, 0), (A', c'), dA), trivial, rfl, (by
   refine Keeps.comp (b := [cel s 46 [.slice A' (x.b.drop q).length c', .int .i64 x.n.c, .int .i64 x.n.s, .slice dA.1 x.n.d.length dA.2], ownB (A', c') (x.b.drop q), ownB (A1, c1) ((x.b.drop 19).take (q - 19))]) permA ?_
   exact Keeps.pick 0 rfl rfl (Keeps.pick 0 rfl rfl (Keeps.pick 0 rfl rfl (Keeps.add (fun w => own_nil w) Keeps.refl))))⟩)
@[reducible] def rdsP (s : Nat) (e0 e1 e2 e3 e4 e5 e6 e7 e8 e9 e10 e11 f0 f1 : Value) (x : StQ) (z dA : OA) : List SL := [cel s 89 [e0, e1, e2, e3, e4, e5, e6, e7, e8, e9, e10, e11, .slice z.1 x.b.length z.2, .int .i64 x.n.c, .int .i64 x.n.s, .slice dA.1 x.n.d.length dA.2, f0, f1], ownB z x.b]
theorem rsfeedP_t (s : Nat) (e0 e1 e2 e3 e4 e5 e6 e7 e8 e9 e10 e11 f0 f1 : Value) (x : StQ) (hx : x.b.length ≤ 65536) (hn : x.n.c = 0) (z dA : OA) (A : Option Addr) (c : Nat) (l : List UInt8) (hl : l.length ≤ 1000000) :
  Tri Tryz.prog 19 [.pointer (some ⟨s, 12, none⟩), .slice A l.length c] [arr bE 1 A l] (rdsP s e0 e1 e2 e3 e4 e5 e6 e7 e8 e9 e10 e11 f0 f1 x z dA) (fun _ : OA => True) (fun _ => .int .i64 (feedM x l).2) (fun y => rdsP s e0 e1 e2 e3 e4 e5 e6 e7 e8 e9 e10 e11 f0 f1 (feedM x l).1 y dA) := by
 unfold feedM
 rw [if_neg (by omega)]
 by_cases h2 : 65536 - (x.b.length : Int) < (l.length : Int)
 ·rw [if_pos h2]
  have h2z : (x.b.length : Int) + (l.length : Int) > 65536 := by omega
  dsimp only [rdsP]
  refine Tri_in Tryz.func19 rfl (fun w0 S0 => ?_)
  repeat' (first | refine SX ?_ | refine SB ?_ | (refine T2 ?_; intros) | fail)
  (refine SRt ?_; unfold RetQ; refine ⟨z, trivial, rfl, permA⟩)
 ·rw [if_neg h2]
  have h2z : ¬ (x.b.length : Int) + (l.length : Int) > 65536 := by omega
  have w1z : 0 + x.b.length + l.length = (x.b ++ l).length := by rw [List.length_append]; omega
  have w2z : [] ++ x.b.map bE ++ l.map bE = (x.b ++ l).map bE := by rw [List.nil_append, List.map_append]
  dsimp only [rdsP]
  refine Tri_in Tryz.func19 rfl (fun w0 S0 => ?_)
  repeat' (first | refine SX ?_ | refine SB ?_ | (refine T2 ?_; intros) | fail)
  rename_i A1 c1 A' c'
  rw [w1z, w2z]
  (refine SRt ?_; unfold RetQ; refine ⟨(A', c'), trivial, rfl, permA⟩)
theorem rsnextP_t (s : Nat) (e0 e1 e2 e3 e4 e5 e6 e7 e8 e9 e10 e11 f0 f1 : Value) (x : StQ) (hx : x.b.length ≤ 65536) (hn : x.n.c = 0) (z dA : OA) :
  Tri Tryz.prog 21 [.pointer (some ⟨s, 12, none⟩)] [] (rdsP s e0 e1 e2 e3 e4 e5 e6 e7 e8 e9 e10 e11 f0 f1 x z dA) (fun _ : OA × OA × OA × OA => True)
   (fun y => .tuple #[mgV (mgK (nextM x).2.1) y.1.1 (mgB (nextM x).2.1).length y.1.2, .bool (nextM x).2.1.isSome, noV (nextM x).2.2 y.2.1.1 y.2.1.2])
   (fun y => rdsP s e0 e1 e2 e3 e4 e5 e6 e7 e8 e9 e10 e11 f0 f1 (nextM x).1 y.2.2.1 y.2.2.2 ++ [ownB y.1 (mgB (nextM x).2.1), ownB y.2.1 (nextM x).2.2.d]) := by
 dsimp only [rdsP]
 refine Tri_know (C := x.b.length ≤ z.2) (fun w h => own_cap 1 rfl h) (fun hc => ?_)
 have c2 := rhead_t z.1 z.2 x.b (by omega) hc
 have hd2 := headM_d x.b
 by_cases h2 : (headM x.b).2.2.c ≠ 0
 ·rw [next_1 hn h2]
  obtain ⟨⟨K, n, N⟩, hH⟩ : ∃ h, headM x.b = h := ⟨_, rfl⟩
  rw [hH] at c2 h2 hd2 ⊢
  dsimp only [mgK, mgB, mgV, noV, Option.isSome] at c2 h2 hd2 ⊢
  refine Tri_in Tryz.func21 rfl (fun w0 S0 => ?_)
  repeat' (first | refine SK ?_ | refine SD ?_ | (refine KC ?_; refine HO_call rfl rfl rfl rfl (c2) rfl (srcsA) rfl rfl soA ?_; intro ⟨yA, yc⟩ hy; dsimp only [lca, lna]) | refine SB ?_ | (refine S2 ?_; intro _) | fail)
  (refine SRt ?_; unfold RetQ; refine ⟨((none, 0), (yA, yc), (none, 0), (yA, yc)), trivial, rfl, (by
   refine Keeps.comp (b := [cel s 89 [e0, e1, e2, e3, e4, e5, e6, e7, e8, e9, e10, e11, .slice none 0 0, .int .i64 N.c, .int .i64 N.s, .slice yA N.d.length yc, f0, f1], ownB (yA, yc) N.d]) permA ?_
   exact Keeps.pick 0 rfl rfl (Keeps.add (fun w => own_nil w) (Keeps.add (fun w => own_nil w) Keeps.refl)))⟩)
 have h2 : (headM x.b).2.2.c = 0 := by omega
 by_cases h3 : (headM x.b).1 = 0 ∨ (x.b.length : Int) < (headM x.b).2.1
 ·rw [next_2 hn h2 h3]
  obtain ⟨⟨K, n, N⟩, hH⟩ : ∃ h, headM x.b = h := ⟨_, rfl⟩
  rw [hH] at c2 h2 h3
  dsimp only [mgK, mgB, mgV, noV, Option.isSome] at c2 h2 h3 ⊢
  rcases Decidable.em (K = 0) with hK | hK
  ·refine Tri_in Tryz.func21 rfl (fun w0 S0 => ?_)
   repeat' (first | refine SK ?_ | refine SD ?_ | (refine KC ?_; refine HO_call rfl rfl rfl rfl (c2) rfl (srcsA) rfl rfl soA ?_; intro ⟨yA, yc⟩ hy; dsimp only [lca, lna]) | refine SB ?_ | (refine S2 ?_; intro _) | fail)
   (refine SRt ?_; unfold RetQ; refine ⟨((none, 0), (none, 0), z, dA), trivial, rfl, (by
    refine Keeps.comp (b := [cel s 89 [e0, e1, e2, e3, e4, e5, e6, e7, e8, e9, e10, e11, .slice z.1 x.b.length z.2, .int .i64 x.n.c, .int .i64 x.n.s, .slice dA.1 x.n.d.length dA.2, f0, f1], ownB z x.b]) permA ?_
    exact Keeps.pick 0 rfl rfl (Keeps.pick 0 rfl rfl (Keeps.add (fun w => own_nil w) (Keeps.add (fun w => own_nil w) Keeps.refl))))⟩)
  ·have hlt : (x.b.length : Int) < n := h3.resolve_left hK
   refine Tri_in Tryz.func21 rfl (fun w0 S0 => ?_)
   repeat' (first | refine SK ?_ | refine SD ?_ | (refine KC ?_; refine HO_call rfl rfl rfl rfl (c2) rfl (srcsA) rfl rfl soA ?_; intro ⟨yA, yc⟩ hy; dsimp only [lca, lna]) | refine SB ?_ | (refine S2 ?_; intro _) | fail)
   (refine SRt ?_; unfold RetQ; refine ⟨((none, 0), (none, 0), z, dA), trivial, rfl, (by
    refine Keeps.comp (b := [cel s 89 [e0, e1, e2, e3, e4, e5, e6, e7, e8, e9, e10, e11, .slice z.1 x.b.length z.2, .int .i64 x.n.c, .int .i64 x.n.s, .slice dA.1 x.n.d.length dA.2, f0, f1], ownB z x.b]) permA ?_
    exact Keeps.pick 0 rfl rfl (Keeps.pick 0 rfl rfl (Keeps.add (fun w => own_nil w) (Keeps.add (fun w => own_nil w) Keeps.refl))))⟩)
 ·rw [next_3 hn h2 h3]
  have h4 := headM_n x.b (fun e => h3 (.inl e))
  obtain ⟨⟨K, n, N⟩, hH⟩ : ∃ h, headM x.b = h := ⟨_, rfl⟩
  rw [hH] at c2 h2 h3 h4 ⊢
  dsimp only at h4 h3 h2
  obtain ⟨q, rfl⟩ := Int.eq_ofNat_of_zero_le (show 0 ≤ n by omega)
  have hK : ¬ K = 0 := fun e => h3 (.inl e)
  have hq : 19 ≤ q ∧ q ≤ x.b.length := by omega
  have el : (x.b.take ((q : Int).toNat)).drop 19 = (x.b.drop 19).take (q - 19) := by rw [Int.toNat_natCast, List.drop_take]
  have hl1 : ((x.b.drop 19).take (q - 19)).length = q - 19 := by rw [List.length_take, List.length_drop]; omega
  have hl2 : (x.b.drop q).length = x.b.length - q := List.length_drop
  rw [el, Int.toNat_natCast]
  dsimp only [mgK, mgB, mgV, noV, Option.isSome] at c2 h2 h3 ⊢
  refine Tri_in Tryz.func21 rfl (fun w0 S0 => ?_)
  repeat' (first | refine SK ?_ | refine SD ?_ | (refine KC ?_; refine HO_call rfl rfl rfl rfl (c2) rfl (srcsA) rfl rfl soA ?_; intro ⟨yA, yc⟩ hy; dsimp only [lca, lna]) | (refine HO_k 11 rfl ?_; refine HO_app (k := 0) (k2 := 6) (l2 := ((x.b.drop 19).take (q - 19)).map bE) rfl rfl rfl rfl rfl rfl rfl rfl ⟨_, rfl, fun _ S w h => (fun S w (h : (ownB z x.b).p S w) => arr_raw S w (arr_cut z.2 19 (q - 19) (fun e => by omega) S w (own_byte S w h))) S w h⟩ lenA WfL.map rfl rfl lenA lenA rfl rfl rfl soA ?_; intro _ _) | (refine HO_k 11 rfl ?_; refine HO_app (k := 0) (k2 := 8) (l2 := (x.b.drop q).map bE) rfl rfl rfl rfl rfl rfl rfl rfl ⟨_, rfl, fun _ S w h => (fun S w (h : (ownB z x.b).p S w) => arr_raw S w (arr_drop z.2 q (fun e => by omega) S w (own_byte S w h))) S w h⟩ lenA WfL.map rfl rfl lenA lenA rfl rfl rfl soA ?_; intro _ _) | refine SB ?_ | (refine S2 ?_; intro _) | fail)
  rename_i A1 c1 b8 bb A' c'
  have w1z : 0 + (Int.toNat (q : Nat) - Int.toNat 19) = ((x.b.drop 19).take (q - 19)).length := by rw [hl1]; simp
  have w2z : 0 + (Int.toNat (x.b.length : Nat) - Int.toNat (q : Nat)) = (x.b.drop q).length := by rw [hl2]; simp
  rw [w1z, w2z]
  simp only [List.nil_append]
  (refine SRt ?_; unfold RetQ; refine ⟨((A1, c1), (none, 0), (A', c'), dA), trivial, rfl, (by
   refine Keeps.comp (b := [cel s 89 [e0, e1, e2, e3, e4, e5, e6, e7, e8, e9, e10, e11, .slice A' (x.b.drop q).length c', .int .i64 x.n.c, .int .i64 x.n.s, .slice dA.1 x.n.d.length dA.2, f0, f1], ownB (A', c') (x.b.drop q), ownB (A1, c1) ((x.b.drop 19).take (q - 19))]) permA ?_
   exact Keeps.pick 0 rfl rfl (Keeps.pick 0 rfl rfl (Keeps.pick 0 rfl rfl (Keeps.add (fun w => own_nil w) Keeps.refl))))⟩)
end Go.Proofs.YteeogabkkblkgaaGreatDoor
