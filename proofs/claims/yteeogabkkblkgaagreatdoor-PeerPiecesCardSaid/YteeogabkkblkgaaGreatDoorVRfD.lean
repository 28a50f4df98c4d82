/- Part of a proof of many texts: what the theorem at its end leans on. -/
import Derived.Test.YteeogabkkblkgaaGreatDoorVPeQ
import Derived.Test.YteeogabkkblkgaaGreatDoorVPeV
import Derived.Test.YteeogabkkblkgaaGreatDoorVAttC
namespace Go.Proofs.YteeogabkkblkgaaGreatDoor
set_option maxHeartbeats 1000000000
set_option linter.unusedVariables false
set_option linter.unusedSimpArgs false
open Go.RowKit
attribute [local irreducible] HC HX HO Tri eP adr
theorem roput_t (o : OpQ) (hi : 0 ≤ o.id ∧ o.id ≤ 4294967295) (hk : openOk o.as o.hold o.id o.paths o.four = true) : Tri Tryz.prog 43 [opV o] [] [] (fun _ : OA => True)
  (fun z => .slice z.1 (opB o).length z.2) (fun z => [ownB z (opB o)]) := by
 obtain ⟨a, h, i, f, p⟩ := o
 dsimp only at hi hk ⊢
 have hh := hk
 unfold openOk at hh
 simp only [decide_eq_true_eq] at hh
 obtain ⟨g1, g2, g3, g4, g5, g6, g7, g8, g9, g10⟩ := hh
 obtain ⟨a, rfl⟩ := Int.eq_ofNat_of_zero_le (show 0 ≤ a by omega)
 obtain ⟨h, rfl⟩ := Int.eq_ofNat_of_zero_le g4
 obtain ⟨i, rfl⟩ := Int.eq_ofNat_of_zero_le hi.1
 obtain ⟨p, rfl⟩ := Int.eq_ofNat_of_zero_le g9
 obtain ⟨a2, ha2, ha2l⟩ : ∃ a2 : Nat, (if (65535 : Int) < (a : Int) then (23456 : Int) else (a : Int)) = (a2 : Int) ∧ a2 < 65536 := by
  by_cases hb : (65535 : Int) < (a : Int)
  ·exact ⟨23456, by rw [if_pos hb]; rfl, by decide⟩
  ·exact ⟨a, by rw [if_neg hb], by omega⟩
 have k3 := rput_t 4 a (by decide) (by omega)
 have k4 := rput_t 2 a2 (by decide) (by omega)
 have k5 := rput_t 2 h (by decide) (by omega)
 have k6 := rput_t 4 i (by decide) (by omega)
 have b1 := be_length 4 a
 have b2 := be_length 2 a2
 have b3 := be_length 2 h
 have b4 := be_length 4 i
 have ep : Value.int .u8 (p : Nat) = Value.int .u8 ((UInt8.ofNat p).toNat : Nat) := by rw [ofN_small (by omega)]
 have ew : Value.int .u8 (IntKind.u8.wrap (p : Nat)) = Value.int .u8 ((UInt8.ofNat p).toNat : Nat) := by rw [wrap_u8 (by omega)]; exact ep
 have eo : opB ⟨a, h, i, f, p⟩ = 4 :: (be 2 a2 ++ (be 2 h ++ (be 4 i ++ (UInt8.ofNat ((opCaps ⟨a, h, i, f, p⟩).length + 2) :: 2 :: UInt8.ofNat (opCaps ⟨a, h, i, f, p⟩).length :: opCaps ⟨a, h, i, f, p⟩)))) := by
  unfold opB
  dsimp only
  rw [ha2]
  rfl
 rw [eo]
 clear hk eo
 have hp4 : p < 4 := by omega
 have hA : a ≤ 4294967295 := by omega
 clear g1 g2 g3 g4 g5 g6 g7 g8 g9 g10
 by_cases h0 : 0 < p
 ·have h0z : (p : Int) > 0 := by omega
  cases f
  ·skip
   have eC : opCaps ⟨a, h, i, false, p⟩ = [1, 4, 0, 1, 0, 1, 69, 4, 0, 1, 1, UInt8.ofNat p] := by simp [opCaps, h0]
   rw [eC]
   obtain ⟨B2, hB2⟩ : ∃ B, be 2 a2 = B := ⟨_, rfl⟩
   obtain ⟨B3, hB3⟩ : ∃ B, be 2 h = B := ⟨_, rfl⟩
   obtain ⟨B4, hB4⟩ : ∃ B, be 4 i = B := ⟨_, rfl⟩
   rw [hB2] at k4 b2 ⊢
   rw [hB3] at k5 b3 ⊢
   rw [hB4] at k6 b4 ⊢
   clear hB2 hB3 hB4
   by_cases hb : (65535 : Int) < (a : Int)
   ·rw [if_pos hb] at ha2
    rw [← ha2] at k4
    have hbz : (a : Int) > 65535 := hb
    refine Tri_in Tryz.func43 rfl (fun w0 S0 => ?_)
    repeat' (first | refine SX ?_ | (refine HO_k 11 rfl ?_; refine HO_appw rfl rfl rfl rfl rfl rfl rfl rfl lenA ?hwf rfl rfl lenA lenA rfl rfl rfl soA ?_; (case hwf => repeat (first | exact WfL.nil | exact WfL.map | apply WfL.append | refine WfL.cons rfl rfl ?_ | assumption)); intro _ _) | (with_reducible refine HO_rw ew ?_) | (with_reducible refine HO_rw ep ?_) | (refine KC ?_; refine HO_call rfl rfl rfl rfl (k3) rfl (trivial) rfl rfl soA ?_; intro ⟨t1, t2⟩ hx; dsimp only [lca, lna]) | (refine KC ?_; refine HO_call rfl rfl rfl rfl (k4) rfl (trivial) rfl rfl soA ?_; intro ⟨u1, u2⟩ hx; dsimp only [lca, lna]) | (refine KC ?_; refine HO_call rfl rfl rfl rfl (k5) rfl (trivial) rfl rfl soA ?_; intro ⟨v1, v2⟩ hx; dsimp only [lca, lna]) | (refine KC ?_; refine HO_call rfl rfl rfl rfl (k6) rfl (trivial) rfl rfl soA ?_; intro ⟨w1, w2⟩ hx; dsimp only [lca, lna]) | refine SB ?_ | (refine S2 ?_; intro _) | fail)
    rename_i A' c'
    (refine SRt ?_; unfold RetQ; refine ⟨(A', c'), trivial, congrArg (fun q => Value.slice A' q c') ?_, Keeps.own_cons Keeps.nil ?_ ?_⟩)
    ·simp only [List.length_cons, List.length_append, List.length_nil, b1, b2, b3, b4]
    ·simp only [List.length_cons, List.length_append, List.length_nil, b1, b2, b3, b4]
    ·simp only [List.length_cons, List.length_append, List.length_nil, b1, b2, b3, b4, List.map_cons, List.map_append, List.append_assoc, List.cons_append, List.nil_append, List.map_nil]
     rfl
   ·rw [if_neg hb] at ha2
    rw [← ha2] at k4
    have hbz : ¬ (a : Int) > 65535 := hb
    refine Tri_in Tryz.func43 rfl (fun w0 S0 => ?_)
    repeat' (first | refine SX ?_ | (refine HO_k 11 rfl ?_; refine HO_appw rfl rfl rfl rfl rfl rfl rfl rfl lenA ?hwf rfl rfl lenA lenA rfl rfl rfl soA ?_; (case hwf => repeat (first | exact WfL.nil | exact WfL.map | apply WfL.append | refine WfL.cons rfl rfl ?_ | assumption)); intro _ _) | (with_reducible refine HO_rw ew ?_) | (with_reducible refine HO_rw ep ?_) | (refine KC ?_; refine HO_call rfl rfl rfl rfl (k3) rfl (trivial) rfl rfl soA ?_; intro ⟨t1, t2⟩ hx; dsimp only [lca, lna]) | (refine KC ?_; refine HO_call rfl rfl rfl rfl (k4) rfl (trivial) rfl rfl soA ?_; intro ⟨u1, u2⟩ hx; dsimp only [lca, lna]) | (refine KC ?_; refine HO_call rfl rfl rfl rfl (k5) rfl (trivial) rfl rfl soA ?_; intro ⟨v1, v2⟩ hx; dsimp only [lca, lna]) | (refine KC ?_; refine HO_call rfl rfl rfl rfl (k6) rfl (trivial) rfl rfl soA ?_; intro ⟨w1, w2⟩ hx; dsimp only [lca, lna]) | refine SB ?_ | (refine S2 ?_; intro _) | fail)
    rename_i A' c'
    (refine SRt ?_; unfold RetQ; refine ⟨(A', c'), trivial, congrArg (fun q => Value.slice A' q c') ?_, Keeps.own_cons Keeps.nil ?_ ?_⟩)
    ·simp only [List.length_cons, List.length_append, List.length_nil, b1, b2, b3, b4]
    ·simp only [List.length_cons, List.length_append, List.length_nil, b1, b2, b3, b4]
    ·simp only [List.length_cons, List.length_append, List.length_nil, b1, b2, b3, b4, List.map_cons, List.map_append, List.append_assoc, List.cons_append, List.nil_append, List.map_nil]
     rfl
  ·skip
   have eC : opCaps ⟨a, h, i, true, p⟩ = 1 :: 4 :: 0 :: 1 :: 0 :: 1 :: 65 :: 4 :: (be 4 a ++ [69, 4, 0, 1, 1, UInt8.ofNat p]) := by simp [opCaps, h0]
   rw [eC]
   obtain ⟨B1, hB1⟩ : ∃ B, be 4 a = B := ⟨_, rfl⟩
   obtain ⟨B2, hB2⟩ : ∃ B, be 2 a2 = B := ⟨_, rfl⟩
   obtain ⟨B3, hB3⟩ : ∃ B, be 2 h = B := ⟨_, rfl⟩
   obtain ⟨B4, hB4⟩ : ∃ B, be 4 i = B := ⟨_, rfl⟩
   rw [hB1] at k3 b1 ⊢
   rw [hB2] at k4 b2 ⊢
   rw [hB3] at k5 b3 ⊢
   rw [hB4] at k6 b4 ⊢
   clear hB2 hB3 hB4
   by_cases hb : (65535 : Int) < (a : Int)
   ·rw [if_pos hb] at ha2
    rw [← ha2] at k4
    have hbz : (a : Int) > 65535 := hb
    refine Tri_in Tryz.func43 rfl (fun w0 S0 => ?_)
    repeat' (first | refine SX ?_ | (refine HO_k 11 rfl ?_; refine HO_appw rfl rfl rfl rfl rfl rfl rfl rfl lenA ?hwf rfl rfl lenA lenA rfl rfl rfl soA ?_; (case hwf => repeat (first | exact WfL.nil | exact WfL.map | apply WfL.append | refine WfL.cons rfl rfl ?_ | assumption)); intro _ _) | (with_reducible refine HO_rw ew ?_) | (with_reducible refine HO_rw ep ?_) | (refine KC ?_; refine HO_call rfl rfl rfl rfl (k3) rfl (trivial) rfl rfl soA ?_; intro ⟨t1, t2⟩ hx; dsimp only [lca, lna]) | (refine KC ?_; refine HO_call rfl rfl rfl rfl (k4) rfl (trivial) rfl rfl soA ?_; intro ⟨u1, u2⟩ hx; dsimp only [lca, lna]) | (refine KC ?_; refine HO_call rfl rfl rfl rfl (k5) rfl (trivial) rfl rfl soA ?_; intro ⟨v1, v2⟩ hx; dsimp only [lca, lna]) | (refine KC ?_; refine HO_call rfl rfl rfl rfl (k6) rfl (trivial) rfl rfl soA ?_; intro ⟨w1, w2⟩ hx; dsimp only [lca, lna]) | refine SB ?_ | (refine S2 ?_; intro _) | fail)
    rename_i A' c'
    (refine SRt ?_; unfold RetQ; refine ⟨(A', c'), trivial, congrArg (fun q => Value.slice A' q c') ?_, Keeps.own_cons Keeps.nil ?_ ?_⟩)
    ·simp only [List.length_cons, List.length_append, List.length_nil, b1, b2, b3, b4]
    ·simp only [List.length_cons, List.length_append, List.length_nil, b1, b2, b3, b4]
    ·simp only [List.length_cons, List.length_append, List.length_nil, b1, b2, b3, b4, List.map_cons, List.map_append, List.append_assoc, List.cons_append, List.nil_append, List.map_nil]
     rfl
   ·rw [if_neg hb] at ha2
    rw [← ha2] at k4
    have hbz : ¬ (a : Int) > 65535 := hb
    refine Tri_in Tryz.func43 rfl (fun w0 S0 => ?_)
    repeat' (first | refine SX ?_ | (refine HO_k 11 rfl ?_; refine HO_appw rfl rfl rfl rfl rfl rfl rfl rfl lenA ?hwf rfl rfl lenA lenA rfl rfl rfl soA ?_; (case hwf => repeat (first | exact WfL.nil | exact WfL.map | apply WfL.append | refine WfL.cons rfl rfl ?_ | assumption)); intro _ _) | (with_reducible refine HO_rw ew ?_) | (with_reducible refine HO_rw ep ?_) | (refine KC ?_; refine HO_call rfl rfl rfl rfl (k3) rfl (trivial) rfl rfl soA ?_; intro ⟨t1, t2⟩ hx; dsimp only [lca, lna]) | (refine KC ?_; refine HO_call rfl rfl rfl rfl (k4) rfl (trivial) rfl rfl soA ?_; intro ⟨u1, u2⟩ hx; dsimp only [lca, lna]) | (refine KC ?_; refine HO_call rfl rfl rfl rfl (k5) rfl (trivial) rfl rfl soA ?_; intro ⟨v1, v2⟩ hx; dsimp only [lca, lna]) | (refine KC ?_; refine HO_call rfl rfl rfl rfl (k6) rfl (trivial) rfl rfl soA ?_; intro ⟨w1, w2⟩ hx; dsimp only [lca, lna]) | refine SB ?_ | (refine S2 ?_; intro _) | fail)
    rename_i A' c'
    (refine SRt ?_; unfold RetQ; refine ⟨(A', c'), trivial, congrArg (fun q => Value.slice A' q c') ?_, Keeps.own_cons Keeps.nil ?_ ?_⟩)
    ·simp only [List.length_cons, List.length_append, List.length_nil, b1, b2, b3, b4]
    ·simp only [List.length_cons, List.length_append, List.length_nil, b1, b2, b3, b4]
    ·simp only [List.length_cons, List.length_append, List.length_nil, b1, b2, b3, b4, List.map_cons, List.map_append, List.append_assoc, List.cons_append, List.nil_append, List.map_nil]
     rfl
 ·obtain rfl : p = 0 := by omega
  cases f
  ·skip
   have eC : opCaps ⟨a, h, i, false, (0 : Nat)⟩ = [1, 4, 0, 1, 0, 1] := by simp [opCaps]
   rw [eC]
   obtain ⟨B2, hB2⟩ : ∃ B, be 2 a2 = B := ⟨_, rfl⟩
   obtain ⟨B3, hB3⟩ : ∃ B, be 2 h = B := ⟨_, rfl⟩
   obtain ⟨B4, hB4⟩ : ∃ B, be 4 i = B := ⟨_, rfl⟩
   rw [hB2] at k4 b2 ⊢
   rw [hB3] at k5 b3 ⊢
   rw [hB4] at k6 b4 ⊢
   clear hB2 hB3 hB4
   by_cases hb : (65535 : Int) < (a : Int)
   ·rw [if_pos hb] at ha2
    rw [← ha2] at k4
    have hbz : (a : Int) > 65535 := hb
    refine Tri_in Tryz.func43 rfl (fun w0 S0 => ?_)
    repeat' (first | refine SX ?_ | (refine HO_k 11 rfl ?_; refine HO_appw rfl rfl rfl rfl rfl rfl rfl rfl lenA ?hwf rfl rfl lenA lenA rfl rfl rfl soA ?_; (case hwf => repeat (first | exact WfL.nil | exact WfL.map | apply WfL.append | refine WfL.cons rfl rfl ?_ | assumption)); intro _ _) | (with_reducible refine HO_rw ew ?_) | (with_reducible refine HO_rw ep ?_) | (refine KC ?_; refine HO_call rfl rfl rfl rfl (k3) rfl (trivial) rfl rfl soA ?_; intro ⟨t1, t2⟩ hx; dsimp only [lca, lna]) | (refine KC ?_; refine HO_call rfl rfl rfl rfl (k4) rfl (trivial) rfl rfl soA ?_; intro ⟨u1, u2⟩ hx; dsimp only [lca, lna]) | (refine KC ?_; refine HO_call rfl rfl rfl rfl (k5) rfl (trivial) rfl rfl soA ?_; intro ⟨v1, v2⟩ hx; dsimp only [lca, lna]) | (refine KC ?_; refine HO_call rfl rfl rfl rfl (k6) rfl (trivial) rfl rfl soA ?_; intro ⟨w1, w2⟩ hx; dsimp only [lca, lna]) | refine SB ?_ | (refine S2 ?_; intro _) | fail)
    rename_i A' c'
    (refine SRt ?_; unfold RetQ; refine ⟨(A', c'), trivial, congrArg (fun q => Value.slice A' q c') ?_, Keeps.own_cons Keeps.nil ?_ ?_⟩)
    ·simp only [List.length_cons, List.length_append, List.length_nil, b1, b2, b3, b4]
    ·simp only [List.length_cons, List.length_append, List.length_nil, b1, b2, b3, b4]
    ·simp only [List.length_cons, List.length_append, List.length_nil, b1, b2, b3, b4, List.map_cons, List.map_append, List.append_assoc, List.cons_append, List.nil_append, List.map_nil]
     rfl
   ·rw [if_neg hb] at ha2
    rw [← ha2] at k4
    have hbz : ¬ (a : Int) > 65535 := hb
    refine Tri_in Tryz.func43 rfl (fun w0 S0 => ?_)
    repeat' (first | refine SX ?_ | (refine HO_k 11 rfl ?_; refine HO_appw rfl rfl rfl rfl rfl rfl rfl rfl lenA ?hwf rfl rfl lenA lenA rfl rfl rfl soA ?_; (case hwf => repeat (first | exact WfL.nil | exact WfL.map | apply WfL.append | refine WfL.cons rfl rfl ?_ | assumption)); intro _ _) | (with_reducible refine HO_rw ew ?_) | (with_reducible refine HO_rw ep ?_) | (refine KC ?_; refine HO_call rfl rfl rfl rfl (k3) rfl (trivial) rfl rfl soA ?_; intro ⟨t1, t2⟩ hx; dsimp only [lca, lna]) | (refine KC ?_; refine HO_call rfl rfl rfl rfl (k4) rfl (trivial) rfl rfl soA ?_; intro ⟨u1, u2⟩ hx; dsimp only [lca, lna]) | (refine KC ?_; refine HO_call rfl rfl rfl rfl (k5) rfl (trivial) rfl rfl soA ?_; intro ⟨v1, v2⟩ hx; dsimp only [lca, lna]) | (refine KC ?_; refine HO_call rfl rfl rfl rfl (k6) rfl (trivial) rfl rfl soA ?_; intro ⟨w1, w2⟩ hx; dsimp only [lca, lna]) | refine SB ?_ | (refine S2 ?_; intro _) | fail)
    rename_i A' c'
    (refine SRt ?_; unfold RetQ; refine ⟨(A', c'), trivial, congrArg (fun q => Value.slice A' q c') ?_, Keeps.own_cons Keeps.nil ?_ ?_⟩)
    ·simp only [List.length_cons, List.length_append, List.length_nil, b1, b2, b3, b4]
    ·simp only [List.length_cons, List.length_append, List.length_nil, b1, b2, b3, b4]
    ·simp only [List.length_cons, List.length_append, List.length_nil, b1, b2, b3, b4, List.map_cons, List.map_append, List.append_assoc, List.cons_append, List.nil_append, List.map_nil]
     rfl
  ·skip
   have eC : opCaps ⟨a, h, i, true, (0 : Nat)⟩ = 1 :: 4 :: 0 :: 1 :: 0 :: 1 :: 65 :: 4 :: be 4 a := by simp [opCaps]
   rw [eC]
   obtain ⟨B1, hB1⟩ : ∃ B, be 4 a = B := ⟨_, rfl⟩
   obtain ⟨B2, hB2⟩ : ∃ B, be 2 a2 = B := ⟨_, rfl⟩
   obtain ⟨B3, hB3⟩ : ∃ B, be 2 h = B := ⟨_, rfl⟩
   obtain ⟨B4, hB4⟩ : ∃ B, be 4 i = B := ⟨_, rfl⟩
   rw [hB1] at k3 b1 ⊢
   rw [hB2] at k4 b2 ⊢
   rw [hB3] at k5 b3 ⊢
   rw [hB4] at k6 b4 ⊢
   clear hB2 hB3 hB4
   by_cases hb : (65535 : Int) < (a : Int)
   ·rw [if_pos hb] at ha2
    rw [← ha2] at k4
    have hbz : (a : Int) > 65535 := hb
    refine Tri_in Tryz.func43 rfl (fun w0 S0 => ?_)
    repeat' (first | refine SX ?_ | (refine HO_k 11 rfl ?_; refine HO_appw rfl rfl rfl rfl rfl rfl rfl rfl lenA ?hwf rfl rfl lenA lenA rfl rfl rfl soA ?_; (case hwf => repeat (first | exact WfL.nil | exact WfL.map | apply WfL.append | refine WfL.cons rfl rfl ?_ | assumption)); intro _ _) | (with_reducible refine HO_rw ew ?_) | (with_reducible refine HO_rw ep ?_) | (refine KC ?_; refine HO_call rfl rfl rfl rfl (k3) rfl (trivial) rfl rfl soA ?_; intro ⟨t1, t2⟩ hx; dsimp only [lca, lna]) | (refine KC ?_; refine HO_call rfl rfl rfl rfl (k4) rfl (trivial) rfl rfl soA ?_; intro ⟨u1, u2⟩ hx; dsimp only [lca, lna]) | (refine KC ?_; refine HO_call rfl rfl rfl rfl (k5) rfl (trivial) rfl rfl soA ?_; intro ⟨v1, v2⟩ hx; dsimp only [lca, lna]) | (refine KC ?_; refine HO_call rfl rfl rfl rfl (k6) rfl (trivial) rfl rfl soA ?_; intro ⟨w1, w2⟩ hx; dsimp only [lca, lna]) | refine SB ?_ | (refine S2 ?_; intro _) | fail)
    rename_i A' c'
    (refine SRt ?_; unfold RetQ; refine ⟨(A', c'), trivial, congrArg (fun q => Value.slice A' q c') ?_, Keeps.own_cons Keeps.nil ?_ ?_⟩)
    ·simp only [List.length_cons, List.length_append, List.length_nil, b1, b2, b3, b4]
    ·simp only [List.length_cons, List.length_append, List.length_nil, b1, b2, b3, b4]
    ·simp only [List.length_cons, List.length_append, List.length_nil, b1, b2, b3, b4, List.map_cons, List.map_append, List.append_assoc, List.cons_append, List.nil_append, List.map_nil]
     rfl
   ·rw [if_neg hb] at ha2
    rw [← ha2] at k4
    have hbz : ¬ (a : Int) > 65535 := hb
    refine Tri_in Tryz.func43 rfl (fun w0 S0 => ?_)
    repeat' (first | refine SX ?_ | (refine HO_k 11 rfl ?_; refine HO_appw rfl rfl rfl rfl rfl rfl rfl rfl lenA ?hwf rfl rfl lenA lenA rfl rfl rfl soA ?_; (case hwf => repeat (first | exact WfL.nil | exact WfL.map | apply WfL.append | refine WfL.cons rfl rfl ?_ | assumption)); intro _ _) | (with_reducible refine HO_rw ew ?_) | (with_reducible refine HO_rw ep ?_) | (refine KC ?_; refine HO_call rfl rfl rfl rfl (k3) rfl (trivial) rfl rfl soA ?_; intro ⟨t1, t2⟩ hx; dsimp only [lca, lna]) | (refine KC ?_; refine HO_call rfl rfl rfl rfl (k4) rfl (trivial) rfl rfl soA ?_; intro ⟨u1, u2⟩ hx; dsimp only [lca, lna]) | (refine KC ?_; refine HO_call rfl rfl rfl rfl (k5) rfl (trivial) rfl rfl soA ?_; intro ⟨v1, v2⟩ hx; dsimp only [lca, lna]) | (refine KC ?_; refine HO_call rfl rfl rfl rfl (k6) rfl (trivial) rfl rfl soA ?_; intro ⟨w1, w2⟩ hx; dsimp only [lca, lna]) | refine SB ?_ | (refine S2 ?_; intro _) | fail)
    rename_i A' c'
    (refine SRt ?_; unfold RetQ; refine ⟨(A', c'), trivial, congrArg (fun q => Value.slice A' q c') ?_, Keeps.own_cons Keeps.nil ?_ ?_⟩)
    ·simp only [List.length_cons, List.length_append, List.length_nil, b1, b2, b3, b4]
    ·simp only [List.length_cons, List.length_append, List.length_nil, b1, b2, b3, b4]
    ·simp only [List.length_cons, List.length_append, List.length_nil, b1, b2, b3, b4, List.map_cons, List.map_append, List.append_assoc, List.cons_append, List.nil_append, List.map_nil]
     rfl
end Go.Proofs.YteeogabkkblkgaaGreatDoor
