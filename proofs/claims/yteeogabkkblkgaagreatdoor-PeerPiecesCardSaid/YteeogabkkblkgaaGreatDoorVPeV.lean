/- Part of a proof of many texts: what the theorem at its end leans on. -/
import Derived.Test.YteeogabkkblkgaaGreatDoorVPeR
namespace Go.Proofs.YteeogabkkblkgaaGreatDoor
set_option maxHeartbeats 1000000000
set_option linter.unusedVariables false
set_option linter.unusedSimpArgs false
open Go.RowKit
attribute [local irreducible] HC HX HO Tri eP adr
def obB (o : OpQ) : List UInt8 := if openOk o.as o.hold o.id o.paths o.four = true then opB o else []
theorem opCaps_len (o : OpQ) : (opCaps o).length ≤ 18 := by
 unfold opCaps
 simp only [List.length_append]
 split <;> split <;> simp [be_length]
theorem opB_len (o : OpQ) : (opB o).length = 12 + (opCaps o).length := by
 unfold opB
 simp [be_length]
 omega
theorem oput_t (o : OpQ) (hi : 0 ≤ o.id ∧ o.id ≤ 4294967295) : Tri Tryz.prog 126 [opV o] [] [] (fun _ : OA => True)
  (fun z => .tuple #[.slice z.1 (obB o).length z.2, .int .i64 (if openOk o.as o.hold o.id o.paths o.four = true then 0 else 40)]) (fun z => [ownB z (obB o)]) := by
 have k1 := check_t o.as o.hold o.id o.paths o.four
 unfold obB
 cases hk : openOk o.as o.hold o.id o.paths o.four with
 | false =>
  rw [hk] at k1
  rw [if_neg (by decide), if_neg (by decide)]
  rw [if_neg (by decide)] at k1
  refine Tri_in Tryz.func126 rfl (fun w0 S0 => ?_)
  repeat' (first | refine SX ?_ | (refine KC ?_; refine HO_callq rfl rfl rfl rfl (k1) (fun _ _ => rfl) (trivial) rfl rfl sqA ?_) | refine SB ?_ | (refine S2 ?_; intro _) | fail)
  (refine SRt ?_; unfold RetQ; refine ⟨(none, 0), trivial, rfl, (Keeps.add (fun w => own_nil w) Keeps.nil)⟩)
 | true =>
  rw [hk] at k1
  rw [if_pos rfl, if_pos rfl]
  rw [if_pos rfl] at k1
  obtain ⟨a, h, i, f, p⟩ := o
  dsimp only at hi k1 hk ⊢
  have hh := hk
  unfold openOk at hh
  simp only [decide_eq_true_eq] at hh
  obtain ⟨g1, g2, g3, g4, g5, g6, g7, g8, g9, g10⟩ := hh
  obtain ⟨a, rfl⟩ := Int.eq_ofNat_of_zero_le (show 0 ≤ a by omega)
  obtain ⟨h, rfl⟩ := Int.eq_ofNat_of_zero_le g4
  obtain ⟨i, rfl⟩ := Int.eq_ofNat_of_zero_le hi.1
  obtain ⟨p, rfl⟩ := Int.eq_ofNat_of_zero_le g9
  have k2 := ocaps_t a (by omega) h i f p (by omega)
  obtain ⟨C, hC⟩ : ∃ C, opCaps ⟨a, h, i, f, p⟩ = C := ⟨_, rfl⟩
  have hCl := opCaps_len ⟨a, h, i, f, p⟩
  rw [hC] at k2 hCl
  have k3 := fun A c => capa_t 2 A c C (by omega)
  obtain ⟨a2, ha2, ha2l⟩ : ∃ a2 : Nat, (if (65535 : Int) < (a : Int) then (23456 : Int) else (a : Int)) = (a2 : Int) ∧ a2 < 65536 := by
   by_cases hb : (65535 : Int) < (a : Int)
   ·exact ⟨23456, by rw [if_pos hb]; rfl, by decide⟩
   ·exact ⟨a, by rw [if_neg hb], by omega⟩
  have eo : opB ⟨a, h, i, f, p⟩ = 4 :: (be 2 a2 ++ (be 2 h ++ (be 4 i ++ (UInt8.ofNat (C.length + 2) :: 2 :: UInt8.ofNat C.length :: C)))) := by
   unfold opB
   dsimp only
   rw [hC, ha2]
   rfl
  rw [eo]
  have k4 := obytes_t 2 a2 (by decide) (by decide) (by omega)
  have k5 := obytes_t 2 h (by decide) (by decide) (by omega)
  have k6 := obytes_t 4 i (by decide) (by decide) (by omega)
  have b2 := be_length 2 a2
  have b3 := be_length 2 h
  have b4 := be_length 4 i
  clear hk g1 g2 g3 g4 g5 g6 g7 g8 g9 g10 eo hC
  obtain ⟨B2, hB2⟩ : ∃ B, be 2 a2 = B := ⟨_, rfl⟩
  obtain ⟨B3, hB3⟩ : ∃ B, be 2 h = B := ⟨_, rfl⟩
  obtain ⟨B4, hB4⟩ : ∃ B, be 4 i = B := ⟨_, rfl⟩
  rw [hB2] at k4 b2 ⊢
  rw [hB3] at k5 b3 ⊢
  rw [hB4] at k6 b4 ⊢
  rw [← ha2] at k4
  clear hB2 hB3 hB4
  obtain ⟨D, hD⟩ : ∃ D, 2 :: UInt8.ofNat C.length :: C = D := ⟨_, rfl⟩
  have hDl : D.length = C.length + 2 := by rw [← hD]; rfl
  rw [hD] at k3 ⊢
  clear hD
  have eB : Value.int .u8 (D.length : Nat) = Value.int .u8 ((UInt8.ofNat (C.length + 2)).toNat : Nat) := by rw [ofN_small (by omega), hDl]
  have e3 : ∀ A1 c1 A2 c2 A3 c3 A4 c4 A5 c5 A6 c6, cat [⟨A1, c1, [4]⟩, ⟨A2, c2, B2⟩, ⟨A3, c3, B3⟩, ⟨A4, c4, B4⟩, ⟨A5, c5, [UInt8.ofNat (C.length + 2)]⟩, ⟨A6, c6, D⟩] = 4 :: (B2 ++ (B3 ++ (B4 ++ (UInt8.ofNat (C.length + 2) :: D)))) := fun _ _ _ _ _ _ _ _ _ _ _ _ => by
   unfold cat
   simp only [List.flatMap_cons, List.flatMap_nil, List.append_nil]
   rfl
  have c3 := fun B A1 c1 A2 c2 A3 c3 A4 c4 A5 c5 A6 c6 => concat_t B 6 6 [⟨A1, c1, [4]⟩, ⟨A2, c2, B2⟩, ⟨A3, c3, B3⟩, ⟨A4, c4, B4⟩, ⟨A5, c5, [UInt8.ofNat (C.length + 2)]⟩, ⟨A6, c6, D⟩] rfl (by simp) (by rw [e3]; simp only [List.length_cons, List.length_append]; omega)
  simp only [e3] at c3
  by_cases hb : (65535 : Int) < (a : Int)
  ·rw [if_pos hb] at k4
   refine Tri_in Tryz.func126 rfl (fun w0 S0 => ?_)
   repeat' (first | refine SX ?_ | (with_reducible refine HO_rw eB ?_) | (refine KC ?_; refine HO_callq rfl rfl rfl rfl (k1) (fun _ _ => rfl) (trivial) rfl rfl sqA ?_) | (refine KC ?_; refine HO_call rfl rfl rfl rfl (k2) rfl (trivial) rfl rfl soA ?_; intro ⟨x1, x2⟩ hx; dsimp only [lca, lna]) | (refine KC ?_; refine HO_call rfl rfl rfl rfl (k3 _ _) rfl (srcsA) rfl rfl soA ?_; intro ⟨y1, y2⟩ hx; dsimp only [lca, lna]) | (refine HC_lex rfl rfl (by decide +kernel) rfl rfl ?_; refine HO_names (l' := [1, 3, 4, 6, 7, 8, 10, 11, 12, 14, 0, 2, 5, 9, 13, 15, 16, 17, 18]) (by decide +kernel) ?_) | (refine HO_3p 0 2 13 (by decide +kernel) rfl rfl rfl (by decide +kernel) ?_ ?_ ?_) | (refine HO_3p 0 5 13 (by decide +kernel) rfl rfl rfl (by decide +kernel) ?_ ?_ ?_) | (refine HO_3p 0 9 13 (by decide +kernel) rfl rfl rfl (by decide +kernel) ?_ ?_ ?_) | (refine HO_2p 2 13 (by decide +kernel) rfl rfl (by decide +kernel) ?_ ?_) | (refine HO_2p 5 13 (by decide +kernel) rfl rfl (by decide +kernel) ?_ ?_) | (refine HO_2p 9 13 (by decide +kernel) rfl rfl (by decide +kernel) ?_ ?_) | (refine HO_2p 0 13 (by decide +kernel) rfl rfl (by decide +kernel) ?_ ?_) | (refine HO_2p 0 2 (by decide +kernel) rfl rfl (by decide +kernel) ?_ ?_) | (refine HO_2p 0 5 (by decide +kernel) rfl rfl (by decide +kernel) ?_ ?_) | (refine HO_2p 0 9 (by decide +kernel) rfl rfl (by decide +kernel) ?_ ?_) | (refine KC ?_; refine HO_call rfl rfl rfl rfl (k4) rfl (trivial) rfl rfl soA ?_; intro ⟨u1, u2⟩ hx; dsimp only [lca, lna]) | (refine KC ?_; refine HO_call rfl rfl rfl rfl (k5) rfl (trivial) rfl rfl soA ?_; intro ⟨v1, v2⟩ hx; dsimp only [lca, lna]) | (refine KC ?_; refine HO_call rfl rfl rfl rfl (k6) rfl (trivial) rfl rfl soA ?_; intro ⟨w1, w2⟩ hx; dsimp only [lca, lna]) | (refine KC ?_; refine HO_call rfl rfl rfl rfl (c3 _ _ _ _ _ _ _ _ _ _ _ _ _) rfl (srcsA) rfl rfl soA ?_; intro ⟨z1, z2⟩ hz; dsimp only [lca, lna]) | refine SB ?_ | (refine S2 ?_; intro _) | fail)
   all_goals (refine SRt ?_; unfold RetQ; refine ⟨(z1, z2), trivial, rfl, permA⟩)
  ·rw [if_neg hb] at k4
   refine Tri_in Tryz.func126 rfl (fun w0 S0 => ?_)
   repeat' (first | refine SX ?_ | (with_reducible refine HO_rw eB ?_) | (refine KC ?_; refine HO_callq rfl rfl rfl rfl (k1) (fun _ _ => rfl) (trivial) rfl rfl sqA ?_) | (refine KC ?_; refine HO_call rfl rfl rfl rfl (k2) rfl (trivial) rfl rfl soA ?_; intro ⟨x1, x2⟩ hx; dsimp only [lca, lna]) | (refine KC ?_; refine HO_call rfl rfl rfl rfl (k3 _ _) rfl (srcsA) rfl rfl soA ?_; intro ⟨y1, y2⟩ hx; dsimp only [lca, lna]) | (refine HC_lex rfl rfl (by decide +kernel) rfl rfl ?_; refine HO_names (l' := [1, 3, 4, 6, 7, 8, 10, 11, 12, 14, 0, 2, 5, 9, 13, 15, 16, 17, 18]) (by decide +kernel) ?_) | (refine HO_3p 0 2 13 (by decide +kernel) rfl rfl rfl (by decide +kernel) ?_ ?_ ?_) | (refine HO_3p 0 5 13 (by decide +kernel) rfl rfl rfl (by decide +kernel) ?_ ?_ ?_) | (refine HO_3p 0 9 13 (by decide +kernel) rfl rfl rfl (by decide +kernel) ?_ ?_ ?_) | (refine HO_2p 2 13 (by decide +kernel) rfl rfl (by decide +kernel) ?_ ?_) | (refine HO_2p 5 13 (by decide +kernel) rfl rfl (by decide +kernel) ?_ ?_) | (refine HO_2p 9 13 (by decide +kernel) rfl rfl (by decide +kernel) ?_ ?_) | (refine HO_2p 0 13 (by decide +kernel) rfl rfl (by decide +kernel) ?_ ?_) | (refine HO_2p 0 2 (by decide +kernel) rfl rfl (by decide +kernel) ?_ ?_) | (refine HO_2p 0 5 (by decide +kernel) rfl rfl (by decide +kernel) ?_ ?_) | (refine HO_2p 0 9 (by decide +kernel) rfl rfl (by decide +kernel) ?_ ?_) | (refine KC ?_; refine HO_call rfl rfl rfl rfl (k4) rfl (trivial) rfl rfl soA ?_; intro ⟨u1, u2⟩ hx; dsimp only [lca, lna]) | (refine KC ?_; refine HO_call rfl rfl rfl rfl (k5) rfl (trivial) rfl rfl soA ?_; intro ⟨v1, v2⟩ hx; dsimp only [lca, lna]) | (refine KC ?_; refine HO_call rfl rfl rfl rfl (k6) rfl (trivial) rfl rfl soA ?_; intro ⟨w1, w2⟩ hx; dsimp only [lca, lna]) | (refine KC ?_; refine HO_call rfl rfl rfl rfl (c3 _ _ _ _ _ _ _ _ _ _ _ _ _) rfl (srcsA) rfl rfl soA ?_; intro ⟨z1, z2⟩ hz; dsimp only [lca, lna]) | refine SB ?_ | (refine S2 ?_; intro _) | fail)
   all_goals (refine SRt ?_; unfold RetQ; refine ⟨(z1, z2), trivial, rfl, permA⟩)
end Go.Proofs.YteeogabkkblkgaaGreatDoor
