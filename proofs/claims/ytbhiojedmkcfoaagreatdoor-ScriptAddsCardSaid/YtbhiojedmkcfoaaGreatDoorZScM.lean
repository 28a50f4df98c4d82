/- Part of a proof of many texts: what the theorem at its end leans on. -/
import Derived.Test.YtbhiojedmkcfoaaGreatDoorZScE
import Derived.Test.YtbhiojedmkcfoaaGreatDoorZScP
namespace Go.Proofs.YtbhiojedmkcfoaaGreatDoor
set_option linter.unusedVariables false
set_option linter.unusedSimpArgs false
open Go.RowKit
attribute [local irreducible] HC HX HO Tri eP adr
@[reducible] def TSR : Nat := 188
@[reducible] def rsP (b b1 : Nat) (x : OA) (bad wr : Bool) (l : List UInt8) : List SL := cel b TSR [pt b1, .bool wr] :: rdP b1 x.1 x.2 bad l
set_option maxHeartbeats 16000000 in
theorem rpfx_t (b b1 : Nat) (x : OA) (bad wr : Bool) (l : List UInt8) (hb : l.length ≤ 1000000000) (hc : l.length ≤ x.2) :
  Tri Tryz.prog 217 [pt b] [] (rsP b b1 x bad wr l) (fun y : OA => (pfxF bad wr l).2.2.2.length ≤ y.2) (fun _ => pfV (pfxF bad wr l).1.1 (pfxF bad wr l).1.2) (fun y => rsP b b1 y (pfxF bad wr l).2.1 (pfxF bad wr l).2.2.1 (pfxF bad wr l).2.2.2) := by
 have hn := nnum_t b1 x.1 x.2 bad l 1 (by decide) hb hc
 have hk := nget_lt bad l
 have hl1 := rdB_len bad l 1
 obtain ⟨k, hk1⟩ : ∃ k : Nat, (ngetR (rdB bad l 1).1).1 = k := ⟨_, (Int.toNat_of_nonneg hk.1).symm⟩
 unfold pfxF
 dsimp only
 rw [hk1] at hn hk ⊢
 rw [Int.toNat_natCast]
 obtain ⟨⟨o1, bad1, l1⟩, hr1⟩ : ∃ r, rdB bad l 1 = r := ⟨_, rfl⟩
 rw [hr1] at hn hl1 ⊢
 dsimp only at hn hl1 ⊢
 have hy := fun A c (h : l1.length ≤ c) => nbytes_t b1 A c bad1 l1 (((k + 7) / 8 : Nat) : Int) (by omega) h
 have hl2 := rdB_len bad1 l1 (((k + 7) / 8 : Nat) : Int)
 obtain ⟨⟨o2, bad2, l2⟩, hr2⟩ : ∃ r, rdB bad1 l1 (((k + 7) / 8 : Nat) : Int) = r := ⟨_, rfl⟩
 rw [hr2] at hy hl2 ⊢
 dsimp only at hy hl2 ⊢
 have h8 := quo8b k (by omega)
 dsimp only [rsP, rdP] at hn hy ⊢
 refine Tri_of (N := Tryz.f217.ntmps) (c := bodyOf Tryz.f217) Tryz.func217 rfl rfl rfl rfl (fun w0 S0 => ?_)
 repeat' (first | refine SW ?_ | refine SD ?_ | (refine HO_k 12 rfl ?_; refine HO_mv 3 rfl rfl ?_; refine HO_mv 3 rfl rfl ?_; refine HO_call rfl rfl rfl rfl (hn) rfl (trivial) rfl rfl soA ?_; intro x1 hx1; dsimp only [lca, lna]) | (with_reducible refine HO_rw (congrArg (Value.int .i64) h8) ?_) | (refine HO_k 12 rfl ?_; refine HO_call rfl rfl rfl rfl (hy _ _ hx1) rfl (trivial) rfl rfl soA ?_; intro x2 hx2; dsimp only [lca, lna]) | (with_reducible refine HO_u8n ?_) | (refine HO_k 11 rfl ?_; refine HO_appw rfl rfl rfl rfl rfl rfl rfl rfl ?h1 ?h2 rfl rfl ?h3 ?h4 rfl rfl rfl ?h5 ?_; (case h1 => simp only [List.length_append, List.length_map, List.length_cons, List.length_nil, be_length]); (case h2 => repeat (first | exact WfL.nil | exact WfL.map | apply WfL.append | refine WfL.cons rfl rfl ?_ | assumption)); (case h3 => (try simp only [List.length_append, List.length_map, List.length_cons, List.length_nil, be_length]); (try omega)); (case h4 => (try simp only [List.length_append, List.length_map, List.length_cons, List.length_nil, be_length]); (try omega)); (case h5 => exact soA); intro _ _) | exact HO_seg rfl rfl | refine S1 ?_ | (refine S2 ?_; intro _) | (refine S3 ?_; intro _ _) | (refine S4 ?_; intro _ _ _) | (refine HO_g 2 rfl ?_; first | apply HO_a1 rfl | apply HO_o1 rfl) | refine S5 ?_ | (intro hb; try replace hb := simB hb; try exact kill hb))
 rename_i b2 b3 A' c'
 obtain ⟨bits, hbits⟩ : ∃ bits, UInt8.ofNat k :: o2 = bits := ⟨_, rfl⟩
 have hlen : 1 + o2.length = bits.length := by rw [← hbits, List.length_cons]; omega
 have hbe : [[Value.int .u8 (k : Int)]] ++ List.map bE o2 = bits.map bE := by rw [← hbits]; simp [bE]; omega
 have hb33 : bits.length ≤ 100000 := by omega
 rw [hbits, hlen, hbe]
 cases hg : pfG bits with
 | none =>
  have hG := pget_bad A' c' bits hb33 hg
  have hP := pput_t 0 (by decide) 0 (by decide)
  dsimp only [pfV] at hG hP
  dsimp only [pfO, pfV, Option.isNone]
  cases wr
  all_goals
   repeat' (first | refine SW ?_ | refine SD ?_ | (refine HO_k 12 rfl ?_; refine HO_callq rfl rfl rfl rfl (hG) (fun _ _ => rfl) (srcsA) rfl rfl sqA ?_) | (refine HO_k 12 rfl ?_; refine HO_call rfl rfl rfl rfl (hP) rfl (trivial) rfl rfl soA ?_; intro x3 hx3; dsimp only [lca, lna]) | exact HO_seg rfl rfl | refine S1 ?_ | (refine S2 ?_; intro _) | (refine S3 ?_; intro _ _) | (refine S4 ?_; intro _ _ _) | (refine HO_g 2 rfl ?_; first | apply HO_a1 rfl | apply HO_o1 rfl) | refine S5 ?_ | (intro hb; try replace hb := simB hb; try exact kill hb))
   (refine SR ?_; unfold RetQ; refine ⟨x2.2, hx2.2, rfl, permA⟩)
 | some y =>
  obtain ⟨a, q⟩ := y
  have hok := pfG_ok hg
  have hG := pget_t A' c' bits hb33 a q hg
  have hP := pput_t a hok.1 q hok.2
  have hE := fun A1 A2 c1 c2 => bequal_t A1 A2 c1 c2 bits (pfB a q)
  dsimp only [pfV] at hG hP
  dsimp only [pfO, pfV, Option.isNone]
  clear hok
  cases wr
  all_goals
   repeat' (first | refine SW ?_ | refine SD ?_ | (refine HO_k 12 rfl ?_; refine HO_callq rfl rfl rfl rfl (hG) (fun _ _ => rfl) (srcsA) rfl rfl sqA ?_) | (refine HO_k 12 rfl ?_; refine HO_call rfl rfl rfl rfl (hP) rfl (trivial) rfl rfl soA ?_; intro x3 hx3; dsimp only [lca, lna]) | (refine HO_k 12 rfl ?_; refine HO_callq rfl rfl rfl rfl (hE _ _ _ _) (fun _ _ => rfl) (srcsA) rfl rfl sqA ?_) | exact HO_seg rfl rfl | refine S1 ?_ | (refine S2 ?_; intro _) | (refine S3 ?_; intro _ _) | (refine S4 ?_; intro _ _ _) | (refine HO_g 2 rfl ?_; first | apply HO_a1 rfl | apply HO_o1 rfl) | refine S5 ?_ | (intro hb; try replace hb := simB hb; try exact kill hb))
   (refine SR ?_; unfold RetQ; refine ⟨x2.2, hx2.2, rfl, permA⟩)
theorem rnumN_t (b : Nat) (x : OA) (bad : Bool) (l : List UInt8) (w : Nat) (hw : 1 ≤ w ∧ w ≤ 4) (hb : l.length ≤ 1000000000) (hc : l.length ≤ x.2) :
  Tri Tryz.prog 119 [pt b, .int .i64 w] [] (rdP b x.1 x.2 bad l) (fun x : OA => (rdN bad l w).2.2.length ≤ x.2) (fun _ => .int .i64 (rdN bad l w).1)
   (fun x => rdP b x.1 x.2 (rdN bad l w).2.1 (rdN bad l w).2.2) := by
 have h := nnum_t b x.1 x.2 bad l w (by omega) hb hc
 have e : (ngetR (rdB bad l w).1).1 = ((rdN bad l w).1 : Int) := (Int.toNat_of_nonneg (nget_nn _)).symm
 rw [e] at h
 exact h
end Go.Proofs.YtbhiojedmkcfoaaGreatDoor
