/- bypathref05.Check, Large: which attributes may be, by the reference. -/
import Derived.Test.YtdeeokkkcfkbjaaGreatAttD
namespace Go.Proofs.YtdeeokkkcfkbjaaGreat
set_option linter.unusedVariables false
set_option linter.unusedSimpArgs false
open Go.RowKit
attribute [local irreducible] HC HX HO Tri eP adr

set_option maxHeartbeats 4000000 in
set_option maxRecDepth 100000 in
theorem rcheck_t (a : AttS) (four : Bool) (h1 : a.path.length ≤ 1000000) (h2 : a.comms.length ≤ 1000000) (h3 : ∀ s ∈ a.path, s.ns.length ≤ 1000000) :
    Tri Tryz.prog 26 [.agg a.e.toArray, .bool four] a.ro [] (fun _ : Unit => True) (fun _ => .bool (attOk four a)) (fun _ => []) := by
  have hz := szF_bd four
  refine Tri_of (N := Tryz.f26.ntmps) (c := bodyOf Tryz.f26) Tryz.func26 rfl rfl rfl rfl (fun w0 S0 => ?_)
  dsimp only [AttS.ro]
  repeat' (first | refine SW ?_ | exact HO_seg rfl rfl | refine S1 ?_ | (refine S2 ?_; intro _) | (refine S3 ?_; intro _ _) | (refine S4 ?_; intro _ _ _) | (refine HO_g 2 rfl ?_; (first | apply HO_and rfl rfl rfl rfl rfl rfl rfl rfl rfl | apply HO_or rfl rfl rfl rfl rfl rfl rfl rfl rfl)) | refine S5 ?_ | (intro hb; try replace hb := simB hb; try exact kill hb))
  refine HC_cond rfl rfl (fun hb => ?_) (fun hb => ?_)
  · replace hb := simB hb
    repeat' (first | refine SW ?_ | exact HO_seg rfl rfl | refine S1 ?_ | (refine S2 ?_; intro _) | (refine S3 ?_; intro _ _) | (refine S4 ?_; intro _ _ _) | (refine HO_g 2 rfl ?_; (first | apply HO_and rfl rfl rfl rfl rfl rfl rfl rfl rfl | apply HO_or rfl rfl rfl rfl rfl rfl rfl rfl rfl)) | refine S5 ?_ | (intro hb; try replace hb := simB hb; try exact kill hb))
    ((first | apply HX_ret | apply HX_retn); (repeat (first | exact Res_nil | apply Res_tmp rfl | apply Res_ce rfl rfl rfl)); unfold RetQ; refine ⟨(), trivial, ?_, Keeps.nil⟩)
    refine congrArg Value.bool (Eq.symm ?_)
    rw [attOk, decide_eq_false (by omega)]
    simp
  replace hb := simB hb
  repeat' (first | refine SW ?_ | exact HO_seg rfl rfl | refine S1 ?_ | (refine S2 ?_; intro _) | (refine S3 ?_; intro _ _) | (refine S4 ?_; intro _ _ _) | (refine HO_g 2 rfl ?_; (first | apply HO_and rfl rfl rfl rfl rfl rfl rfl rfl rfl | apply HO_or rfl rfl rfl rfl rfl rfl rfl rfl rfl)) | refine S5 ?_ | (intro hb; try replace hb := simB hb; try exact kill hb))
  rename_i b2
  refine HC_loop (α := Nat) (fun j => j ≤ a.path.length ∧ ∀ s ∈ a.path.take j, sgOk four s = true) (fun j => [(5, .int .i64 j), (2, pt b2), (1, .bool four)]) (fun j => [cel b2 49 a.e]) (fun j => a.path.length - j) rfl 0 ⟨Nat.zero_le _, fun s hs => by simp at hs⟩ ⟨rfl, rfl, rfl, trivial⟩ rfl ?_
  intro j ⟨hj, hno⟩
  rcases Nat.lt_or_ge j a.path.length with hlt | hge
  · obtain ⟨s, hs⟩ : ∃ s, a.path[j]? = some s := ⟨a.path[j], List.getElem?_eq_getElem hlt⟩
    have hsm := List.mem_of_getElem? hs
    dsimp only [pt]
    have hseg : sgOk four s = (decide (1 ≤ s.ns.length ∧ s.ns.length ≤ 64) && !s.ns.any (fun n => !fitsB (szF four) n)) := rfl
    repeat' (first | refine SW ?_ | refine SD ?_ | exact HO_seg rfl rfl | refine S1 ?_ | (refine S2 ?_; intro _) | (refine S3 ?_; intro _ _) | (refine S4 ?_; intro _ _ _) | (refine HO_g 2 rfl ?_; (first | apply HO_and rfl rfl rfl rfl rfl rfl rfl rfl rfl | apply HO_or rfl rfl rfl rfl rfl rfl rfl rfl rfl)) | refine S5 ?_ | (intro hb; try replace hb := simB hb; try exact kill hb))
    refine HC_cond rfl rfl (fun hb => ?_) (fun hb => ?_)
    · replace hb := simB hb
      repeat' (first | refine SW ?_ | exact HO_seg rfl rfl | refine S1 ?_ | (refine S2 ?_; intro _) | (refine S3 ?_; intro _ _) | (refine S4 ?_; intro _ _ _) | (refine HO_g 2 rfl ?_; (first | apply HO_and rfl rfl rfl rfl rfl rfl rfl rfl rfl | apply HO_or rfl rfl rfl rfl rfl rfl rfl rfl rfl)) | refine S5 ?_ | (intro hb; try replace hb := simB hb; try exact kill hb))
      ((first | apply HX_ret | apply HX_retn); (repeat (first | exact Res_nil | apply Res_tmp rfl | apply Res_ce rfl rfl rfl)); unfold RetQ; refine ⟨(), trivial, ?_, Keeps.nil⟩)
      refine congrArg Value.bool (Eq.symm ?_)
      have : sgOk four s = false := by rw [hseg, decide_eq_false (by omega)]; rfl
      rw [attOk, List.any_eq_true.2 ⟨s, hsm, by rw [this]; rfl⟩]
      simp
    replace hb := simB hb
    repeat' (first | refine SW ?_ | exact HO_seg rfl rfl | refine S1 ?_ | (refine S2 ?_; intro _) | (refine S3 ?_; intro _ _) | (refine S4 ?_; intro _ _ _) | (refine HO_g 2 rfl ?_; (first | apply HO_and rfl rfl rfl rfl rfl rfl rfl rfl rfl | apply HO_or rfl rfl rfl rfl rfl rfl rfl rfl rfl)) | refine S5 ?_ | (intro hb; try replace hb := simB hb; try exact kill hb))
    refine HC_see List.mem_cons_self (seg_mem hsm) ?_
    refine HC_loop (α := Nat) (fun k => k ≤ s.ns.length ∧ ∀ n ∈ s.ns.take k, fitsB (szF four) n = true) (fun k => [(7, .int .i64 k), (6, .slice s.A s.ns.length s.c), (5, .int .i64 j), (2, pt b2), (1, .bool four)]) (fun k => [cel b2 49 a.e]) (fun k => s.ns.length - k) rfl 0 ⟨Nat.zero_le _, fun s hs => by simp at hs⟩ ⟨rfl, rfl, rfl, rfl, rfl, trivial⟩ rfl ?_
    intro k ⟨hk, hnk⟩
    dsimp only [pt]
    rcases Nat.lt_or_ge k s.ns.length with hklt | hkge
    · obtain ⟨n, hn⟩ : ∃ n, s.ns[k]? = some n := ⟨s.ns[k], List.getElem?_eq_getElem hklt⟩
      have hfl : fitsB (szF four) n = (decide (0 ≤ n) && decide (n < (256 ^ szF four : Nat))) := rfl
      repeat' (first | refine SW ?_ | refine SD ?_ | (refine HO_k 12 rfl ?_; refine HO_callq rfl rfl rfl rfl (rsize_t four) (fun _ _ => rfl) (trivial) rfl rfl sqA ?_) | (refine HO_k 12 rfl ?_; refine HO_callq rfl rfl rfl rfl (fits_t n (szF four) hz.1 hz.2) (fun _ _ => rfl) (trivial) rfl rfl sqA ?_) | exact HO_seg rfl rfl | refine S1 ?_ | (refine S2 ?_; intro _) | (refine S3 ?_; intro _ _) | (refine S4 ?_; intro _ _ _) | (refine HO_g 2 rfl ?_; (first | apply HO_and rfl rfl rfl rfl rfl rfl rfl rfl rfl | apply HO_or rfl rfl rfl rfl rfl rfl rfl rfl rfl)) | refine S5 ?_ | (intro hb; try replace hb := simB hb; try exact kill hb))
      refine HC_cond rfl rfl (fun hb => ?_) (fun hb => ?_)
      · repeat' (first | refine SW ?_ | exact HO_seg rfl rfl | refine S1 ?_ | (refine S2 ?_; intro _) | (refine S3 ?_; intro _ _) | (refine S4 ?_; intro _ _ _) | (refine HO_g 2 rfl ?_; (first | apply HO_and rfl rfl rfl rfl rfl rfl rfl rfl rfl | apply HO_or rfl rfl rfl rfl rfl rfl rfl rfl rfl)) | refine S5 ?_ | (intro hb; try replace hb := simB hb; try exact kill hb))
        refine HX_unsee ?_
        ((first | apply HX_ret | apply HX_retn); (repeat (first | exact Res_nil | apply Res_tmp rfl | apply Res_ce rfl rfl rfl)); unfold RetQ; refine ⟨(), trivial, ?_, Keeps.nil⟩)
        refine congrArg Value.bool (Eq.symm ?_)
        rw [← hfl, Bool.not_eq_true'] at hb
        have : sgOk four s = false := by rw [hseg, List.any_eq_true.2 ⟨n, List.mem_of_getElem? hn, by rw [hb]; rfl⟩]; simp
        rw [attOk, List.any_eq_true.2 ⟨s, hsm, by rw [this]; rfl⟩]
        simp
      · rw [← hfl, Bool.not_eq_false'] at hb
        repeat' (first | refine SW ?_ | refine SD ?_ | exact HO_seg rfl rfl | refine S1 ?_ | (refine S2 ?_; intro _) | (refine S3 ?_; intro _ _) | (refine S4 ?_; intro _ _ _) | (refine HO_g 2 rfl ?_; (first | apply HO_and rfl rfl rfl rfl rfl rfl rfl rfl rfl | apply HO_or rfl rfl rfl rfl rfl rfl rfl rfl rfl)) | refine S5 ?_ | (intro hb; try replace hb := simB hb; try exact kill hb))
        exact HX_at (k + 1) ⟨⟨hklt, fun m hm => by
          rw [List.take_add_one, hn, List.mem_append] at hm
          rcases hm with hm | hm
          · exact hnk m hm
          · simp at hm; rw [hm]; exact hb⟩, by omega⟩ ⟨rfl, rfl, rfl, rfl, rfl, trivial⟩ rfl
    · obtain rfl : k = s.ns.length := by omega
      rw [List.take_length] at hnk
      repeat' (first | refine SW ?_ | refine SD ?_ | exact HO_seg rfl rfl | refine S1 ?_ | (refine S2 ?_; intro _) | (refine S3 ?_; intro _ _) | (refine S4 ?_; intro _ _ _) | (refine HO_g 2 rfl ?_; (first | apply HO_and rfl rfl rfl rfl rfl rfl rfl rfl rfl | apply HO_or rfl rfl rfl rfl rfl rfl rfl rfl rfl)) | refine S5 ?_ | (intro hb; try replace hb := simB hb; try exact kill hb))
      refine HX_unsee ?_
      have hok : sgOk four s = true := by
        rw [hseg, decide_eq_true (by omega)]
        have : s.ns.any (fun n => !fitsB (szF four) n) = false := List.any_eq_false.2 fun n hn => by rw [hnk n hn]; decide
        rw [this]
        rfl
      exact HX_at (j + 1) ⟨⟨hlt, fun m hm => by
        rw [List.take_add_one, hs, List.mem_append] at hm
        rcases hm with hm | hm
        · exact hno m hm
        · simp at hm; rw [hm]; exact hok⟩, by omega⟩ ⟨rfl, rfl, rfl, trivial⟩ rfl
  · obtain rfl : j = a.path.length := by omega
    dsimp only [pt]
    repeat' (first | refine SW ?_ | refine SD ?_ | exact HO_seg rfl rfl | refine S1 ?_ | (refine S2 ?_; intro _) | (refine S3 ?_; intro _ _) | (refine S4 ?_; intro _ _ _) | (refine HO_g 2 rfl ?_; (first | apply HO_and rfl rfl rfl rfl rfl rfl rfl rfl rfl | apply HO_or rfl rfl rfl rfl rfl rfl rfl rfl rfl)) | refine S5 ?_ | (intro hb; try replace hb := simB hb; try exact kill hb))
    rw [List.take_length] at hno
    have hpath : a.path.any (fun s => !sgOk four s) = false := List.any_eq_false.2 fun s hs => by rw [hno s hs]; decide
    refine HC_loop (α := Nat) (fun k => k ≤ a.comms.length ∧ ∀ n ∈ a.comms.take k, fitsB 4 n = true) (fun k => [(8, .int .i64 k), (2, pt b2)]) (fun k => [cel b2 49 a.e]) (fun k => a.comms.length - k) rfl 0 ⟨Nat.zero_le _, fun s hs => by simp at hs⟩ ⟨rfl, rfl, trivial⟩ rfl ?_
    intro k ⟨hk, hnk⟩
    dsimp only [pt]
    rcases Nat.lt_or_ge k a.comms.length with hklt | hkge
    · obtain ⟨n, hn⟩ : ∃ n, a.comms[k]? = some n := ⟨a.comms[k], List.getElem?_eq_getElem hklt⟩
      have hfl : fitsB 4 n = (decide (0 ≤ n) && decide (n < (256 ^ 4 : Nat))) := rfl
      have hft := fits_t n 4 (by decide) (by decide)
      rw [← hfl] at hft
      repeat' (first | refine SW ?_ | refine SD ?_ | (refine HO_k 12 rfl ?_; refine HO_callq rfl rfl rfl rfl (hft) (fun _ _ => rfl) (trivial) rfl rfl sqA ?_) | exact HO_seg rfl rfl | refine S1 ?_ | (refine S2 ?_; intro _) | (refine S3 ?_; intro _ _) | (refine S4 ?_; intro _ _ _) | (refine HO_g 2 rfl ?_; (first | apply HO_and rfl rfl rfl rfl rfl rfl rfl rfl rfl | apply HO_or rfl rfl rfl rfl rfl rfl rfl rfl rfl)) | refine S5 ?_ | (intro hb; try replace hb := simB hb; try exact kill hb))
      refine HC_cond rfl rfl (fun hb => ?_) (fun hb => ?_)
      · rw [Bool.not_eq_true'] at hb
        repeat' (first | refine SW ?_ | exact HO_seg rfl rfl | refine S1 ?_ | (refine S2 ?_; intro _) | (refine S3 ?_; intro _ _) | (refine S4 ?_; intro _ _ _) | (refine HO_g 2 rfl ?_; (first | apply HO_and rfl rfl rfl rfl rfl rfl rfl rfl rfl | apply HO_or rfl rfl rfl rfl rfl rfl rfl rfl rfl)) | refine S5 ?_ | (intro hb; try replace hb := simB hb; try exact kill hb))
        ((first | apply HX_ret | apply HX_retn); (repeat (first | exact Res_nil | apply Res_tmp rfl | apply Res_ce rfl rfl rfl)); unfold RetQ; refine ⟨(), trivial, ?_, Keeps.nil⟩)
        refine congrArg Value.bool (Eq.symm ?_)
        rw [attOk, show a.comms.any (fun n => !fitsB 4 n) = true from List.any_eq_true.2 ⟨n, List.mem_of_getElem? hn, by rw [hb]; rfl⟩]
        simp
      · rw [Bool.not_eq_false'] at hb
        repeat' (first | refine SW ?_ | refine SD ?_ | exact HO_seg rfl rfl | refine S1 ?_ | (refine S2 ?_; intro _) | (refine S3 ?_; intro _ _) | (refine S4 ?_; intro _ _ _) | (refine HO_g 2 rfl ?_; (first | apply HO_and rfl rfl rfl rfl rfl rfl rfl rfl rfl | apply HO_or rfl rfl rfl rfl rfl rfl rfl rfl rfl)) | refine S5 ?_ | (intro hb; try replace hb := simB hb; try exact kill hb))
        exact HX_at (k + 1) ⟨⟨hklt, fun m hm => by
          rw [List.take_add_one, hn, List.mem_append] at hm
          rcases hm with hm | hm
          · exact hnk m hm
          · simp at hm; rw [hm]; exact hb⟩, by omega⟩ ⟨rfl, rfl, trivial⟩ rfl
    · obtain rfl : k = a.comms.length := by omega
      rw [List.take_length] at hnk
      have hcom : a.comms.any (fun n => !fitsB 4 n) = false := List.any_eq_false.2 fun n hn => by rw [hnk n hn]; decide
      repeat' (first | refine SW ?_ | refine SD ?_ | exact HO_seg rfl rfl | refine S1 ?_ | (refine S2 ?_; intro _) | (refine S3 ?_; intro _ _) | (refine S4 ?_; intro _ _ _) | (refine HO_g 2 rfl ?_; (first | apply HO_and rfl rfl rfl rfl rfl rfl rfl rfl rfl | apply HO_or rfl rfl rfl rfl rfl rfl rfl rfl rfl)) | refine S5 ?_ | (intro hb; try replace hb := simB hb; try exact kill hb))
      ((first | apply HX_ret | apply HX_retn); (repeat (first | exact Res_nil | apply Res_tmp rfl | apply Res_ce rfl rfl rfl)); unfold RetQ; refine ⟨(), trivial, ?_, Keeps.nil⟩)
      refine congrArg Value.bool (Eq.symm ?_)
      rw [attOk, hpath, hcom, decide_eq_true (by omega)]
      rfl
end Go.Proofs.YtdeeokkkcfkbjaaGreat
