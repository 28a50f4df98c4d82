/- Settings held against each other by the reference. -/
import Derived.Test.YtbhiojedmkcfoaaGreatDoorCfA
namespace Go.Proofs.YtbhiojedmkcfoaaGreatDoor
set_option linter.unusedVariables false
set_option linter.unusedSimpArgs false
open Go.RowKit
attribute [local irreducible] HC HX HO Tri eP adr

def cfSame (a b : CfQ) : Bool := decide (numsOf a = numsOf b) && decide (a.id = b.id) && decide (a.ifs = b.ifs) && decide (a.deny = b.deny)
theorem numsOf_len (q : CfQ) : (numsOf q).length = 18 := rfl
set_option maxHeartbeats 16000000 in
theorem rsame19_t (c d : CfS) (hc : CfL c) (hd : CfL d) : Tri Tryz.prog 22 [.agg c.e.toArray, .agg d.e.toArray] [arr IfQ.e 5 c.iA c.q.ifs, arr IfQ.e 5 d.iA d.q.ifs, arr iE 1 c.dA c.q.deny, arr iE 1 d.dA d.q.deny] [] (fun _ : Unit => True) (fun _ => .bool (cfSame c.q d.q)) (fun _ => []) := by
  have h1 := rnums_t c
  have h2 := rnums_t d
  have h3 := r16same_t c.iA c.q.ifs.length c.ic c.q.ifs rfl d.iA d.q.ifs.length d.ic d.q.ifs rfl (by have := hc.1; omega) (by have := hd.1; omega)
  have l1 := hc.2.1
  have l2 := hd.2.1
  dsimp only [CfS.e] at h1 h2
  refine Tri_of (N := Tryz.f22.ntmps) (c := bodyOf Tryz.f22) Tryz.func22 rfl rfl rfl rfl (fun w0 S0 => ?_)
  dsimp only [CfS.e]
  repeat' (first | refine SW ?_ | refine SD ?_ | refine HC_lex rfl rfl (by decide +kernel) rfl rfl ?_ | (refine HO_k 12 rfl ?_; refine HO_call rfl rfl rfl rfl (h1) rfl (trivial) rfl rfl soA ?_; intro b1 hb1; dsimp only [List.cons_append, List.nil_append]) | (refine HO_k 12 rfl ?_; refine HO_call rfl rfl rfl rfl (h2) rfl (trivial) rfl rfl soA ?_; intro b2 hb2; dsimp only [List.cons_append, List.nil_append]) | exact HO_seg rfl rfl | refine S1 ?_ | (refine S2 ?_; intro _) | (refine S3 ?_; intro _ _) | (refine S4 ?_; intro _ _ _) | (refine HO_g 2 rfl ?_; (first | apply HO_and rfl rfl rfl rfl rfl rfl rfl rfl rfl | apply HO_or rfl rfl rfl rfl rfl rfl rfl rfl rfl)) | refine S5 ?_ | (intro hb; try replace hb := simB hb; try exact kill hb))
  rename_i bc bd
  refine HC_keeps (rw' := [cel bc TCf c.e, cel bd TCf d.e, own idE 3 1 (some ⟨b1, 0, none⟩) 18 18 ((numsOf c.q).map iE), own idE 3 1 (some ⟨b2, 0, none⟩) 18 18 ((numsOf d.q).map iE)]) permA ?_
  refine HC_loop (α := Nat) (fun j => j ≤ 18 ∧ ∀ q, q < j → (numsOf c.q)[q]? = (numsOf d.q)[q]?) (fun j => [(7, .int .i64 j), (6, .slice (some ⟨b2, 0, none⟩) 18 18), (5, .slice (some ⟨b1, 0, none⟩) 18 18), (3, pt bd), (2, pt bc)]) (fun _ => [cel bc TCf c.e, cel bd TCf d.e, own idE 3 1 (some ⟨b1, 0, none⟩) 18 18 ((numsOf c.q).map iE), own idE 3 1 (some ⟨b2, 0, none⟩) 18 18 ((numsOf d.q).map iE)]) (fun j => 18 - j) rfl 0 ⟨Nat.zero_le _, fun q hq => by omega⟩ ⟨rfl, rfl, rfl, rfl, rfl, trivial⟩ rfl ?_
  rintro j ⟨hj, hno⟩
  have lc := numsOf_len c.q
  have ld := numsOf_len d.q
  obtain ⟨u, hu⟩ : ∃ u, numsOf c.q = u := ⟨_, rfl⟩
  obtain ⟨v, hv⟩ : ∃ v, numsOf d.q = v := ⟨_, rfl⟩
  unfold cfSame
  rw [hu] at hno lc ⊢
  rw [hv] at hno ld ⊢
  rcases Nat.lt_or_ge j 18 with hlt | hge
  · obtain ⟨x, hx⟩ : ∃ x, u[j]? = some x := ⟨u[j], List.getElem?_eq_getElem (by omega)⟩
    obtain ⟨y, hy⟩ : ∃ y, v[j]? = some y := ⟨v[j], List.getElem?_eq_getElem (by omega)⟩
    by_cases hxy : x = y
    · repeat' (first | refine SW ?_ | refine SD ?_ | exact HO_seg rfl rfl | refine S1 ?_ | (refine S2 ?_; intro _) | (refine S3 ?_; intro _ _) | (refine S4 ?_; intro _ _ _) | (refine HO_g 2 rfl ?_; (first | apply HO_and rfl rfl rfl rfl rfl rfl rfl rfl rfl | apply HO_or rfl rfl rfl rfl rfl rfl rfl rfl rfl)) | refine S5 ?_ | (intro hb; try replace hb := simB hb; try exact kill hb))
      exact HX_at (j + 1) ⟨⟨hlt, fun q hq => by
        rcases Nat.lt_or_ge q j with h | h
        · exact hno q h
        · obtain rfl : q = j := by omega
          rw [hx, hy, hxy]⟩, by show 18 - (j + 1) < 18 - j; omega⟩ ⟨rfl, rfl, rfl, rfl, rfl, trivial⟩ rfl
    · repeat' (first | refine SW ?_ | refine SD ?_ | exact HO_seg rfl rfl | refine S1 ?_ | (refine S2 ?_; intro _) | (refine S3 ?_; intro _ _) | (refine S4 ?_; intro _ _ _) | (refine HO_g 2 rfl ?_; (first | apply HO_and rfl rfl rfl rfl rfl rfl rfl rfl rfl | apply HO_or rfl rfl rfl rfl rfl rfl rfl rfl rfl)) | refine S5 ?_ | (intro hb; try replace hb := simB hb; try exact kill hb))
      ((first | apply HX_ret | apply HX_retn); (repeat (first | exact Res_nil | apply Res_tmp rfl | apply Res_ce rfl rfl rfl)); unfold RetQ; refine ⟨(), trivial, ?_, Keeps.nil⟩)
      have huv : ¬ u = v := fun e => hxy (by rw [e, hy] at hx; injection hx with hx; exact hx.symm)
      rw [decide_eq_false huv]
      rfl
  · obtain rfl : j = 18 := by omega
    have huv : u = v := call_same (by omega) (fun q hq => hno q (by omega))
    dsimp only [CfS.e]
    rw [decide_eq_true huv]
    by_cases g1 : c.q.id = d.q.id
    · rw [decide_eq_true g1]
      by_cases g2 : c.q.ifs = d.q.ifs
      · rw [decide_eq_true g2] at h3 ⊢
        by_cases g3 : c.q.deny.length = d.q.deny.length
        · repeat' (first | refine SW ?_ | refine SD ?_ | (refine HO_k 12 rfl ?_; refine HO_callq rfl rfl rfl rfl (h3) (fun _ _ => rfl) (srcsA) rfl rfl sqA ?_) | exact HO_seg rfl rfl | refine S1 ?_ | (refine S2 ?_; intro _) | (refine S3 ?_; intro _ _) | (refine S4 ?_; intro _ _ _) | (refine HO_g 2 rfl ?_; (first | apply HO_and rfl rfl rfl rfl rfl rfl rfl rfl rfl | apply HO_or rfl rfl rfl rfl rfl rfl rfl rfl rfl)) | refine S5 ?_ | (intro hb; try replace hb := simB hb; try exact kill hb))
          refine HC_keeps (rw' := [cel bc TCf c.e, cel bd TCf d.e]) (Keeps.cons Ent.rfl_ (Keeps.cons Ent.rfl_ (Keeps.skip (Keeps.skip Keeps.nil)))) ?_
          refine HC_loop (α := Nat) (fun k => k ≤ c.q.deny.length ∧ ∀ q, q < k → c.q.deny[q]? = d.q.deny[q]?) (fun k => [(8, .int .i64 k), (3, pt bd), (2, pt bc)]) (fun _ => [cel bc TCf c.e, cel bd TCf d.e]) (fun k => c.q.deny.length - k) rfl 0 ⟨Nat.zero_le _, fun q hq => by omega⟩ ⟨rfl, rfl, rfl, trivial⟩ rfl ?_
          rintro k ⟨hk, hkn⟩
          dsimp only [CfS.e]
          rcases Nat.lt_or_ge k c.q.deny.length with hlt | hge
          · obtain ⟨x, hx⟩ : ∃ x, c.q.deny[k]? = some x := ⟨c.q.deny[k], List.getElem?_eq_getElem (by omega)⟩
            obtain ⟨y, hy⟩ : ∃ y, d.q.deny[k]? = some y := ⟨d.q.deny[k], List.getElem?_eq_getElem (by omega)⟩
            by_cases hxy : x = y
            · repeat' (first | refine SW ?_ | refine SD ?_ | exact HO_seg rfl rfl | refine S1 ?_ | (refine S2 ?_; intro _) | (refine S3 ?_; intro _ _) | (refine S4 ?_; intro _ _ _) | (refine HO_g 2 rfl ?_; (first | apply HO_and rfl rfl rfl rfl rfl rfl rfl rfl rfl | apply HO_or rfl rfl rfl rfl rfl rfl rfl rfl rfl)) | refine S5 ?_ | (intro hb; try replace hb := simB hb; try exact kill hb))
              exact HX_at (k + 1) ⟨⟨hlt, fun q hq => by
                rcases Nat.lt_or_ge q k with h | h
                · exact hkn q h
                · obtain rfl : q = k := by omega
                  rw [hx, hy, hxy]⟩, by show c.q.deny.length - (k + 1) < c.q.deny.length - k; omega⟩ ⟨rfl, rfl, rfl, trivial⟩ rfl
            · repeat' (first | refine SW ?_ | refine SD ?_ | exact HO_seg rfl rfl | refine S1 ?_ | (refine S2 ?_; intro _) | (refine S3 ?_; intro _ _) | (refine S4 ?_; intro _ _ _) | (refine HO_g 2 rfl ?_; (first | apply HO_and rfl rfl rfl rfl rfl rfl rfl rfl rfl | apply HO_or rfl rfl rfl rfl rfl rfl rfl rfl rfl)) | refine S5 ?_ | (intro hb; try replace hb := simB hb; try exact kill hb))
              ((first | apply HX_ret | apply HX_retn); (repeat (first | exact Res_nil | apply Res_tmp rfl | apply Res_ce rfl rfl rfl)); unfold RetQ; refine ⟨(), trivial, ?_, Keeps.nil⟩)
              rw [cdec_false hx hy hxy]
              rfl
          · obtain rfl : k = c.q.deny.length := by omega
            repeat' (first | refine SW ?_ | refine SD ?_ | exact HO_seg rfl rfl | refine S1 ?_ | (refine S2 ?_; intro _) | (refine S3 ?_; intro _ _) | (refine S4 ?_; intro _ _ _) | (refine HO_g 2 rfl ?_; (first | apply HO_and rfl rfl rfl rfl rfl rfl rfl rfl rfl | apply HO_or rfl rfl rfl rfl rfl rfl rfl rfl rfl)) | refine S5 ?_ | (intro hb; try replace hb := simB hb; try exact kill hb))
            ((first | apply HX_ret | apply HX_retn); (repeat (first | exact Res_nil | apply Res_tmp rfl | apply Res_ce rfl rfl rfl)); unfold RetQ; refine ⟨(), trivial, ?_, Keeps.nil⟩)
            rw [decide_eq_true (call_same g3 hkn)]
            rfl
        · repeat' (first | refine SW ?_ | refine SD ?_ | (refine HO_k 12 rfl ?_; refine HO_callq rfl rfl rfl rfl (h3) (fun _ _ => rfl) (srcsA) rfl rfl sqA ?_) | exact HO_seg rfl rfl | refine S1 ?_ | (refine S2 ?_; intro _) | (refine S3 ?_; intro _ _) | (refine S4 ?_; intro _ _ _) | (refine HO_g 2 rfl ?_; (first | apply HO_and rfl rfl rfl rfl rfl rfl rfl rfl rfl | apply HO_or rfl rfl rfl rfl rfl rfl rfl rfl rfl)) | refine S5 ?_ | (intro hb; try replace hb := simB hb; try exact kill hb))
          ((first | apply HX_ret | apply HX_retn); (repeat (first | exact Res_nil | apply Res_tmp rfl | apply Res_ce rfl rfl rfl)); unfold RetQ; refine ⟨(), trivial, ?_, Keeps.nil⟩)
          rw [decide_eq_false fun e => g3 (by rw [e])]
          rfl
      · rw [decide_eq_false g2] at h3 ⊢
        repeat' (first | refine SW ?_ | refine SD ?_ | (refine HO_k 12 rfl ?_; refine HO_callq rfl rfl rfl rfl (h3) (fun _ _ => rfl) (srcsA) rfl rfl sqA ?_) | exact HO_seg rfl rfl | refine S1 ?_ | (refine S2 ?_; intro _) | (refine S3 ?_; intro _ _) | (refine S4 ?_; intro _ _ _) | (refine HO_g 2 rfl ?_; (first | apply HO_and rfl rfl rfl rfl rfl rfl rfl rfl rfl | apply HO_or rfl rfl rfl rfl rfl rfl rfl rfl rfl)) | refine S5 ?_ | (intro hb; try replace hb := simB hb; try exact kill hb))
        ((first | apply HX_ret | apply HX_retn); (repeat (first | exact Res_nil | apply Res_tmp rfl | apply Res_ce rfl rfl rfl)); unfold RetQ; refine ⟨(), trivial, ?_, Keeps.nil⟩)
        rfl
    · rw [decide_eq_false g1]
      repeat' (first | refine SW ?_ | refine SD ?_ | (refine HO_k 12 rfl ?_; refine HO_callq rfl rfl rfl rfl (h3) (fun _ _ => rfl) (srcsA) rfl rfl sqA ?_) | exact HO_seg rfl rfl | refine S1 ?_ | (refine S2 ?_; intro _) | (refine S3 ?_; intro _ _) | (refine S4 ?_; intro _ _ _) | (refine HO_g 2 rfl ?_; (first | apply HO_and rfl rfl rfl rfl rfl rfl rfl rfl rfl | apply HO_or rfl rfl rfl rfl rfl rfl rfl rfl rfl)) | refine S5 ?_ | (intro hb; try replace hb := simB hb; try exact kill hb))
      ((first | apply HX_ret | apply HX_retn); (repeat (first | exact Res_nil | apply Res_tmp rfl | apply Res_ce rfl rfl rfl)); unfold RetQ; refine ⟨(), trivial, ?_, Keeps.nil⟩)
      rfl
end Go.Proofs.YtbhiojedmkcfoaaGreatDoor
