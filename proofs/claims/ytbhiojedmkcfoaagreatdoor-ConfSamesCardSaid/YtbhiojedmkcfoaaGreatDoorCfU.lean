/- A line of a number, as the reader of settings takes it. -/
import Derived.Test.YtbhiojedmkcfoaaGreatDoorCfG
import Derived.Test.YtbhiojedmkcfoaaGreatDoorAdW
namespace Go.Proofs.YtbhiojedmkcfoaaGreatDoor
set_option linter.unusedVariables false
set_option linter.unusedSimpArgs false
open Go.RowKit
attribute [local irreducible] HC HX HO Tri eP adr

def wordsC : Array Value := (wordsL.map fun w => Value.string ⟨w.toArray⟩).toArray
theorem wordsC_at {i : Nat} {w : List UInt8} (h : wordsL[i]? = some w) : wordsC[i]? = some (.string ⟨w.toArray⟩) := by
  unfold wordsC
  rw [List.getElem?_toArray, List.getElem?_map, h]
  rfl
@[reducible] def glW : SL := glbs 0 wordsC
/-- what the reader has behind a line of a number -/
def fixX (i : Nat) (l : List (List UInt8)) (q : CfQ) (bad : Bool) : CfQ × Bool := match l with
  | [w, v] => if wordsL[i]? = some w then (if i = 1 then ({ q with id := (adR v).getD 0 }, bad || (adR v).isNone) else (q.put i (numV v), bad || (numR v).isNone)) else (q, true)
  | _ => (q, true)
@[reducible] def CfS.at (c : CfS) (q : CfQ) : CfS := { c with q := q }
theorem rd_put (c : CfS) (bad : Bool) (hl : c.q.nums.length = 18) {i : Nat} (n : Int) (h : i < 18) (h1 : i ≠ 1) : putL (rdE c bad) (offN i) [.int .i64 n] = some (rdE (c.put i n) bad) := by
  have hlt : offN i < 20 := by
    unfold offN
    split
    · omega
    · split <;> omega
  have hel : c.e.length = 20 := rfl
  rw [putL_one (by unfold rdE; rw [List.length_append, hel]; simp; omega)]
  unfold rdE
  rw [List.set_append_left _ _ (by omega), e_put c hl n h h1]
set_option maxHeartbeats 16000000 in
theorem fixed_t (b : Nat) (c : CfS) (bad : Bool) (hl : c.q.nums.length = 18) (i : Nat) (hi : i < 18) (A : Option Addr) (n cc : Nat) (ws : List (List UInt8)) (hn : n = ws.length) (hws : ∀ w ∈ ws, w.length ≤ 100000) (m : Int) :
    Tri Tryz.prog 134 [pt b, .int .i64 i, .slice A n cc] [arr strE 1 A ws, glW, maxLen0 m] [cel b TRd (rdE c bad)] (fun _ : Unit => True) (fun _ => .tuple #[]) (fun _ => [cel b TRd (rdE (c.at (fixX i ws c.q bad).1) (fixX i ws c.q bad).2)]) := by
  subst hn
  obtain ⟨w', hw'⟩ : ∃ w', wordsL[i]? = some w' := ⟨wordsL[i]'(by show i < 18; exact hi), List.getElem?_eq_getElem _⟩
  have hwc := wordsC_at hw'
  by_cases h2 : ws.length = 2
  · match ws, h2 with
    | [w, v], _ =>
      have hv : v.length ≤ 100000 := hws v (by simp)
      unfold fixX
      simp only [hw', Option.some.injEq]
      by_cases hw : w = w'
      · have hw2 : w' = w := hw.symm
        rw [if_pos hw2]
        by_cases h1 : i = 1
        · rw [if_pos h1]
          have hadr := aaddr_t m v hv
          unfold adV at hadr
          cases hav : adR v with
          | none =>
            rw [hav] at hadr
            cases bad
            · refine Tri_of (N := Tryz.f134.ntmps) (c := bodyOf Tryz.f134) Tryz.func134 rfl rfl rfl rfl (fun w0 S0 => ?_)
              repeat' (first | refine SW ?_ | (with_reducible refine HO_rw (congrArg Value.bool (sba_ne _ _)) ?_) | refine SD ?_ | (refine HO_k 10 rfl ?_; refine HO_ixa (j := i) rfl rfl rfl rfl hi rfl rfl rdA ?_) | (refine HO_k 2 rfl ?_; refine HO_ldg (cs := wordsC) rfl rfl (.tail _ (.head _)) hwc rfl rfl rdA ?_) | (refine HO_k 12 rfl ?_; refine HO_callq rfl rfl rfl rfl (hadr) (fun _ _ => rfl) (srcsA) rfl rfl sqA ?_) | exact HO_seg rfl rfl | refine S1 ?_ | (refine S2 ?_; intro _) | (refine S3 ?_; intro _ _) | (refine S4 ?_; intro _ _ _) | (refine HO_g 2 rfl ?_; (first | apply HO_and rfl rfl rfl rfl rfl rfl rfl rfl rfl | apply HO_or rfl rfl rfl rfl rfl rfl rfl rfl rfl)) | refine S5 ?_ | (intro hb; try replace hb := simB hb; try exact kill hb))
              ((first | apply HX_ret | apply HX_retn); (repeat (first | exact Res_nil | apply Res_tmp rfl | apply Res_ce rfl rfl rfl)); unfold RetQ; apply Exists.intro (()); refine ⟨trivial, ?_, ?_⟩; rotate_left 1; (repeat (first | exact Keeps.nil | refine Keeps.own_cons ?_ ?_ ?_ | refine Keeps.arr_cons ?_ ?_ | refine Keeps.cons Ent.rfl_ ?_ | refine Keeps.skip ?_ | refine Keeps.own_none ?_ ?_ ?_ | refine Keeps.arr_none ?_ ?_)))
              all_goals rfl
            · refine Tri_of (N := Tryz.f134.ntmps) (c := bodyOf Tryz.f134) Tryz.func134 rfl rfl rfl rfl (fun w0 S0 => ?_)
              repeat' (first | refine SW ?_ | (with_reducible refine HO_rw (congrArg Value.bool (sba_ne _ _)) ?_) | refine SD ?_ | (refine HO_k 10 rfl ?_; refine HO_ixa (j := i) rfl rfl rfl rfl hi rfl rfl rdA ?_) | (refine HO_k 2 rfl ?_; refine HO_ldg (cs := wordsC) rfl rfl (.tail _ (.head _)) hwc rfl rfl rdA ?_) | (refine HO_k 12 rfl ?_; refine HO_callq rfl rfl rfl rfl (hadr) (fun _ _ => rfl) (srcsA) rfl rfl sqA ?_) | exact HO_seg rfl rfl | refine S1 ?_ | (refine S2 ?_; intro _) | (refine S3 ?_; intro _ _) | (refine S4 ?_; intro _ _ _) | (refine HO_g 2 rfl ?_; (first | apply HO_and rfl rfl rfl rfl rfl rfl rfl rfl rfl | apply HO_or rfl rfl rfl rfl rfl rfl rfl rfl rfl)) | refine S5 ?_ | (intro hb; try replace hb := simB hb; try exact kill hb))
              ((first | apply HX_ret | apply HX_retn); (repeat (first | exact Res_nil | apply Res_tmp rfl | apply Res_ce rfl rfl rfl)); unfold RetQ; apply Exists.intro (()); refine ⟨trivial, ?_, ?_⟩; rotate_left 1; (repeat (first | exact Keeps.nil | refine Keeps.own_cons ?_ ?_ ?_ | refine Keeps.arr_cons ?_ ?_ | refine Keeps.cons Ent.rfl_ ?_ | refine Keeps.skip ?_ | refine Keeps.own_none ?_ ?_ ?_ | refine Keeps.arr_none ?_ ?_)))
              all_goals rfl
          | some a =>
            rw [hav] at hadr
            cases bad
            · refine Tri_of (N := Tryz.f134.ntmps) (c := bodyOf Tryz.f134) Tryz.func134 rfl rfl rfl rfl (fun w0 S0 => ?_)
              repeat' (first | refine SW ?_ | (with_reducible refine HO_rw (congrArg Value.bool (sba_ne _ _)) ?_) | refine SD ?_ | (refine HO_k 10 rfl ?_; refine HO_ixa (j := i) rfl rfl rfl rfl hi rfl rfl rdA ?_) | (refine HO_k 2 rfl ?_; refine HO_ldg (cs := wordsC) rfl rfl (.tail _ (.head _)) hwc rfl rfl rdA ?_) | (refine HO_k 12 rfl ?_; refine HO_callq rfl rfl rfl rfl (hadr) (fun _ _ => rfl) (srcsA) rfl rfl sqA ?_) | exact HO_seg rfl rfl | refine S1 ?_ | (refine S2 ?_; intro _) | (refine S3 ?_; intro _ _) | (refine S4 ?_; intro _ _ _) | (refine HO_g 2 rfl ?_; (first | apply HO_and rfl rfl rfl rfl rfl rfl rfl rfl rfl | apply HO_or rfl rfl rfl rfl rfl rfl rfl rfl rfl)) | refine S5 ?_ | (intro hb; try replace hb := simB hb; try exact kill hb))
              ((first | apply HX_ret | apply HX_retn); (repeat (first | exact Res_nil | apply Res_tmp rfl | apply Res_ce rfl rfl rfl)); unfold RetQ; apply Exists.intro (()); refine ⟨trivial, ?_, ?_⟩; rotate_left 1; (repeat (first | exact Keeps.nil | refine Keeps.own_cons ?_ ?_ ?_ | refine Keeps.arr_cons ?_ ?_ | refine Keeps.cons Ent.rfl_ ?_ | refine Keeps.skip ?_ | refine Keeps.own_none ?_ ?_ ?_ | refine Keeps.arr_none ?_ ?_)))
              all_goals rfl
            · refine Tri_of (N := Tryz.f134.ntmps) (c := bodyOf Tryz.f134) Tryz.func134 rfl rfl rfl rfl (fun w0 S0 => ?_)
              repeat' (first | refine SW ?_ | (with_reducible refine HO_rw (congrArg Value.bool (sba_ne _ _)) ?_) | refine SD ?_ | (refine HO_k 10 rfl ?_; refine HO_ixa (j := i) rfl rfl rfl rfl hi rfl rfl rdA ?_) | (refine HO_k 2 rfl ?_; refine HO_ldg (cs := wordsC) rfl rfl (.tail _ (.head _)) hwc rfl rfl rdA ?_) | (refine HO_k 12 rfl ?_; refine HO_callq rfl rfl rfl rfl (hadr) (fun _ _ => rfl) (srcsA) rfl rfl sqA ?_) | exact HO_seg rfl rfl | refine S1 ?_ | (refine S2 ?_; intro _) | (refine S3 ?_; intro _ _) | (refine S4 ?_; intro _ _ _) | (refine HO_g 2 rfl ?_; (first | apply HO_and rfl rfl rfl rfl rfl rfl rfl rfl rfl | apply HO_or rfl rfl rfl rfl rfl rfl rfl rfl rfl)) | refine S5 ?_ | (intro hb; try replace hb := simB hb; try exact kill hb))
              ((first | apply HX_ret | apply HX_retn); (repeat (first | exact Res_nil | apply Res_tmp rfl | apply Res_ce rfl rfl rfl)); unfold RetQ; apply Exists.intro (()); refine ⟨trivial, ?_, ?_⟩; rotate_left 1; (repeat (first | exact Keeps.nil | refine Keeps.own_cons ?_ ?_ ?_ | refine Keeps.arr_cons ?_ ?_ | refine Keeps.cons Ent.rfl_ ?_ | refine Keeps.skip ?_ | refine Keeps.own_none ?_ ?_ ?_ | refine Keeps.arr_none ?_ ?_)))
              all_goals rfl
        · rw [if_neg h1]
          have hadr : True := trivial
          have hnum := number_t b c bad v (by omega)
          have hfld := fields_t b
          have hput := rd_put c (bad || (numR v).isNone) hl (numV v) hi h1
          refine Tri_of (N := Tryz.f134.ntmps) (c := bodyOf Tryz.f134) Tryz.func134 rfl rfl rfl rfl (fun w0 S0 => ?_)
          repeat' (first | refine SW ?_ | (with_reducible refine HO_rw (congrArg Value.bool (sba_ne _ _)) ?_) | refine SD ?_ | (refine HO_k 10 rfl ?_; refine HO_ixa (j := i) rfl rfl rfl rfl hi rfl rfl rdA ?_) | (refine HO_k 2 rfl ?_; refine HO_ldg (cs := wordsC) rfl rfl (.tail _ (.head _)) hwc rfl rfl rdA ?_) | (refine HO_k 12 rfl ?_; refine HO_callq rfl rfl rfl rfl (hadr) (fun _ _ => rfl) (srcsA) rfl rfl sqA ?_) | (refine HO_k 12 rfl ?_; refine HO_call rfl rfl rfl rfl (hfld) rfl (trivial) rfl rfl soA ?_; intro b1 hb1; dsimp only [List.cons_append, List.nil_append]) | (refine HO_k 12 rfl ?_; refine HO_mv 1 rfl rfl ?_; refine HO_call rfl rfl rfl rfl (hnum) rfl (trivial) rfl rfl soA ?_; intro u hu; dsimp only [List.cons_append, List.nil_append]) | (refine HO_k 17 rfl ?_; refine HO_iva (j := i) rfl rfl rfl rfl hi (ptrs_at b _ hi h1) rfl rfl rdA ?_) | (refine HO_k 3 rfl ?_; refine HO_st (n := 1) rfl rfl rfl rfl rfl hput rfl rfl soA ?_) | exact HO_seg rfl rfl | refine S1 ?_ | (refine S2 ?_; intro _) | (refine S3 ?_; intro _ _) | (refine S4 ?_; intro _ _ _) | (refine HO_g 2 rfl ?_; (first | apply HO_and rfl rfl rfl rfl rfl rfl rfl rfl rfl | apply HO_or rfl rfl rfl rfl rfl rfl rfl rfl rfl)) | refine S5 ?_ | (intro hb; try replace hb := simB hb; try exact kill hb))
          ((first | apply HX_ret | apply HX_retn); (repeat (first | exact Res_nil | apply Res_tmp rfl | apply Res_ce rfl rfl rfl)); unfold RetQ; apply Exists.intro (()); refine ⟨trivial, ?_, ?_⟩; rotate_left 1; (repeat (first | exact Keeps.nil | refine Keeps.own_cons ?_ ?_ ?_ | refine Keeps.arr_cons ?_ ?_ | refine Keeps.cons Ent.rfl_ ?_ | refine Keeps.skip ?_ | refine Keeps.own_none ?_ ?_ ?_ | refine Keeps.arr_none ?_ ?_)))
          all_goals rfl
      · have hw2 : ¬ w' = w := fun e => hw e.symm
        rw [if_neg hw2]
        have hadr : True := trivial
        refine Tri_of (N := Tryz.f134.ntmps) (c := bodyOf Tryz.f134) Tryz.func134 rfl rfl rfl rfl (fun w0 S0 => ?_)
        repeat' (first | refine SW ?_ | (with_reducible refine HO_rw (congrArg Value.bool (sba_ne _ _)) ?_) | refine SD ?_ | (refine HO_k 10 rfl ?_; refine HO_ixa (j := i) rfl rfl rfl rfl hi rfl rfl rdA ?_) | (refine HO_k 2 rfl ?_; refine HO_ldg (cs := wordsC) rfl rfl (.tail _ (.head _)) hwc rfl rfl rdA ?_) | (refine HO_k 12 rfl ?_; refine HO_callq rfl rfl rfl rfl (hadr) (fun _ _ => rfl) (srcsA) rfl rfl sqA ?_) | exact HO_seg rfl rfl | refine S1 ?_ | (refine S2 ?_; intro _) | (refine S3 ?_; intro _ _) | (refine S4 ?_; intro _ _ _) | (refine HO_g 2 rfl ?_; (first | apply HO_and rfl rfl rfl rfl rfl rfl rfl rfl rfl | apply HO_or rfl rfl rfl rfl rfl rfl rfl rfl rfl)) | refine S5 ?_ | (intro hb; try replace hb := simB hb; try exact kill hb))
        ((first | apply HX_ret | apply HX_retn); (repeat (first | exact Res_nil | apply Res_tmp rfl | apply Res_ce rfl rfl rfl)); unfold RetQ; apply Exists.intro (()); refine ⟨trivial, ?_, ?_⟩; rotate_left 1; (repeat (first | exact Keeps.nil | refine Keeps.own_cons ?_ ?_ ?_ | refine Keeps.arr_cons ?_ ?_ | refine Keeps.cons Ent.rfl_ ?_ | refine Keeps.skip ?_ | refine Keeps.own_none ?_ ?_ ?_ | refine Keeps.arr_none ?_ ?_)))
        all_goals rfl
  · have hf : fixX i ws c.q bad = (c.q, true) := by
      unfold fixX
      split
      · exact absurd rfl h2
      · rfl
    rw [hf]
    have hadr : True := trivial
    refine Tri_of (N := Tryz.f134.ntmps) (c := bodyOf Tryz.f134) Tryz.func134 rfl rfl rfl rfl (fun w0 S0 => ?_)
    repeat' (first | refine SW ?_ | ((refine HO_g 2 rfl ?_); (refine HO_skip rfl rfl rfl rfl rdA ?_)) | (with_reducible refine HO_rw (congrArg Value.bool (sba_ne _ _)) ?_) | refine SD ?_ | (refine HO_k 10 rfl ?_; refine HO_ixa (j := i) rfl rfl rfl rfl hi rfl rfl rdA ?_) | (refine HO_k 2 rfl ?_; refine HO_ldg (cs := wordsC) rfl rfl (.tail _ (.head _)) hwc rfl rfl rdA ?_) | (refine HO_k 12 rfl ?_; refine HO_callq rfl rfl rfl rfl (hadr) (fun _ _ => rfl) (srcsA) rfl rfl sqA ?_) | exact HO_seg rfl rfl | refine S1 ?_ | (refine S2 ?_; intro _) | (refine S3 ?_; intro _ _) | (refine S4 ?_; intro _ _ _) | (refine HO_g 2 rfl ?_; (first | apply HO_and rfl rfl rfl rfl rfl rfl rfl rfl rfl | apply HO_or rfl rfl rfl rfl rfl rfl rfl rfl rfl)) | refine S5 ?_ | (intro hb; try replace hb := simB hb; try exact kill hb))
    ((first | apply HX_ret | apply HX_retn); (repeat (first | exact Res_nil | apply Res_tmp rfl | apply Res_ce rfl rfl rfl)); unfold RetQ; apply Exists.intro (()); refine ⟨trivial, ?_, ?_⟩; rotate_left 1; (repeat (first | exact Keeps.nil | refine Keeps.own_cons ?_ ?_ ?_ | refine Keeps.arr_cons ?_ ?_ | refine Keeps.cons Ent.rfl_ ?_ | refine Keeps.skip ?_ | refine Keeps.own_none ?_ ?_ ?_ | refine Keeps.arr_none ?_ ?_)))
    all_goals rfl
end Go.Proofs.YtbhiojedmkcfoaaGreatDoor
