/- A number of a text, as the reader of settings takes it. -/
import Derived.Test.YtbhiojedmkcfoaaGreatDoorCfD
import Derived.Test.YtbhiojedmkcfoaaGreatDoorCfF
import Derived.Lib.AtoiErrMem
namespace Go.Proofs.YtbhiojedmkcfoaaGreatDoor
set_option linter.unusedVariables false
set_option linter.unusedSimpArgs false
open Go.RowKit
attribute [local irreducible] HC HX HO Tri eP adr

theorem dig_iff (b : UInt8) : dig b = true ↔ 48 ≤ b.toNat ∧ b.toNat ≤ 57 := by
  unfold dig digL
  simp only [List.contains_cons, List.contains_nil, Bool.or_false, Bool.or_eq_true, beq_iff_eq]
  constructor
  · rintro (rfl | rfl | rfl | rfl | rfl | rfl | rfl | rfl | rfl | rfl) <;> decide
  · intro h
    have e : b = UInt8.ofNat b.toNat := by simp
    obtain h | h | h | h | h | h | h | h | h | h : b.toNat = 48 ∨ b.toNat = 49 ∨ b.toNat = 50 ∨ b.toNat = 51 ∨ b.toNat = 52 ∨ b.toNat = 53 ∨ b.toNat = 54 ∨ b.toNat = 55 ∨ b.toNat = 56 ∨ b.toNat = 57 := by omega
    all_goals (rw [h] at e; rw [e]; decide)
theorem digs_all : ∀ (l : List UInt8) (a : Nat), (digs a l).isSome = l.all dig
  | [], a => rfl
  | x :: l, a => by
    rw [List.all_cons, digs]
    by_cases h : 48 ≤ x.toNat ∧ x.toNat ≤ 57
    · rw [if_pos h, (dig_iff x).2 h, Bool.true_and]
      exact digs_all l _
    · have hx : dig x = false := by
        cases hd : dig x with
        | false => rfl
        | true => exact absurd ((dig_iff x).1 hd) h
      rw [if_neg h, hx]
      rfl
theorem decFrom_digs : ∀ (l : List UInt8) (a : Nat), Lib.decFrom a l = digs a l
  | [], a => rfl
  | x :: l, a => by
    rw [Lib.decFrom, digs]
    unfold Lib.digitVal
    by_cases h : 48 ≤ x.toNat ∧ x.toNat ≤ 57
    · rw [if_pos h, if_pos h]
      show Lib.decFrom (a * 10 + (x.toNat - 48)) l = _
      rw [decFrom_digs l, Nat.mul_comm]
    · rw [if_neg h, if_neg h]
theorem atoi_digs {l : List UInt8} {n : Nat} (hne : l ≠ []) (h : digs 0 l = some n) : Lib.atoi l = some (n : Int) := by
  match l, hne with
  | x :: t, _ =>
    have hx : 48 ≤ x.toNat ∧ x.toNat ≤ 57 := by
      rw [digs] at h
      split at h
      · assumption
      · cases h
    unfold Lib.atoi
    have h1 : (x == 45) = false := by
      cases he : x == 45 with
      | false => rfl
      | true => rw [beq_iff_eq] at he; subst he; revert hx; decide
    have h2 : (x == 43) = false := by
      cases he : x == 43 with
      | false => rfl
      | true => rw [beq_iff_eq] at he; subst he; revert hx; decide
    simp only [h1, h2, Bool.false_eq_true, if_false]
    unfold Lib.decNat
    simp only [List.isEmpty_cons, Bool.false_eq_true, if_false]
    rw [decFrom_digs, h]
    rfl
theorem atoi_t (l : List UInt8) (n : Nat) (hl : l.length ≤ 18) (hne : l ≠ []) (h : digs 0 l = some n) : Tri Tryz.prog 195 [.string ⟨l.toArray⟩] [] [] (fun _ : Unit => True) (fun _ => .tuple #[.int .i64 n, .nilIface]) (fun _ => []) := by
  refine Tri_below fun w hro => ?_
  refine (Tryz.strconv_Atoi ⟨l.toArray⟩ n (by show l.toArray.size ≤ 18; simpa using hl) (by simpa using atoi_digs hne h) w).mono fun e w' ⟨he, t, hw⟩ => ⟨he, ?_⟩
  rw [hw]
  exact Lib.bytesWorld_below _ _ _
theorem sba_ne (a b : List UInt8) : (!((ByteArray.mk a.toArray).toList == (ByteArray.mk b.toArray).toList)) = !decide (a = b) := by rw [sba_eq]
@[reducible] def TRd : Nat := 125
/-- the reader in memory -/
@[reducible] def rdE (c : CfS) (bad : Bool) : List Value := c.e ++ [.bool bad]
def numV (v : List UInt8) : Int := match numR v with
  | some n => n
  | none => 0
set_option maxHeartbeats 16000000 in
theorem number_t (b : Nat) (c : CfS) (bad : Bool) (v : List UInt8) (hv : v.length ≤ 1000000) : Tri Tryz.prog 136 [pt b, .string ⟨v.toArray⟩] [] [cel b TRd (rdE c bad)] (fun _ : Unit => True) (fun _ => .int .i64 (numV v)) (fun _ => [cel b TRd (rdE c (bad || (numR v).isNone))]) := by
  have ht := strim_t v hv
  have htr := tr_nil v
  match v with
  | [] =>
    have hr : numR [] = none := rfl
    have hb : (bad || (none : Option Nat).isNone) = true := by simp
    unfold numV
    rw [hr, hb]
    refine Tri_of (N := Tryz.f136.ntmps) (c := bodyOf Tryz.f136) Tryz.func136 rfl rfl rfl rfl (fun w0 S0 => ?_)
    repeat' (first | refine SW ?_ | (refine HO_k 8 rfl ?_; refine HO_slen rfl rfl rfl rfl rdA ?_) | refine SD ?_ | exact HO_seg rfl rfl | refine S1 ?_ | (refine S2 ?_; intro _) | (refine S3 ?_; intro _ _) | (refine S4 ?_; intro _ _ _) | (refine HO_g 2 rfl ?_; (first | apply HO_and rfl rfl rfl rfl rfl rfl rfl rfl rfl | apply HO_or rfl rfl rfl rfl rfl rfl rfl rfl rfl)) | refine S5 ?_ | (intro hb; try replace hb := simB hb; try exact kill hb))
    ((first | apply HX_ret | apply HX_retn); (repeat (first | exact Res_nil | apply Res_tmp rfl | apply Res_ce rfl rfl rfl)); unfold RetQ; apply Exists.intro (()); refine ⟨trivial, ?_, ?_⟩; rotate_left 1; (repeat (first | exact Keeps.nil | refine Keeps.own_cons ?_ ?_ ?_ | refine Keeps.arr_cons ?_ ?_ | refine Keeps.cons Ent.rfl_ ?_ | refine Keeps.skip ?_ | refine Keeps.own_none ?_ ?_ ?_ | refine Keeps.arr_none ?_ ?_)))
    all_goals rfl
  | x :: t =>
    have hx : (x :: t)[(0 : Int).toNat]? = some x := rfl
    have hlt : (x :: t).length = t.length + 1 := rfl
    by_cases h16 : 16 < (x :: t).length
    · have hr : numR (x :: t) = none := by unfold numR; rw [if_pos (.inr (.inl h16))]
      have hb : (bad || (none : Option Nat).isNone) = true := by simp
      unfold numV
      rw [hr, hb]
      refine Tri_of (N := Tryz.f136.ntmps) (c := bodyOf Tryz.f136) Tryz.func136 rfl rfl rfl rfl (fun w0 S0 => ?_)
      repeat' (first | refine SW ?_ | (refine HO_k 8 rfl ?_; refine HO_slen rfl rfl rfl rfl rdA ?_) | refine SD ?_ | ((refine HO_g 2 rfl ?_); (refine HO_skip rfl rfl rfl rfl rdA ?_)) | exact HO_seg rfl rfl | refine S1 ?_ | (refine S2 ?_; intro _) | (refine S3 ?_; intro _ _) | (refine S4 ?_; intro _ _ _) | (refine HO_g 2 rfl ?_; (first | apply HO_and rfl rfl rfl rfl rfl rfl rfl rfl rfl | apply HO_or rfl rfl rfl rfl rfl rfl rfl rfl rfl)) | refine S5 ?_ | (intro hb; try replace hb := simB hb; try exact kill hb))
      ((first | apply HX_ret | apply HX_retn); (repeat (first | exact Res_nil | apply Res_tmp rfl | apply Res_ce rfl rfl rfl)); unfold RetQ; apply Exists.intro (()); refine ⟨trivial, ?_, ?_⟩; rotate_left 1; (repeat (first | exact Keeps.nil | refine Keeps.own_cons ?_ ?_ ?_ | refine Keeps.arr_cons ?_ ?_ | refine Keeps.cons Ent.rfl_ ?_ | refine Keeps.skip ?_ | refine Keeps.own_none ?_ ?_ ?_ | refine Keeps.arr_none ?_ ?_)))
      all_goals rfl
    by_cases h0 : x.toNat = 48 ∧ 1 < (x :: t).length
    · have hx0 : x = 48 := UInt8.toNat_inj.1 h0.1
      have hr : numR (x :: t) = none := by unfold numR; rw [if_pos (.inr (.inr ⟨by rw [hx0]; rfl, h0.2⟩))]
      obtain ⟨h01, h02⟩ := h0
      have hb : (bad || (none : Option Nat).isNone) = true := by simp
      unfold numV
      rw [hr, hb]
      refine Tri_of (N := Tryz.f136.ntmps) (c := bodyOf Tryz.f136) Tryz.func136 rfl rfl rfl rfl (fun w0 S0 => ?_)
      repeat' (first | refine SW ?_ | (with_reducible refine HO_rw (congrArg Value.bool (sba_ne _ _)) ?_) | (with_reducible refine HO_rw (congrArg Value.bool (congrArg not htr)) ?_) | (refine HO_k 8 rfl ?_; refine HO_slen rfl rfl rfl rfl rdA ?_) | refine SD ?_ | (refine HO_k 17 rfl ?_; refine HO_sidx rfl rfl rfl (by omega) (hx) rfl rfl rdA ?_) | (refine HO_k 12 rfl ?_; refine HO_callq rfl rfl rfl rfl (ht) (fun _ _ => rfl) (trivial) rfl rfl sqA ?_) | exact HO_seg rfl rfl | refine S1 ?_ | (refine S2 ?_; intro _) | (refine S3 ?_; intro _ _) | (refine S4 ?_; intro _ _ _) | (refine HO_g 2 rfl ?_; (first | apply HO_and rfl rfl rfl rfl rfl rfl rfl rfl rfl | apply HO_or rfl rfl rfl rfl rfl rfl rfl rfl rfl)) | refine S5 ?_ | (intro hb; try replace hb := simB hb; try exact kill hb))
      ((first | apply HX_ret | apply HX_retn); (repeat (first | exact Res_nil | apply Res_tmp rfl | apply Res_ce rfl rfl rfl)); unfold RetQ; apply Exists.intro (()); refine ⟨trivial, ?_, ?_⟩; rotate_left 1; (repeat (first | exact Keeps.nil | refine Keeps.own_cons ?_ ?_ ?_ | refine Keeps.arr_cons ?_ ?_ | refine Keeps.cons Ent.rfl_ ?_ | refine Keeps.skip ?_ | refine Keeps.own_none ?_ ?_ ?_ | refine Keeps.arr_none ?_ ?_)))
      all_goals rfl
    have hnr : numR (x :: t) = digs 0 (x :: t) := by
      unfold numR
      rw [if_neg]
      rintro (a | a | ⟨a, a2⟩)
      · omega
      · omega
      · injection a with a
        exact h0 ⟨by rw [a]; rfl, a2⟩
    have hall := digs_all (x :: t) 0
    cases hd : digs 0 (x :: t) with
    | none =>
      have hr : numR (x :: t) = none := hnr.trans hd
      rw [hd] at hall
      have hal : (x :: t).all dig = false := hall.symm
      rw [hal] at htr
      have hne : ¬ trL (trR (x :: t)) = [] := of_decide_eq_false htr
      by_cases h48 : x.toNat = 48
      · have hl1 : ¬ 1 < (x :: t).length := fun h => h0 ⟨h48, h⟩
        have hb : (bad || (none : Option Nat).isNone) = true := by simp
        unfold numV
        rw [hr, hb]
        refine Tri_of (N := Tryz.f136.ntmps) (c := bodyOf Tryz.f136) Tryz.func136 rfl rfl rfl rfl (fun w0 S0 => ?_)
        repeat' (first | refine SW ?_ | (with_reducible refine HO_rw (congrArg Value.bool (sba_ne _ _)) ?_) | (with_reducible refine HO_rw (congrArg Value.bool (congrArg not htr)) ?_) | (refine HO_k 8 rfl ?_; refine HO_slen rfl rfl rfl rfl rdA ?_) | refine SD ?_ | (refine HO_k 17 rfl ?_; refine HO_sidx rfl rfl rfl (by omega) (hx) rfl rfl rdA ?_) | (refine HO_k 12 rfl ?_; refine HO_callq rfl rfl rfl rfl (ht) (fun _ _ => rfl) (trivial) rfl rfl sqA ?_) | exact HO_seg rfl rfl | refine S1 ?_ | (refine S2 ?_; intro _) | (refine S3 ?_; intro _ _) | (refine S4 ?_; intro _ _ _) | (refine HO_g 2 rfl ?_; (first | apply HO_and rfl rfl rfl rfl rfl rfl rfl rfl rfl | apply HO_or rfl rfl rfl rfl rfl rfl rfl rfl rfl)) | refine S5 ?_ | (intro hb; try replace hb := simB hb; try exact kill hb))
        ((first | apply HX_ret | apply HX_retn); (repeat (first | exact Res_nil | apply Res_tmp rfl | apply Res_ce rfl rfl rfl)); unfold RetQ; apply Exists.intro (()); refine ⟨trivial, ?_, ?_⟩; rotate_left 1; (repeat (first | exact Keeps.nil | refine Keeps.own_cons ?_ ?_ ?_ | refine Keeps.arr_cons ?_ ?_ | refine Keeps.cons Ent.rfl_ ?_ | refine Keeps.skip ?_ | refine Keeps.own_none ?_ ?_ ?_ | refine Keeps.arr_none ?_ ?_)))
        all_goals rfl
      · have hb : (bad || (none : Option Nat).isNone) = true := by simp
        unfold numV
        rw [hr, hb]
        refine Tri_of (N := Tryz.f136.ntmps) (c := bodyOf Tryz.f136) Tryz.func136 rfl rfl rfl rfl (fun w0 S0 => ?_)
        repeat' (first | refine SW ?_ | (with_reducible refine HO_rw (congrArg Value.bool (sba_ne _ _)) ?_) | (with_reducible refine HO_rw (congrArg Value.bool (congrArg not htr)) ?_) | (refine HO_k 8 rfl ?_; refine HO_slen rfl rfl rfl rfl rdA ?_) | refine SD ?_ | (refine HO_k 17 rfl ?_; refine HO_sidx rfl rfl rfl (by omega) (hx) rfl rfl rdA ?_) | (refine HO_k 12 rfl ?_; refine HO_callq rfl rfl rfl rfl (ht) (fun _ _ => rfl) (trivial) rfl rfl sqA ?_) | exact HO_seg rfl rfl | refine S1 ?_ | (refine S2 ?_; intro _) | (refine S3 ?_; intro _ _) | (refine S4 ?_; intro _ _ _) | (refine HO_g 2 rfl ?_; (first | apply HO_and rfl rfl rfl rfl rfl rfl rfl rfl rfl | apply HO_or rfl rfl rfl rfl rfl rfl rfl rfl rfl)) | refine S5 ?_ | (intro hb; try replace hb := simB hb; try exact kill hb))
        ((first | apply HX_ret | apply HX_retn); (repeat (first | exact Res_nil | apply Res_tmp rfl | apply Res_ce rfl rfl rfl)); unfold RetQ; apply Exists.intro (()); refine ⟨trivial, ?_, ?_⟩; rotate_left 1; (repeat (first | exact Keeps.nil | refine Keeps.own_cons ?_ ?_ ?_ | refine Keeps.arr_cons ?_ ?_ | refine Keeps.cons Ent.rfl_ ?_ | refine Keeps.skip ?_ | refine Keeps.own_none ?_ ?_ ?_ | refine Keeps.arr_none ?_ ?_)))
        all_goals rfl
    | some n =>
      have hr : numR (x :: t) = some n := hnr.trans hd
      rw [hd] at hall
      have hal : (x :: t).all dig = true := hall.symm
      rw [hal] at htr
      have hne : trL (trR (x :: t)) = [] := of_decide_eq_true htr
      have ha := atoi_t (x :: t) n (by omega) (by simp) hd
      have hb : (bad || (some n : Option Nat).isNone) = bad := by simp
      unfold numV
      rw [hr, hb]
      by_cases h48 : x.toNat = 48
      · have hl1 : ¬ 1 < (x :: t).length := fun h => h0 ⟨h48, h⟩
        refine Tri_of (N := Tryz.f136.ntmps) (c := bodyOf Tryz.f136) Tryz.func136 rfl rfl rfl rfl (fun w0 S0 => ?_)
        repeat' (first | refine SW ?_ | (with_reducible refine HO_rw (congrArg Value.bool (sba_ne _ _)) ?_) | (with_reducible refine HO_rw (congrArg Value.bool (congrArg not htr)) ?_) | (refine HO_k 8 rfl ?_; refine HO_slen rfl rfl rfl rfl rdA ?_) | refine SD ?_ | (refine HO_k 17 rfl ?_; refine HO_sidx rfl rfl rfl (by omega) (hx) rfl rfl rdA ?_) | (refine HO_k 12 rfl ?_; refine HO_callq rfl rfl rfl rfl (ht) (fun _ _ => rfl) (trivial) rfl rfl sqA ?_) | (refine HO_k 12 rfl ?_; refine HO_callq rfl rfl rfl rfl (ha) (fun _ _ => rfl) (trivial) rfl rfl sqA ?_) | exact HO_seg rfl rfl | refine S1 ?_ | (refine S2 ?_; intro _) | (refine S3 ?_; intro _ _) | (refine S4 ?_; intro _ _ _) | (refine HO_g 2 rfl ?_; (first | apply HO_and rfl rfl rfl rfl rfl rfl rfl rfl rfl | apply HO_or rfl rfl rfl rfl rfl rfl rfl rfl rfl)) | refine S5 ?_ | (intro hb; try replace hb := simB hb; try exact kill hb))
        ((first | apply HX_ret | apply HX_retn); (repeat (first | exact Res_nil | apply Res_tmp rfl | apply Res_ce rfl rfl rfl)); unfold RetQ; apply Exists.intro (()); refine ⟨trivial, ?_, ?_⟩; rotate_left 1; (repeat (first | exact Keeps.nil | refine Keeps.own_cons ?_ ?_ ?_ | refine Keeps.arr_cons ?_ ?_ | refine Keeps.cons Ent.rfl_ ?_ | refine Keeps.skip ?_ | refine Keeps.own_none ?_ ?_ ?_ | refine Keeps.arr_none ?_ ?_)))
        all_goals rfl
      · refine Tri_of (N := Tryz.f136.ntmps) (c := bodyOf Tryz.f136) Tryz.func136 rfl rfl rfl rfl (fun w0 S0 => ?_)
        repeat' (first | refine SW ?_ | (with_reducible refine HO_rw (congrArg Value.bool (sba_ne _ _)) ?_) | (with_reducible refine HO_rw (congrArg Value.bool (congrArg not htr)) ?_) | (refine HO_k 8 rfl ?_; refine HO_slen rfl rfl rfl rfl rdA ?_) | refine SD ?_ | (refine HO_k 17 rfl ?_; refine HO_sidx rfl rfl rfl (by omega) (hx) rfl rfl rdA ?_) | (refine HO_k 12 rfl ?_; refine HO_callq rfl rfl rfl rfl (ht) (fun _ _ => rfl) (trivial) rfl rfl sqA ?_) | (refine HO_k 12 rfl ?_; refine HO_callq rfl rfl rfl rfl (ha) (fun _ _ => rfl) (trivial) rfl rfl sqA ?_) | exact HO_seg rfl rfl | refine S1 ?_ | (refine S2 ?_; intro _) | (refine S3 ?_; intro _ _) | (refine S4 ?_; intro _ _ _) | (refine HO_g 2 rfl ?_; (first | apply HO_and rfl rfl rfl rfl rfl rfl rfl rfl rfl | apply HO_or rfl rfl rfl rfl rfl rfl rfl rfl rfl)) | refine S5 ?_ | (intro hb; try replace hb := simB hb; try exact kill hb))
        ((first | apply HX_ret | apply HX_retn); (repeat (first | exact Res_nil | apply Res_tmp rfl | apply Res_ce rfl rfl rfl)); unfold RetQ; apply Exists.intro (()); refine ⟨trivial, ?_, ?_⟩; rotate_left 1; (repeat (first | exact Keeps.nil | refine Keeps.own_cons ?_ ?_ ?_ | refine Keeps.arr_cons ?_ ?_ | refine Keeps.cons Ent.rfl_ ?_ | refine Keeps.skip ?_ | refine Keeps.own_none ?_ ?_ ?_ | refine Keeps.arr_none ?_ ?_)))
        all_goals rfl
end Go.Proofs.YtbhiojedmkcfoaaGreatDoor
