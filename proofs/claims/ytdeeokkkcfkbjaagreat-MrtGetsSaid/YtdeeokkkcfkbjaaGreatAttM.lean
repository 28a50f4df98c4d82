/- attr's reading of an attribute of a type. -/
import Derived.Test.YtdeeokkkcfkbjaaGreatAttL
namespace Go.Proofs.YtdeeokkkcfkbjaaGreat
set_option linter.unusedVariables false
set_option linter.unusedSimpArgs false
open Go.RowKit
attribute [local irreducible] HC HX HO Tri eP adr

/-- all pieces of attributes that are read -/
@[reducible] def attP (b : Nat) (a : AttS) (four : Bool) (seen : Int) : List SL := [cel b TG (rgC a four seen), ownS a.pA a.pc a.path, inn (segPs a.path), ownI a.cA a.cc a.comms]
theorem ge_one (x : UInt8) : ge [x] = x.toNat := by simp [ge]
theorem comms_bad (b : Nat) (a : AttS) (four : Bool) (seen : Int) (dA : Option Addr) (dc : Nat) (d : List UInt8) (hb : d.length = 0 ∨ d.length % 4 ≠ 0 ∨ 128 < d.length) :
    Tri Tryz.prog 116 [pt b, .slice dA d.length dc] [arr bE 1 dA d] [cel b TG (rgC a four seen)] (fun _ : Unit => True) (fun _ => .bool false) (fun _ => [cel b TG (rgC a four seen)]) := by
  have hrem : bRem (d.length : Int) 4 = ((d.length % 4 : Nat) : Int) := by unfold bRem; rw [Int.tmod_eq_emod_of_nonneg (by omega)]; rfl
  refine Tri_of (N := Tryz.f116.ntmps) (c := bodyOf Tryz.f116) Tryz.func116 rfl rfl rfl rfl (fun w0 S0 => ?_)
  dsimp only [pt]
  repeat' (first | refine SW ?_ | (with_reducible refine HO_rw (congrArg (Value.int .i64) hrem) ?_) | exact HO_seg rfl rfl | refine S1 ?_ | (refine S2 ?_; intro _) | (refine S3 ?_; intro _ _) | (refine S4 ?_; intro _ _ _) | (refine HO_g 2 rfl ?_; (first | apply HO_and rfl rfl rfl rfl rfl rfl rfl rfl rfl | apply HO_or rfl rfl rfl rfl rfl rfl rfl rfl rfl)) | refine S5 ?_ | (intro hb; try replace hb := simB hb; try exact kill hb))
  all_goals try exact false
  refine HC_cond rfl rfl (fun hc => ?_) (fun hc => by exfalso; simp only [Bool.or_eq_false_iff, decide_eq_false_iff_not, Bool.not_eq_false', decide_eq_true_eq] at hc; omega)
  repeat' (first | refine SW ?_ | exact HO_seg rfl rfl | refine S1 ?_ | (refine S2 ?_; intro _) | (refine S3 ?_; intro _ _) | (refine S4 ?_; intro _ _ _) | (refine HO_g 2 rfl ?_; (first | apply HO_and rfl rfl rfl rfl rfl rfl rfl rfl rfl | apply HO_or rfl rfl rfl rfl rfl rfl rfl rfl rfl)) | refine S5 ?_ | (intro hb; try replace hb := simB hb; try exact kill hb))
  ((first | apply HX_ret | apply HX_retn); (repeat (first | exact Res_nil | apply Res_tmp rfl | apply Res_ce rfl rfl rfl)); unfold RetQ; refine ⟨(), trivial, rfl, permA⟩)
theorem updN_num (k : Nat) (hk : k = 3 ∨ k = 4 ∨ k = 5) (w : Nat) (a : AttS) (d : List UInt8) :
    (setG w a.pa k d).isSome = (decide ((d.length : Int) = 4) && (!decide ((k : Int) = 3) || !decide ((ngetR d).1 = 0))) ∧ ∀ p, setG w a.pa k d = some p → (updN k a (ngetR d).1).pa = p := by
  by_cases hl : d.length = 4
  · have hg : (ngetR d).1 = (ge d : Int) := ge4 hl
    have h4 := ge_four hl
    have hw : IntKind.u32.wrap (ge d : Int) = (ge d : Int) := by have : Value.int .u32 (IntKind.u32.wrap (ge d : Int)) = Value.int .u32 (ge d : Int) := wrap_u32 ⟨by omega, h4⟩; injection this
    have hlt : decide ((d.length : Int) = 4) = true := decide_eq_true (by omega)
    rw [hg, hlt]
    rcases hk with rfl | rfl | rfl
    · have e : setG w a.pa 3 d = if ge d = 0 then none else some { a.pa with nxt := ge d } := by
        unfold setG
        rw [if_neg (by decide), if_neg (by decide), if_neg (by decide), if_neg (by omega), if_pos rfl]
      rw [e]
      by_cases h0 : ge d = 0
      · rw [if_pos h0, h0]
        exact ⟨rfl, fun p hp => by cases hp⟩
      · rw [if_neg h0]
        refine ⟨?_, fun p hp => ?_⟩
        · have : decide ((ge d : Int) = 0) = false := decide_eq_false (by omega)
          rw [this]; rfl
        · injection hp with hp
          rw [← hp]
          unfold updN AttS.pa
          rw [if_pos rfl, hw]
    · have e : setG w a.pa 4 d = some { a.pa with med := ge d } := by
        unfold setG
        rw [if_neg (by decide), if_neg (by decide), if_neg (by decide), if_neg (by omega), if_neg (by decide), if_pos rfl]
      rw [e]
      exact ⟨rfl, fun p hp => by injection hp⟩
    · have e : setG w a.pa 5 d = some { a.pa with pref := ge d } := by
        unfold setG
        rw [if_neg (by decide), if_neg (by decide), if_neg (by decide), if_neg (by omega), if_neg (by decide), if_neg (by decide)]
      rw [e]
      exact ⟨rfl, fun p hp => by injection hp⟩
  · have e : setG w a.pa k d = none := by
      unfold setG
      rw [if_neg (by omega), if_neg (by omega), if_neg (by omega), if_pos hl]
    have hlf : decide ((d.length : Int) = 4) = false := decide_eq_false (by omega)
    rw [e, hlf]
    exact ⟨rfl, fun p hp => by cases hp⟩
set_option maxHeartbeats 8000000 in
theorem set_t (b : Nat) (a : AttS) (four : Bool) (seen : Int) (k : Nat) (hk : k = 1 ∨ k = 2 ∨ k = 3 ∨ k = 4 ∨ k = 5 ∨ k = 8) (dA : Option Addr) (dc : Nat) (d : List UInt8) (hd : d.length ≤ 100000) (hdc : d.length ≤ dc) (h2 : k = 2 → a.path = []) (h8 : k = 8 → a.comms = []) :
    Tri Tryz.prog 114 [pt b, .int .i64 k, .slice dA d.length dc] [arr bE 1 dA d] (attP b a four seen) (fun a' : AttS => ∀ p, setG (szF four) a.pa k d = some p → a'.pa = p) (fun _ => .bool (setG (szF four) a.pa k d).isSome)
      (fun a' => attP b a' four seen) := by
  rcases hk with rfl | rfl | hk | hk | hk | rfl
  · -- origin
    rcases d with _ | ⟨x, _ | ⟨y, d⟩⟩
    · have e : setG (szF four) a.pa 1 [] = none := by unfold setG; rw [if_pos rfl, if_pos (by simp)]
      rw [e]
      refine Tri_of (N := Tryz.f114.ntmps) (c := bodyOf Tryz.f114) Tryz.func114 rfl rfl rfl rfl (fun w0 S0 => ?_)
      dsimp only [pt, attP]
      repeat' (first | refine SW ?_ | refine SD ?_ | exact HO_seg rfl rfl | refine S1 ?_ | (refine S2 ?_; intro _) | (refine S3 ?_; intro _ _) | (refine S4 ?_; intro _ _ _) | (refine HO_g 2 rfl ?_; (first | apply HO_and rfl rfl rfl rfl rfl rfl rfl rfl rfl | apply HO_or rfl rfl rfl rfl rfl rfl rfl rfl rfl)) | refine S5 ?_ | (intro hb; try replace hb := simB hb; try exact kill hb))
      ((first | apply HX_ret | apply HX_retn); (repeat (first | exact Res_nil | apply Res_tmp rfl | apply Res_ce rfl rfl rfl)); unfold RetQ; refine ⟨a, (fun p hp => by cases hp), rfl, Keeps.refl⟩)
    · have hx := x.toNat_lt
      by_cases h2x : x.toNat ≤ 2
      · have e : setG (szF four) a.pa 1 [x] = some { a.pa with org := x.toNat } := by unfold setG; rw [if_pos rfl, if_neg (by simp [ge_one]; omega), ge_one]
        rw [e]
        refine Tri_of (N := Tryz.f114.ntmps) (c := bodyOf Tryz.f114) Tryz.func114 rfl rfl rfl rfl (fun w0 S0 => ?_)
        dsimp only [pt, attP]
        repeat' (first | refine SW ?_ | refine SD ?_ | exact HO_seg rfl rfl | refine S1 ?_ | (refine S2 ?_; intro _) | (refine S3 ?_; intro _ _) | (refine S4 ?_; intro _ _ _) | (refine HO_g 2 rfl ?_; (first | apply HO_and rfl rfl rfl rfl rfl rfl rfl rfl rfl | apply HO_or rfl rfl rfl rfl rfl rfl rfl rfl rfl)) | refine S5 ?_ | (intro hb; try replace hb := simB hb; try exact kill hb))
        ((first | apply HX_ret | apply HX_retn); (repeat (first | exact Res_nil | apply Res_tmp rfl | apply Res_ce rfl rfl rfl)); unfold RetQ; refine ⟨{ a with org := x.toNat }, (fun p hp => by injection hp), rfl, Keeps.refl⟩)
      · have e : setG (szF four) a.pa 1 [x] = none := by unfold setG; rw [if_pos rfl, if_pos (by simp [ge_one]; omega)]
        rw [e]
        refine Tri_of (N := Tryz.f114.ntmps) (c := bodyOf Tryz.f114) Tryz.func114 rfl rfl rfl rfl (fun w0 S0 => ?_)
        dsimp only [pt, attP]
        repeat' (first | refine SW ?_ | refine SD ?_ | exact HO_seg rfl rfl | refine S1 ?_ | (refine S2 ?_; intro _) | (refine S3 ?_; intro _ _) | (refine S4 ?_; intro _ _ _) | (refine HO_g 2 rfl ?_; (first | apply HO_and rfl rfl rfl rfl rfl rfl rfl rfl rfl | apply HO_or rfl rfl rfl rfl rfl rfl rfl rfl rfl)) | refine S5 ?_ | (intro hb; try replace hb := simB hb; try exact kill hb))
        ((first | apply HX_ret | apply HX_retn); (repeat (first | exact Res_nil | apply Res_tmp rfl | apply Res_ce rfl rfl rfl)); unfold RetQ; refine ⟨a, (fun p hp => by cases hp), rfl, Keeps.refl⟩)
    · have e : setG (szF four) a.pa 1 (x :: y :: d) = none := by unfold setG; rw [if_pos rfl, if_pos (by simp)]
      have hne : ¬ (((x :: y :: d).length : Nat) : Int) = 1 := by simp; omega
      rw [e]
      refine Tri_of (N := Tryz.f114.ntmps) (c := bodyOf Tryz.f114) Tryz.func114 rfl rfl rfl rfl (fun w0 S0 => ?_)
      dsimp only [pt, attP]
      repeat' (first | refine SW ?_ | refine SD ?_ | exact HO_seg rfl rfl | refine S1 ?_ | (refine S2 ?_; intro _) | (refine S3 ?_; intro _ _) | (refine S4 ?_; intro _ _ _) | (refine HO_g 2 rfl ?_; (first | apply HO_and rfl rfl rfl rfl rfl rfl rfl rfl rfl | apply HO_or rfl rfl rfl rfl rfl rfl rfl rfl rfl)) | refine S5 ?_ | (intro hb; try replace hb := simB hb; try exact kill hb))
      ((first | apply HX_ret | apply HX_retn); (repeat (first | exact Res_nil | apply Res_tmp rfl | apply Res_ce rfl rfl rfl)); unfold RetQ; refine ⟨a, (fun p hp => by cases hp), rfl, Keeps.refl⟩)
  · -- path
    have hp := h2 rfl
    have hs := segs_t b a four seen dA dc d hd (by rw [hp]; simp)
    have e1 : setG (szF four) a.pa 2 d = match segsR (szF four) (spl a.path) d with
        | none => none
        | some p => some { a.pa with path := p } := by
      unfold setG segsR
      rw [if_neg (by decide), if_pos rfl, hp]
      rfl
    obtain ⟨res, hres⟩ : ∃ res, segsR (szF four) (spl a.path) d = res := ⟨_, rfl⟩
    rw [hres] at hs e1
    have e2 : (setG (szF four) a.pa 2 d).isSome = res.isSome := by rw [e1]; cases res <;> rfl
    rw [e2]
    refine Tri_of (N := Tryz.f114.ntmps) (c := bodyOf Tryz.f114) Tryz.func114 rfl rfl rfl rfl (fun w0 S0 => ?_)
    dsimp only [pt, attP]
    repeat' (first | refine SW ?_ | refine SD ?_ | (refine HO_k 12 rfl ?_; refine HO_call rfl rfl rfl rfl (hs) rfl (srcsA) rfl rfl soA ?_; intro ⟨⟨xA, xc⟩, xl⟩ hx; dsimp only [segP, List.cons_append, List.nil_append]) | exact HO_seg rfl rfl | refine S1 ?_ | (refine S2 ?_; intro _) | (refine S3 ?_; intro _ _) | (refine S4 ?_; intro _ _ _) | (refine HO_g 2 rfl ?_; (first | apply HO_and rfl rfl rfl rfl rfl rfl rfl rfl rfl | apply HO_or rfl rfl rfl rfl rfl rfl rfl rfl rfl)) | refine S5 ?_ | (intro hb; try replace hb := simB hb; try exact kill hb))
    refine HX_keeps (rw' := attP b { a with pA := xA, pc := xc, path := xl } four seen) permA ?_
    ((first | apply HX_ret | apply HX_retn); (repeat (first | exact Res_nil | apply Res_tmp rfl | apply Res_ce rfl rfl rfl)); unfold RetQ; refine ⟨{ a with pA := xA, pc := xc, path := xl }, (fun p hq => by
      rw [e1] at hq
      cases res with
      | none => cases hq
      | some q =>
        injection hq with hq
        rw [← hq]
        unfold AttS.pa
        rw [hx q rfl]), rfl, Keeps.refl⟩)
  · obtain ⟨e1, e2⟩ := updN_num k (.inl hk) (szF four) a d
    have hnum := number_t b a four seen k (.inl hk) dA dc d
    rw [e1]
    subst hk
    refine Tri_of (N := Tryz.f114.ntmps) (c := bodyOf Tryz.f114) Tryz.func114 rfl rfl rfl rfl (fun w0 S0 => ?_)
    dsimp only [pt, attP]
    repeat' (first | refine SW ?_ | refine SD ?_ | (refine HO_k 12 rfl ?_; refine HO_call rfl rfl rfl rfl (hnum) rfl (srcsA) rfl rfl soA ?_; intro _ _; dsimp only [List.cons_append, List.nil_append]) | exact HO_seg rfl rfl | refine S1 ?_ | (refine S2 ?_; intro _) | (refine S3 ?_; intro _ _) | (refine S4 ?_; intro _ _ _) | (refine HO_g 2 rfl ?_; (first | apply HO_and rfl rfl rfl rfl rfl rfl rfl rfl rfl | apply HO_or rfl rfl rfl rfl rfl rfl rfl rfl rfl)) | refine S5 ?_ | (intro hb; try replace hb := simB hb; try exact kill hb))
    ((first | apply HX_ret | apply HX_retn); (repeat (first | exact Res_nil | apply Res_tmp rfl | apply Res_ce rfl rfl rfl)); unfold RetQ; refine ⟨updN 3 a (ngetR d).1, e2, rfl, Keeps.refl⟩)
  · obtain ⟨e1, e2⟩ := updN_num k (.inr (.inl hk)) (szF four) a d
    have hnum := number_t b a four seen k (.inr (.inl hk)) dA dc d
    rw [e1]
    subst hk
    refine Tri_of (N := Tryz.f114.ntmps) (c := bodyOf Tryz.f114) Tryz.func114 rfl rfl rfl rfl (fun w0 S0 => ?_)
    dsimp only [pt, attP]
    repeat' (first | refine SW ?_ | refine SD ?_ | (refine HO_k 12 rfl ?_; refine HO_call rfl rfl rfl rfl (hnum) rfl (srcsA) rfl rfl soA ?_; intro _ _; dsimp only [List.cons_append, List.nil_append]) | exact HO_seg rfl rfl | refine S1 ?_ | (refine S2 ?_; intro _) | (refine S3 ?_; intro _ _) | (refine S4 ?_; intro _ _ _) | (refine HO_g 2 rfl ?_; (first | apply HO_and rfl rfl rfl rfl rfl rfl rfl rfl rfl | apply HO_or rfl rfl rfl rfl rfl rfl rfl rfl rfl)) | refine S5 ?_ | (intro hb; try replace hb := simB hb; try exact kill hb))
    ((first | apply HX_ret | apply HX_retn); (repeat (first | exact Res_nil | apply Res_tmp rfl | apply Res_ce rfl rfl rfl)); unfold RetQ; refine ⟨updN 4 a (ngetR d).1, e2, rfl, Keeps.refl⟩)
  · obtain ⟨e1, e2⟩ := updN_num k (.inr (.inr hk)) (szF four) a d
    have hnum := number_t b a four seen k (.inr (.inr hk)) dA dc d
    rw [e1]
    subst hk
    refine Tri_of (N := Tryz.f114.ntmps) (c := bodyOf Tryz.f114) Tryz.func114 rfl rfl rfl rfl (fun w0 S0 => ?_)
    dsimp only [pt, attP]
    repeat' (first | refine SW ?_ | refine SD ?_ | (refine HO_k 12 rfl ?_; refine HO_call rfl rfl rfl rfl (hnum) rfl (srcsA) rfl rfl soA ?_; intro _ _; dsimp only [List.cons_append, List.nil_append]) | exact HO_seg rfl rfl | refine S1 ?_ | (refine S2 ?_; intro _) | (refine S3 ?_; intro _ _) | (refine S4 ?_; intro _ _ _) | (refine HO_g 2 rfl ?_; (first | apply HO_and rfl rfl rfl rfl rfl rfl rfl rfl rfl | apply HO_or rfl rfl rfl rfl rfl rfl rfl rfl rfl)) | refine S5 ?_ | (intro hb; try replace hb := simB hb; try exact kill hb))
    ((first | apply HX_ret | apply HX_retn); (repeat (first | exact Res_nil | apply Res_tmp rfl | apply Res_ce rfl rfl rfl)); unfold RetQ; refine ⟨updN 5 a (ngetR d).1, e2, rfl, Keeps.refl⟩)
  · have h0 := h8 rfl
    by_cases hb : d.length = 0 ∨ d.length % 4 ≠ 0 ∨ 128 < d.length
    · have e : setG (szF four) a.pa 8 d = none := by unfold setG; rw [if_neg (by decide), if_neg (by decide), if_pos rfl, if_pos hb]
      rw [e]
      refine Tri_of (N := Tryz.f114.ntmps) (c := bodyOf Tryz.f114) Tryz.func114 rfl rfl rfl rfl (fun w0 S0 => ?_)
      dsimp only [pt, attP]
      repeat' (first | refine SW ?_ | refine SD ?_ | (refine HO_k 12 rfl ?_; refine HO_call rfl rfl rfl rfl (comms_bad b a four seen dA dc d hb) rfl (srcsA) rfl rfl soA ?_; intro _ _; dsimp only [List.cons_append, List.nil_append]) | exact HO_seg rfl rfl | refine S1 ?_ | (refine S2 ?_; intro _) | (refine S3 ?_; intro _ _) | (refine S4 ?_; intro _ _ _) | (refine HO_g 2 rfl ?_; (first | apply HO_and rfl rfl rfl rfl rfl rfl rfl rfl rfl | apply HO_or rfl rfl rfl rfl rfl rfl rfl rfl rfl)) | refine S5 ?_ | (intro hb; try replace hb := simB hb; try exact kill hb))
      ((first | apply HX_ret | apply HX_retn); (repeat (first | exact Res_nil | apply Res_tmp rfl | apply Res_ce rfl rfl rfl)); unfold RetQ; refine ⟨a, (fun p hp => by cases hp), rfl, Keeps.refl⟩)
    · have e : setG (szF four) a.pa 8 d = some { a.pa with comms := numsG 4 (d.length / 4) d } := by unfold setG; rw [if_neg (by decide), if_neg (by decide), if_pos rfl, if_neg hb]
      have hcm := comms_t b a four seen dA dc d hdc (d.length / 4) (by omega) (by omega) (by omega) (by rw [h0]; simp)
      rw [h0, List.nil_append] at hcm
      rw [e]
      obtain ⟨org, pA, pc, path, nxt, med, pref, cA, cc, comms⟩ := a
      dsimp only at h0 hcm
      subst h0
      refine Tri_of (N := Tryz.f114.ntmps) (c := bodyOf Tryz.f114) Tryz.func114 rfl rfl rfl rfl (fun w0 S0 => ?_)
      dsimp only [pt, attP]
      repeat' (first | refine SW ?_ | refine SD ?_ | (refine HO_k 12 rfl ?_; refine HO_mv 3 rfl rfl ?_; refine HO_mv 1 rfl rfl ?_; refine HO_call rfl rfl rfl rfl (hcm) rfl (srcsA) rfl rfl soA ?_; intro ⟨xA, xc⟩ hx; dsimp only [List.cons_append, List.nil_append]) | exact HO_seg rfl rfl | refine S1 ?_ | (refine S2 ?_; intro _) | (refine S3 ?_; intro _ _) | (refine S4 ?_; intro _ _ _) | (refine HO_g 2 rfl ?_; (first | apply HO_and rfl rfl rfl rfl rfl rfl rfl rfl rfl | apply HO_or rfl rfl rfl rfl rfl rfl rfl rfl rfl)) | refine S5 ?_ | (intro hb; try replace hb := simB hb; try exact kill hb))
      ((first | apply HX_ret | apply HX_retn); (repeat (first | exact Res_nil | apply Res_tmp rfl | apply Res_ce rfl rfl rfl)); unfold RetQ; refine ⟨⟨org, pA, pc, path, nxt, med, pref, xA, xc, numsG 4 (d.length / 4) d⟩, (fun p hp => by injection hp), rfl, permA⟩)
end Go.Proofs.YtdeeokkkcfkbjaaGreat
