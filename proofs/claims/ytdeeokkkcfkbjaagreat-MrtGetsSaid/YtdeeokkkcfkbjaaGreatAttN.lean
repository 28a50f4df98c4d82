/- attr's reading of all attributes. -/
import Derived.Test.YtdeeokkkcfkbjaaGreatAttM
namespace Go.Proofs.YtdeeokkkcfkbjaaGreat
set_option linter.unusedVariables false
set_option linter.unusedSimpArgs false
open Go.RowKit
attribute [local irreducible] HC HX HO Tri eP adr

theorem and128 : ∀ f, f < 256 → bAnd .i64 (f : Nat) 128 = if 128 ≤ f then 128 else 0 := by decide +kernel
theorem and224 : ∀ f, f < 256 → bAnd .i64 (f : Nat) 224 = ((f / 32 * 32 : Nat) : Int) := by decide +kernel
theorem and16 : ∀ f, f < 256 → bAnd .i64 (f : Nat) 16 = ((f / 16 % 2 * 16 : Nat) : Int) := by decide +kernel
theorem quo16 : ∀ f, f < 256 → bQuo .i64 ((f / 16 % 2 * 16 : Nat) : Int) 16 = ((f / 16 % 2 : Nat) : Int) := by decide +kernel
theorem shl32 : ∀ k, k < 9 → bShl .u32 1 k = ((2 ^ k : Nat) : Int) := by decide +kernel
theorem andBit : ∀ k, k < 9 → ∀ s, s < 512 → (bAnd .u32 (s : Nat) ((2 ^ k : Nat) : Int) = 0 ↔ s.testBit k = false) := by decide +kernel
theorem orBit : ∀ k, k < 9 → ∀ s, s < 512 → bOr .u32 (s : Nat) ((2 ^ k : Nat) : Int) = ((s ||| 2 ^ k : Nat) : Int) := by decide +kernel

set_option maxHeartbeats 8000000 in
theorem take_t (b : Nat) (a : AttS) (four : Bool) (seen : Nat) (f k : Nat) (hf : f < 256) (hk : k < 256) (dA : Option Addr) (dc : Nat) (d : List UInt8) (hd : d.length ≤ 100000) (hdc : d.length ≤ dc) (hok : OkS (szF four) ⟨a.pa, seen⟩) :
    Tri Tryz.prog 112 [pt b, .int .i64 f, .int .i64 k, .slice dA d.length dc] [arr bE 1 dA d] (attP b a four seen) (fun x : AttS × Nat => ∀ s', takeG (szF four) f k d ⟨a.pa, seen⟩ = some s' → x.1.pa = s'.a ∧ x.2 = s'.seen)
      (fun _ => .bool (takeG (szF four) f k d ⟨a.pa, seen⟩).isSome) (fun x => attP b x.1 four x.2) := by
  have h128 := and128 f hf
  have h224 := and224 f hf
  by_cases hw : flagsI k < 0
  · have e : takeG (szF four) f k d ⟨a.pa, seen⟩ = if 128 ≤ f then some ⟨a.pa, seen⟩ else none := by unfold takeG; rw [if_pos hw]
    rw [e]
    by_cases h1 : 128 ≤ f
    · rw [if_pos h1] at h128 ⊢
      refine Tri_of (N := Tryz.f112.ntmps) (c := bodyOf Tryz.f112) Tryz.func112 rfl rfl rfl rfl (fun w0 S0 => ?_)
      dsimp only [pt, attP]
      repeat' (first | refine SW ?_ | refine SD ?_ | (with_reducible refine HO_rw (congrArg (Value.int .i64) h128) ?_) | (refine HO_k 12 rfl ?_; refine HO_callq rfl rfl rfl rfl (flags_t k) (fun _ _ => rfl) (trivial) rfl rfl sqA ?_) | exact HO_seg rfl rfl | refine S1 ?_ | (refine S2 ?_; intro _) | (refine S3 ?_; intro _ _) | (refine S4 ?_; intro _ _ _) | (refine HO_g 2 rfl ?_; (first | apply HO_and rfl rfl rfl rfl rfl rfl rfl rfl rfl | apply HO_or rfl rfl rfl rfl rfl rfl rfl rfl rfl)) | refine S5 ?_ | (intro hb; try replace hb := simB hb; try exact kill hb))
      ((first | apply HX_ret | apply HX_retn); (repeat (first | exact Res_nil | apply Res_tmp rfl | apply Res_ce rfl rfl rfl)); unfold RetQ; refine ⟨(a, seen), (fun s hs => by cases hs; exact ⟨rfl, rfl⟩), rfl, Keeps.refl⟩)
    · rw [if_neg h1] at h128 ⊢
      refine Tri_of (N := Tryz.f112.ntmps) (c := bodyOf Tryz.f112) Tryz.func112 rfl rfl rfl rfl (fun w0 S0 => ?_)
      dsimp only [pt, attP]
      repeat' (first | refine SW ?_ | refine SD ?_ | (with_reducible refine HO_rw (congrArg (Value.int .i64) h128) ?_) | (refine HO_k 12 rfl ?_; refine HO_callq rfl rfl rfl rfl (flags_t k) (fun _ _ => rfl) (trivial) rfl rfl sqA ?_) | exact HO_seg rfl rfl | refine S1 ?_ | (refine S2 ?_; intro _) | (refine S3 ?_; intro _ _) | (refine S4 ?_; intro _ _ _) | (refine HO_g 2 rfl ?_; (first | apply HO_and rfl rfl rfl rfl rfl rfl rfl rfl rfl | apply HO_or rfl rfl rfl rfl rfl rfl rfl rfl rfl)) | refine S5 ?_ | (intro hb; try replace hb := simB hb; try exact kill hb))
      ((first | apply HX_ret | apply HX_retn); (repeat (first | exact Res_nil | apply Res_tmp rfl | apply Res_ce rfl rfl rfl)); unfold RetQ; refine ⟨(a, seen), (fun s hs => by cases hs), rfl, Keeps.refl⟩)
  have hk6 := flags_le hw
  have hsh := shl32 k (by omega)
  have hand := andBit k (by omega) seen hok.sl
  have hor := orBit k (by omega) seen hok.sl
  cases hbit : seen.testBit k
  · have hz := hand.2 hbit
    by_cases hfk : ((f / 32 * 32 : Nat) : Int) = flagsI k
    · have e : takeG (szF four) f k d ⟨a.pa, seen⟩ = match setG (szF four) a.pa k d with
          | none => none
          | some p => some ⟨p, seen ||| 2 ^ k⟩ := by
        unfold takeG
        rw [if_neg hw, if_neg (by simp [hbit]), if_pos hfk]
        cases setG (szF four) a.pa k d <;> rfl
      have hset := set_t b a four ((seen ||| 2 ^ k : Nat) : Int) k hk6 dA dc d hd hdc (fun h => by
        have := hok.b2 (by rw [← h]; exact hbit)
        simpa [AttS.pa, spl] using this) (fun h => by
        have := hok.b8 (by rw [← h]; exact hbit)
        simpa [AttS.pa] using this)
      obtain ⟨res, hres⟩ : ∃ res, setG (szF four) a.pa k d = res := ⟨_, rfl⟩
      rw [hres] at hset e
      have e2 : (takeG (szF four) f k d ⟨a.pa, seen⟩).isSome = res.isSome := by rw [e]; cases res <;> rfl
      rw [e2]
      refine Tri_of (N := Tryz.f112.ntmps) (c := bodyOf Tryz.f112) Tryz.func112 rfl rfl rfl rfl (fun w0 S0 => ?_)
      dsimp only [pt, attP]
      repeat' (first | refine SW ?_ | refine SD ?_ | (with_reducible refine HO_rw (congrArg (Value.int .i64) h224) ?_) | (with_reducible refine HO_rw (congrArg (Value.int .u32) hsh) ?_) | (with_reducible refine HO_rw (congrArg (Value.int .u32) hor) ?_) | (refine HO_k 12 rfl ?_; refine HO_callq rfl rfl rfl rfl (flags_t k) (fun _ _ => rfl) (trivial) rfl rfl sqA ?_) | (refine HO_k 12 rfl ?_; refine HO_call rfl rfl rfl rfl (hset) rfl (srcsA) rfl rfl soA ?_; intro a' ha'; dsimp only [attP, List.cons_append, List.nil_append]) | exact HO_seg rfl rfl | refine S1 ?_ | (refine S2 ?_; intro _) | (refine S3 ?_; intro _ _) | (refine S4 ?_; intro _ _ _) | (refine HO_g 2 rfl ?_; (first | apply HO_and rfl rfl rfl rfl rfl rfl rfl rfl rfl | apply HO_or rfl rfl rfl rfl rfl rfl rfl rfl rfl)) | refine S5 ?_ | (intro hb; try replace hb := simB hb; try exact kill hb))
      ((first | apply HX_ret | apply HX_retn); (repeat (first | exact Res_nil | apply Res_tmp rfl | apply Res_ce rfl rfl rfl)); unfold RetQ; refine ⟨(a', seen ||| 2 ^ k), (fun s hs => by
        rw [e] at hs
        cases res with
        | none => cases hs
        | some q => cases hs; exact ⟨ha' q rfl, rfl⟩), rfl, Keeps.refl⟩)
    · have e : takeG (szF four) f k d ⟨a.pa, seen⟩ = none := by
        unfold takeG
        rw [if_neg hw, if_neg (by simp [hbit]), if_neg hfk]
      rw [e]
      refine Tri_of (N := Tryz.f112.ntmps) (c := bodyOf Tryz.f112) Tryz.func112 rfl rfl rfl rfl (fun w0 S0 => ?_)
      dsimp only [pt, attP]
      repeat' (first | refine SW ?_ | refine SD ?_ | (with_reducible refine HO_rw (congrArg (Value.int .i64) h224) ?_) | (with_reducible refine HO_rw (congrArg (Value.int .u32) hsh) ?_) | (with_reducible refine HO_rw (congrArg (Value.int .u32) hor) ?_) | (refine HO_k 12 rfl ?_; refine HO_callq rfl rfl rfl rfl (flags_t k) (fun _ _ => rfl) (trivial) rfl rfl sqA ?_) | exact HO_seg rfl rfl | refine S1 ?_ | (refine S2 ?_; intro _) | (refine S3 ?_; intro _ _) | (refine S4 ?_; intro _ _ _) | (refine HO_g 2 rfl ?_; (first | apply HO_and rfl rfl rfl rfl rfl rfl rfl rfl rfl | apply HO_or rfl rfl rfl rfl rfl rfl rfl rfl rfl)) | refine S5 ?_ | (intro hb; try replace hb := simB hb; try exact kill hb))
      ((first | apply HX_ret | apply HX_retn); (repeat (first | exact Res_nil | apply Res_tmp rfl | apply Res_ce rfl rfl rfl)); unfold RetQ; refine ⟨(a, seen ||| 2 ^ k), (fun s hs => by cases hs), rfl, Keeps.refl⟩)
  · have hnz : ¬ bAnd .u32 (seen : Int) ((2 ^ k : Nat) : Int) = 0 := fun h => by rw [hand.1 h] at hbit; cases hbit
    have e : takeG (szF four) f k d ⟨a.pa, seen⟩ = some ⟨a.pa, seen⟩ := by
      unfold takeG
      rw [if_neg hw, if_pos hbit]
    rw [e]
    refine Tri_of (N := Tryz.f112.ntmps) (c := bodyOf Tryz.f112) Tryz.func112 rfl rfl rfl rfl (fun w0 S0 => ?_)
    dsimp only [pt, attP]
    repeat' (first | refine SW ?_ | refine SD ?_ | (with_reducible refine HO_rw (congrArg (Value.int .i64) h224) ?_) | (with_reducible refine HO_rw (congrArg (Value.int .u32) hsh) ?_) | (with_reducible refine HO_rw (congrArg (Value.int .u32) hor) ?_) | (refine HO_k 12 rfl ?_; refine HO_callq rfl rfl rfl rfl (flags_t k) (fun _ _ => rfl) (trivial) rfl rfl sqA ?_) | exact HO_seg rfl rfl | refine S1 ?_ | (refine S2 ?_; intro _) | (refine S3 ?_; intro _ _) | (refine S4 ?_; intro _ _ _) | (refine HO_g 2 rfl ?_; (first | apply HO_and rfl rfl rfl rfl rfl rfl rfl rfl rfl | apply HO_or rfl rfl rfl rfl rfl rfl rfl rfl rfl)) | refine S5 ?_ | (intro hb; try replace hb := simB hb; try exact kill hb))
    ((first | apply HX_ret | apply HX_retn); (repeat (first | exact Res_nil | apply Res_tmp rfl | apply Res_ce rfl rfl rfl)); unfold RetQ; refine ⟨(a, seen), (fun s hs => by cases hs; exact ⟨rfl, rfl⟩), rfl, Keeps.refl⟩)
end Go.Proofs.YtdeeokkkcfkbjaaGreat
