/- attr.Get: what any bytes say of routes. -/
import Derived.Test.YtdeeokkkcfkbjaaGreatAttO
namespace Go.Proofs.YtdeeokkkcfkbjaaGreat
set_option linter.unusedVariables false
set_option linter.unusedSimpArgs false
open Go.RowKit
attribute [local irreducible] HC HX HO Tri eP adr

def a0 : AttS := ⟨0, none, 0, [], 0, -1, -1, none, 0, []⟩
def az : AttS := ⟨0, none, 0, [], 0, 0, 0, none, 0, []⟩
theorem must14 : ∀ s, s < 512 → (bAnd .u32 (s : Nat) 14 = 14 ↔ mustB s = true) := by decide +kernel
theorem az_keeps {rw : List SL} : Keeps rw az.ro := Keeps.add (fun w => inn_nil w) (Keeps.add (fun w => arr_nil _ w) (Keeps.add (fun w => arr_nil _ w) Keeps.nil))
theorem getG_eq (w : Nat) (d : List UInt8) : getG w d = match allR w ⟨p0, 0⟩ d with
      | none => (pz, 3)
      | some s => if mustB s.seen = true then (s.a, 1) else (pz, 2) := rfl
set_option maxHeartbeats 16000000 in
set_option maxRecDepth 100000 in
theorem aget_t (four : Bool) (dA : Option Addr) (dc : Nat) (d : List UInt8) (hd : d.length ≤ 100000) :
    Tri Tryz.prog 107 [.slice dA d.length dc, .bool four] [arr bE 1 dA d] [] (fun a : AttS => a.pa = (getG (szF four) d).1) (fun a => .tuple #[.agg a.e.toArray, .int .i64 (getG (szF four) d).2]) (fun a => a.ro) := by
  have hall := fun b => all_t b a0 four 0 dA dc d hd (okS_p0 (szF four))
  have hgo := allG_ok (szF four) (d.length + 1) ⟨p0, 0⟩ d
  obtain ⟨res, hres⟩ : ∃ res, allR (szF four) ⟨p0, 0⟩ d = res := ⟨_, rfl⟩
  have hres' : allR (szF four) ⟨a0.pa, 0⟩ d = res := hres
  simp only [hres'] at hall
  cases res with
  | none =>
    have hg : getG (szF four) d = (pz, 3) := by rw [getG_eq, hres]
    rw [hg]
    refine Tri_of (N := Tryz.f107.ntmps) (c := bodyOf Tryz.f107) Tryz.func107 rfl rfl rfl rfl (fun w0 S0 => ?_)
    dsimp only [pt]
    repeat' (first | refine SW ?_ | refine SD ?_ | exact HO_seg rfl rfl | refine S1 ?_ | (refine S2 ?_; intro _) | (refine S3 ?_; intro _ _) | (refine S4 ?_; intro _ _ _) | (refine HO_g 2 rfl ?_; (first | apply HO_and rfl rfl rfl rfl rfl rfl rfl rfl rfl | apply HO_or rfl rfl rfl rfl rfl rfl rfl rfl rfl)) | refine S5 ?_ | (intro hb; try replace hb := simB hb; try exact kill hb))
    rename_i b4 bx
    refine HO_nil (T := TIn) (sz := 1) (HO_keeps (Keeps.add inn_nil Keeps.refl) (HO_nil (T := TSg) (sz := 2) ?_))
    refine HO_mv 3 rfl rfl ?_
    (refine HO_k 12 rfl ?_; refine HO_call rfl rfl rfl rfl (hall bx) rfl (srcsA) rfl rfl soA ?_; intro ⟨a', seen'⟩ ha'; dsimp only [attP, List.cons_append, List.nil_append])
    repeat' (first | refine SW ?_ | refine SD ?_ | exact HO_seg rfl rfl | refine S1 ?_ | (refine S2 ?_; intro _) | (refine S3 ?_; intro _ _) | (refine S4 ?_; intro _ _ _) | (refine HO_g 2 rfl ?_; (first | apply HO_and rfl rfl rfl rfl rfl rfl rfl rfl rfl | apply HO_or rfl rfl rfl rfl rfl rfl rfl rfl rfl)) | refine S5 ?_ | (intro hb; try replace hb := simB hb; try exact kill hb))
    ((first | apply HX_ret | apply HX_retn); (repeat (first | exact Res_nil | apply Res_tmp rfl | apply Res_ce rfl rfl rfl)); unfold RetQ; refine ⟨az, rfl, rfl, az_keeps⟩)
  | some s =>
    have hs := hgo s hres (okS_p0 _)
    have hm := must14 s.seen hs.sl
    have hg : getG (szF four) d = if mustB s.seen = true then (s.a, 1) else (pz, 2) := by rw [getG_eq, hres]
    by_cases h14 : bAnd .u32 (s.seen : Nat) 14 = 14
    · rw [if_pos (hm.1 h14)] at hg
      rw [hg]
      refine Tri_of (N := Tryz.f107.ntmps) (c := bodyOf Tryz.f107) Tryz.func107 rfl rfl rfl rfl (fun w0 S0 => ?_)
      dsimp only [pt]
      repeat' (first | refine SW ?_ | refine SD ?_ | exact HO_seg rfl rfl | refine S1 ?_ | (refine S2 ?_; intro _) | (refine S3 ?_; intro _ _) | (refine S4 ?_; intro _ _ _) | (refine HO_g 2 rfl ?_; (first | apply HO_and rfl rfl rfl rfl rfl rfl rfl rfl rfl | apply HO_or rfl rfl rfl rfl rfl rfl rfl rfl rfl)) | refine S5 ?_ | (intro hb; try replace hb := simB hb; try exact kill hb))
      rename_i b4 bx
      refine HO_nil (T := TIn) (sz := 1) (HO_keeps (Keeps.add inn_nil Keeps.refl) (HO_nil (T := TSg) (sz := 2) ?_))
      refine HO_mv 3 rfl rfl ?_
      (refine HO_k 12 rfl ?_; refine HO_call rfl rfl rfl rfl (hall bx) rfl (srcsA) rfl rfl soA ?_; intro ⟨a', seen'⟩ ha'; dsimp only [attP, List.cons_append, List.nil_append])
      obtain ⟨e1, e2⟩ := ha' s rfl
      dsimp only at e1 e2
      rw [e2]
      repeat' (first | refine SW ?_ | refine SD ?_ | exact HO_seg rfl rfl | refine S1 ?_ | (refine S2 ?_; intro _) | (refine S3 ?_; intro _ _) | (refine S4 ?_; intro _ _ _) | (refine HO_g 2 rfl ?_; (first | apply HO_and rfl rfl rfl rfl rfl rfl rfl rfl rfl | apply HO_or rfl rfl rfl rfl rfl rfl rfl rfl rfl)) | refine S5 ?_ | (intro hb; try replace hb := simB hb; try exact kill hb))
      ((first | apply HX_ret | apply HX_retn); (repeat (first | exact Res_nil | apply Res_tmp rfl | apply Res_ce rfl rfl rfl)); unfold RetQ; refine ⟨a', e1, rfl, Keeps.skip (Keeps.swap (Keeps.cons Ent.rfl_ (Keeps.cons own_e (Keeps.cons own_e Keeps.nil))))⟩)
    · rw [if_neg (fun h => h14 (hm.2 h))] at hg
      rw [hg]
      refine Tri_of (N := Tryz.f107.ntmps) (c := bodyOf Tryz.f107) Tryz.func107 rfl rfl rfl rfl (fun w0 S0 => ?_)
      dsimp only [pt]
      repeat' (first | refine SW ?_ | refine SD ?_ | exact HO_seg rfl rfl | refine S1 ?_ | (refine S2 ?_; intro _) | (refine S3 ?_; intro _ _) | (refine S4 ?_; intro _ _ _) | (refine HO_g 2 rfl ?_; (first | apply HO_and rfl rfl rfl rfl rfl rfl rfl rfl rfl | apply HO_or rfl rfl rfl rfl rfl rfl rfl rfl rfl)) | refine S5 ?_ | (intro hb; try replace hb := simB hb; try exact kill hb))
      rename_i b4 bx
      refine HO_nil (T := TIn) (sz := 1) (HO_keeps (Keeps.add inn_nil Keeps.refl) (HO_nil (T := TSg) (sz := 2) ?_))
      refine HO_mv 3 rfl rfl ?_
      (refine HO_k 12 rfl ?_; refine HO_call rfl rfl rfl rfl (hall bx) rfl (srcsA) rfl rfl soA ?_; intro ⟨a', seen'⟩ ha'; dsimp only [attP, List.cons_append, List.nil_append])
      obtain ⟨e1, e2⟩ := ha' s rfl
      dsimp only at e1 e2
      rw [e2]
      repeat' (first | refine SW ?_ | refine SD ?_ | exact HO_seg rfl rfl | refine S1 ?_ | (refine S2 ?_; intro _) | (refine S3 ?_; intro _ _) | (refine S4 ?_; intro _ _ _) | (refine HO_g 2 rfl ?_; (first | apply HO_and rfl rfl rfl rfl rfl rfl rfl rfl rfl | apply HO_or rfl rfl rfl rfl rfl rfl rfl rfl rfl)) | refine S5 ?_ | (intro hb; try replace hb := simB hb; try exact kill hb))
      ((first | apply HX_ret | apply HX_retn); (repeat (first | exact Res_nil | apply Res_tmp rfl | apply Res_ce rfl rfl rfl)); unfold RetQ; refine ⟨az, rfl, rfl, az_keeps⟩)
end Go.Proofs.YtdeeokkkcfkbjaaGreat
