/- A line, as the reader of settings takes it. -/
import Derived.Test.YtbhiojedmkcfoaaGreatDoorCfX
import Derived.Test.YtbhiojedmkcfoaaGreatDoorCfV
namespace Go.Proofs.YtbhiojedmkcfoaaGreatDoor
set_option linter.unusedVariables false
set_option linter.unusedSimpArgs false
open Go.RowKit
attribute [local irreducible] HC HX HO Tri eP adr

/-- the reader in memory, with its rows -/
@[reducible] def rdrP (b : Nat) (c : CfS) (bad : Bool) : List SL := [cel b TRd (rdE c bad), own idE TIf 5 c.iA c.q.ifs.length c.ic (c.q.ifs.map IfQ.e), own idE 3 1 c.dA c.q.deny.length c.dc (c.q.deny.map iE)]
@[reducible] def CfS.wth (c : CfS) (q : CfQ) (x : OA × OA) : CfS := ⟨q, x.1.1, x.1.2, x.2.1, x.2.2⟩
theorem fixX_ifs (i : Nat) (ws : List (List UInt8)) (q : CfQ) (bad : Bool) : (fixX i ws q bad).1.ifs = q.ifs ∧ (fixX i ws q bad).1.deny = q.deny := by
  unfold fixX CfQ.put
  split
  · split
    · split <;> exact ⟨rfl, rfl⟩
    · exact ⟨rfl, rfl⟩
  · exact ⟨rfl, rfl⟩
set_option maxHeartbeats 16000000 in
theorem line_fix (b : Nat) (c : CfS) (bad : Bool) (hl : c.q.nums.length = 18) (i : Nat) (hi : i < 18) (A : Option Addr) (n cc : Nat) (ws : List (List UInt8)) (hn : n = ws.length) (hws : ∀ w ∈ ws, w.length ≤ 100000) (m : Int) :
    Tri Tryz.prog 62 [pt b, .int .i64 i, .slice A n cc] [arr strE 1 A ws, glW, maxLen0 m] (rdrP b c bad) (fun x : OA × OA => True) (fun _ => .tuple #[]) (fun x => rdrP b (c.wth (lineX i ws c.q bad).1 x) (lineX i ws c.q bad).2) := by
  have hf := fixed_t b c bad hl i hi A n cc ws hn hws m
  have he : lineX i ws c.q bad = fixX i ws c.q bad := by unfold lineX; rw [if_pos hi]
  obtain ⟨e1, e2⟩ := fixX_ifs i ws c.q bad
  rw [he]
  obtain ⟨z, hz⟩ : ∃ z, fixX i ws c.q bad = z := ⟨_, rfl⟩
  rw [hz] at hf e1 e2 ⊢
  obtain ⟨q', bd⟩ := z
  refine Tri_of (N := Tryz.f62.ntmps) (c := bodyOf Tryz.f62) Tryz.func62 rfl rfl rfl rfl (fun w0 S0 => ?_)
  repeat' (first | refine SW ?_ | refine SD ?_ | (refine HO_k 12 rfl ?_; refine HO_call rfl rfl rfl rfl (hf) rfl (srcsA) rfl rfl soA ?_; intro g h; dsimp only [List.cons_append, List.nil_append]) | exact HO_seg rfl rfl | refine S1 ?_ | (refine S2 ?_; intro _) | (refine S3 ?_; intro _ _) | (refine S4 ?_; intro _ _ _) | (refine HO_g 2 rfl ?_; (first | apply HO_and rfl rfl rfl rfl rfl rfl rfl rfl rfl | apply HO_or rfl rfl rfl rfl rfl rfl rfl rfl rfl)) | refine S5 ?_ | (intro hb; try replace hb := simB hb; try exact kill hb))
  refine HX_keeps (rw' := rdrP b (c.wth q' ((c.iA, c.ic), (c.dA, c.dc))) bd) ?_ ?_
  · dsimp only [rdrP, CfS.wth]
    have e1' : q'.ifs = c.q.ifs := e1
    have e2' : q'.deny = c.q.deny := e2
    rw [e1', e2']
    exact permA
  · ((first | apply HX_ret | apply HX_retn); (repeat (first | exact Res_nil | apply Res_tmp rfl | apply Res_ce rfl rfl rfl)); unfold RetQ; apply Exists.intro (((c.iA, c.ic), (c.dA, c.dc))); refine ⟨trivial, ?_, ?_⟩; rotate_left 1; (repeat (first | exact Keeps.nil | refine Keeps.own_cons ?_ ?_ ?_ | refine Keeps.arr_cons ?_ ?_ | refine Keeps.cons Ent.rfl_ ?_ | refine Keeps.skip ?_ | refine Keeps.own_none ?_ ?_ ?_ | refine Keeps.arr_none ?_ ?_)))
    all_goals rfl
end Go.Proofs.YtbhiojedmkcfoaaGreatDoor
