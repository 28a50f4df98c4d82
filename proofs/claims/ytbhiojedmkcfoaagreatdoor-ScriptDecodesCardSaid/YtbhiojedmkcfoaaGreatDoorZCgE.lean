/- Part of a proof of many texts: what the theorem at its end leans on. -/
import Derived.Test.YtbhiojedmkcfoaaGreatDoorZCgA
import Derived.Test.YtbhiojedmkcfoaaGreatDoorZCgP
import Derived.Test.YtbhiojedmkcfoaaGreatDoorZCfV
namespace Go.Proofs.YtbhiojedmkcfoaaGreatDoor
set_option linter.unusedVariables false
set_option linter.unusedSimpArgs false
open Go.RowKit
attribute [local irreducible] HC HX HO Tri eP adr
theorem SYCgE {p q : Prop} (hq : q) (h : q → p := by intro hq; refine HO_k 3 rfl ?_; exact HO_lastG (by decide +kernel) rfl rfl (by decide +kernel) (by decide +kernel) rfl hq) : p := h hq
def moreY (ws : List (List UInt8)) (q : CfQ) : CfQ × Bool := match ws with
 | [w, v] => if w = denyW then ({ q with deny := q.deny ++ [numV v] }, (numR v).isSome) else (q, false)
 | [w, a, b, p, d] => if w = ifaceW ∧ q.deny = [] then ({ q with ifs := q.ifs ++ [ifX a b p d] }, (numR a).isSome && (numR b).isSome && (paR p).isSome && (numR d).isSome) else (q, false)
 | _ => (q, false)
theorem moreY_ok (ws : List (List UInt8)) (q : CfQ) : moreM ws q = if (moreY ws q).2 = true then some (moreY ws q).1 else none := by
 unfold moreM moreY
 split
 ·rename_i w v
  by_cases hw : w = denyW
  ·simp only [hw, if_true]
   cases hv : numR v with
   | none => rfl
   | some n => rw [numV_some hv]; rfl
  ·simp only [hw, if_false]
   rfl
 ·rename_i w a b p d
  by_cases hw : w = ifaceW ∧ q.deny = []
  ·simp only [hw, and_self, if_true]
   unfold ifX
   cases ha : numR a <;> cases hb : numR b <;> cases hp : paR p <;> cases hn : numR d <;> simp [numV, ha, hb, hn]
  ·simp only [hw, if_false]
   rfl
 ·rename_i h1 h2
  split
  ·exact absurd rfl (h1 _ _)
  ·exact absurd rfl (h2 _ _ _ _ _)
  ·rfl
@[reducible] def pcP (b : Nat) (c : CfS) : List SL := [cel b TCf c.e, own idE TIf 5 c.iA c.q.ifs.length c.ic (c.q.ifs.map IfQ.e), own idE 3 1 c.dA c.q.deny.length c.dc (c.q.deny.map iE)]
set_option maxHeartbeats 1000000000 in
theorem more_bad (b : Nat) (c : CfS) (A : Option Addr) (n cc : Nat) (ws : List (List UInt8)) (hn : n = ws.length) (h5 : ∀ w a b p d, ws = [w, a, b, p, d] → ¬ (w = ifaceW ∧ c.q.deny = [])) (h2 : ∀ w v, ws = [w, v] → ¬ w = denyW) :
  Tri Tryz.prog 84 [pt b, .slice A n cc] [arr strE 1 A ws] (pcP b c) (fun _ : Unit => True) (fun _ => .bool false) (fun x => pcP b c) := by
 subst hn
 by_cases l5 : ws.length = 5
 ·match ws, l5 with
  | [w, x1, x2, x3, x4], _ =>
   by_cases hw : w = ifaceW
   ·have hd : ¬ c.q.deny = [] := fun e => h5 w x1 x2 x3 x4 rfl ⟨hw, e⟩
    have hdl : 0 < c.q.deny.length := List.length_pos_iff.2 hd
    have hw' : w = [105, 102, 97, 99, 101] := hw
    refine Tri_of (N := Tryz.f84.ntmps) (c := bodyOf Tryz.f84) Tryz.func84 rfl rfl rfl rfl (fun w0 S0 => ?_)
    dsimp only [pcP, CfS.e]
    repeat' (first | refine SW ?_ | ((refine HO_g 2 rfl ?_); (refine HO_skip rfl rfl rfl rfl rdA ?_)) | (with_reducible refine HO_rw (congrArg Value.bool (sba_eq _ _)) ?_) | (with_reducible refine HO_rw (congrArg Value.bool (sba_ne _ _)) ?_) | refine SD ?_ | exact HO_seg rfl rfl | refine S1 ?_ | (refine S2 ?_; intro _) | (refine S3 ?_; intro _ _) | (refine S4 ?_; intro _ _ _) | (refine HO_g 2 rfl ?_; first | apply HO_a1 rfl | apply HO_o1 rfl) | refine SYCgE ?_ | refine S5 ?_ | (intro hb; try replace hb := simB hb; try exact kill hb))
    (refine SR ?_; unfold RetQ; refine ⟨(), trivial, rfl, Keeps.refl⟩)
   ·have hw' : ¬ w = [105, 102, 97, 99, 101] := hw
    refine Tri_of (N := Tryz.f84.ntmps) (c := bodyOf Tryz.f84) Tryz.func84 rfl rfl rfl rfl (fun w0 S0 => ?_)
    dsimp only [pcP, CfS.e]
    repeat' (first | refine SW ?_ | ((refine HO_g 2 rfl ?_); (refine HO_skip rfl rfl rfl rfl rdA ?_)) | (with_reducible refine HO_rw (congrArg Value.bool (sba_eq _ _)) ?_) | (with_reducible refine HO_rw (congrArg Value.bool (sba_ne _ _)) ?_) | refine SD ?_ | exact HO_seg rfl rfl | refine S1 ?_ | (refine S2 ?_; intro _) | (refine S3 ?_; intro _ _) | (refine S4 ?_; intro _ _ _) | (refine HO_g 2 rfl ?_; first | apply HO_a1 rfl | apply HO_o1 rfl) | refine SYCgE ?_ | refine S5 ?_ | (intro hb; try replace hb := simB hb; try exact kill hb))
    (refine SR ?_; unfold RetQ; refine ⟨(), trivial, rfl, Keeps.refl⟩)
 ·by_cases l2 : ws.length = 2
  ·match ws, l2 with
   | [w, v], _ =>
    have hw : ¬ w = [100, 101, 110, 121] := h2 w v rfl
    refine Tri_of (N := Tryz.f84.ntmps) (c := bodyOf Tryz.f84) Tryz.func84 rfl rfl rfl rfl (fun w0 S0 => ?_)
    repeat' (first | refine SW ?_ | ((refine HO_g 2 rfl ?_); (refine HO_skip rfl rfl rfl rfl rdA ?_)) | (with_reducible refine HO_rw (congrArg Value.bool (sba_eq _ _)) ?_) | (with_reducible refine HO_rw (congrArg Value.bool (sba_ne _ _)) ?_) | refine SD ?_ | exact HO_seg rfl rfl | refine S1 ?_ | (refine S2 ?_; intro _) | (refine S3 ?_; intro _ _) | (refine S4 ?_; intro _ _ _) | (refine HO_g 2 rfl ?_; first | apply HO_a1 rfl | apply HO_o1 rfl) | refine SYCgE ?_ | refine S5 ?_ | (intro hb; try replace hb := simB hb; try exact kill hb))
    (refine SR ?_; unfold RetQ; refine ⟨(), trivial, rfl, Keeps.refl⟩)
  ·refine Tri_of (N := Tryz.f84.ntmps) (c := bodyOf Tryz.f84) Tryz.func84 rfl rfl rfl rfl (fun w0 S0 => ?_)
   repeat' (first | refine SW ?_ | ((refine HO_g 2 rfl ?_); (refine HO_skip rfl rfl rfl rfl rdA ?_)) | (with_reducible refine HO_rw (congrArg Value.bool (sba_eq _ _)) ?_) | (with_reducible refine HO_rw (congrArg Value.bool (sba_ne _ _)) ?_) | refine SD ?_ | exact HO_seg rfl rfl | refine S1 ?_ | (refine S2 ?_; intro _) | (refine S3 ?_; intro _ _) | (refine S4 ?_; intro _ _ _) | (refine HO_g 2 rfl ?_; first | apply HO_a1 rfl | apply HO_o1 rfl) | refine SYCgE ?_ | refine S5 ?_ | (intro hb; try replace hb := simB hb; try exact kill hb))
   (refine SR ?_; unfold RetQ; refine ⟨(), trivial, rfl, Keeps.refl⟩)
set_option maxHeartbeats 1000000000 in
theorem more_deny (b : Nat) (c : CfS) (A : Option Addr) (n cc : Nat) (v : List UInt8) (hv : v.length ≤ 90000) (hn : n = 2) (hdl : c.q.deny.length ≤ 100000) :
  Tri Tryz.prog 84 [pt b, .slice A n cc] [arr strE 1 A [denyW, v]] (pcP b c) (fun _ : OA => True) (fun _ => .bool (numR v).isSome) (fun x => pcP b (c.wth { c.q with deny := c.q.deny ++ [numV v] } ((c.iA, c.ic), x))) := by
 subst hn
 have hN := rnum19_t v (by omega)
 have hw : denyW = [100, 101, 110, 121] := rfl
 have hlX : (c.q.deny ++ [numV v]).length = c.q.deny.length + 1 := by simp
 refine Tri_of (N := Tryz.f84.ntmps) (c := bodyOf Tryz.f84) Tryz.func84 rfl rfl rfl rfl (fun w0 S0 => ?_)
 dsimp only [pcP, CfS.e]
 repeat' (first | refine SW ?_ | (with_reducible refine HO_rw (congrArg Value.bool (sba_eq _ _)) ?_) | refine SD ?_ | (refine HO_k 12 rfl ?_; refine HO_callq rfl rfl rfl rfl (hN) (fun _ _ => rfl) (trivial) rfl rfl sqA ?_) | exact HO_seg rfl rfl | refine S1 ?_ | (refine S2 ?_; intro _) | (refine S3 ?_; intro _ _) | (refine S4 ?_; intro _ _ _) | (refine HO_g 2 rfl ?_; first | apply HO_a1 rfl | apply HO_o1 rfl) | refine SYCgE ?_ | refine S5 ?_ | (intro hb; try replace hb := simB hb; try exact kill hb))
 rename_i A' c'
 refine HX_keeps (rw' := pcP b (c.wth { c.q with deny := c.q.deny ++ [numV v] } ((c.iA, c.ic), (A', c')))) ?_ ?_
 ·dsimp only [pcP, CfS.wth, CfS.e]
  rw [hlX, List.map_append]
  exact permA
 ·(refine SR ?_; unfold RetQ; refine ⟨(A', c'), trivial, rfl, Keeps.refl⟩)
set_option maxHeartbeats 1000000000 in
theorem more_if (b : Nat) (c : CfS) (A : Option Addr) (n cc : Nat) (x1 x2 x3 x4 : List UInt8) (h1 : x1.length ≤ 90000) (h2 : x2.length ≤ 90000) (h3 : x3.length ≤ 90000) (h4 : x4.length ≤ 90000) (hn : n = 5) (hlen : c.q.ifs.length ≤ 100000) (hd : c.q.deny = []) :
  Tri Tryz.prog 84 [pt b, .slice A n cc] [arr strE 1 A [ifaceW, x1, x2, x3, x4]] (pcP b c) (fun _ : OA => True) (fun _ => .bool ((numR x1).isSome && (numR x2).isSome && (paR x3).isSome && (numR x4).isSome)) (fun x => pcP b (c.wth { c.q with ifs := c.q.ifs ++ [ifX x1 x2 x3 x4] } (x, (c.dA, c.dc)))) := by
 subst hn
 have hN1 := rnum19_t x1 (by omega)
 have hN2 := rnum19_t x2 (by omega)
 have hN4 := rnum19_t x4 (by omega)
 have hP := rparse_t x3 h3
 rw [paQ_eq] at hP
 have hw : ifaceW = [105, 102, 97, 99, 101] := rfl
 have hlX : (c.q.ifs ++ [ifX x1 x2 x3 x4]).length = c.q.ifs.length + 1 := by simp
 have hd0 : c.q.deny.length = 0 := by rw [hd]; rfl
 cases hpa : paR x3 with
 | none =>
  rw [hpa] at hP
  have hX : ifX x1 x2 x3 x4 = ⟨numV x1, numV x2, 0, 0, numV x4⟩ := by unfold ifX; rw [hpa]; rfl
  have hv : ((numR x1).isSome && (numR x2).isSome && (none : Option (Nat × Nat)).isSome && (numR x4).isSome) = ((((numR x1).isSome && (numR x2).isSome) && false) && (numR x4).isSome) := rfl
  refine Tri_of (N := Tryz.f84.ntmps) (c := bodyOf Tryz.f84) Tryz.func84 rfl rfl rfl rfl (fun w0 S0 => ?_)
  dsimp only [pcP, CfS.e]
  repeat' (first | refine SW ?_ | (with_reducible refine HO_rw (congrArg Value.bool (sba_eq _ _)) ?_) | (with_reducible refine HO_rw (congrArg Value.bool (sba_ne _ _)) ?_) | refine SD ?_ | (refine HO_k 12 rfl ?_; refine HO_callq rfl rfl rfl rfl (hN1) (fun _ _ => rfl) (trivial) rfl rfl sqA ?_) | (refine HO_k 12 rfl ?_; refine HO_callq rfl rfl rfl rfl (hN2) (fun _ _ => rfl) (trivial) rfl rfl sqA ?_) | (refine HO_k 12 rfl ?_; refine HO_callq rfl rfl rfl rfl (hP) (fun _ _ => rfl) (trivial) rfl rfl sqA ?_) | (refine HO_k 12 rfl ?_; refine HO_callq rfl rfl rfl rfl (hN4) (fun _ _ => rfl) (trivial) rfl rfl sqA ?_) | exact HO_seg rfl rfl | refine S1 ?_ | (refine S2 ?_; intro _) | (refine S3 ?_; intro _ _) | (refine S4 ?_; intro _ _ _) | (refine HO_g 2 rfl ?_; first | apply HO_a1 rfl | apply HO_o1 rfl) | refine SYCgE ?_ | refine S5 ?_ | (intro hb; try replace hb := simB hb; try exact kill hb))
  all_goals try exact (numR x4).isSome
  rename_i A' c'
  refine HX_keeps (rw' := pcP b (c.wth { c.q with ifs := c.q.ifs ++ [ifX x1 x2 x3 x4] } ((A', c'), (c.dA, c.dc)))) ?_ ?_
  ·dsimp only [pcP, CfS.wth, CfS.e]
   rw [hlX, List.map_append, hX]
   exact permA
  ·(refine SR ?_; unfold RetQ; refine ⟨(A', c'), trivial, rfl, Keeps.refl⟩)
 | some z =>
  obtain ⟨za, zn⟩ := z
  rw [hpa] at hP
  have hX : ifX x1 x2 x3 x4 = ⟨numV x1, numV x2, za, zn, numV x4⟩ := by unfold ifX; rw [hpa]; rfl
  have hv : ((numR x1).isSome && (numR x2).isSome && (some (za, zn)).isSome && (numR x4).isSome) = ((((numR x1).isSome && (numR x2).isSome) && true) && (numR x4).isSome) := rfl
  refine Tri_of (N := Tryz.f84.ntmps) (c := bodyOf Tryz.f84) Tryz.func84 rfl rfl rfl rfl (fun w0 S0 => ?_)
  dsimp only [pcP, CfS.e]
  repeat' (first | refine SW ?_ | (with_reducible refine HO_rw (congrArg Value.bool (sba_eq _ _)) ?_) | (with_reducible refine HO_rw (congrArg Value.bool (sba_ne _ _)) ?_) | refine SD ?_ | (refine HO_k 12 rfl ?_; refine HO_callq rfl rfl rfl rfl (hN1) (fun _ _ => rfl) (trivial) rfl rfl sqA ?_) | (refine HO_k 12 rfl ?_; refine HO_callq rfl rfl rfl rfl (hN2) (fun _ _ => rfl) (trivial) rfl rfl sqA ?_) | (refine HO_k 12 rfl ?_; refine HO_callq rfl rfl rfl rfl (hP) (fun _ _ => rfl) (trivial) rfl rfl sqA ?_) | (refine HO_k 12 rfl ?_; refine HO_callq rfl rfl rfl rfl (hN4) (fun _ _ => rfl) (trivial) rfl rfl sqA ?_) | exact HO_seg rfl rfl | refine S1 ?_ | (refine S2 ?_; intro _) | (refine S3 ?_; intro _ _) | (refine S4 ?_; intro _ _ _) | (refine HO_g 2 rfl ?_; first | apply HO_a1 rfl | apply HO_o1 rfl) | refine SYCgE ?_ | refine S5 ?_ | (intro hb; try replace hb := simB hb; try exact kill hb))
  all_goals try exact (numR x4).isSome
  rename_i A' c'
  refine HX_keeps (rw' := pcP b (c.wth { c.q with ifs := c.q.ifs ++ [ifX x1 x2 x3 x4] } ((A', c'), (c.dA, c.dc)))) ?_ ?_
  ·dsimp only [pcP, CfS.wth, CfS.e]
   rw [hlX, List.map_append, hX]
   exact permA
  ·(refine SR ?_; unfold RetQ; refine ⟨(A', c'), trivial, rfl, Keeps.refl⟩)
end Go.Proofs.YtbhiojedmkcfoaaGreatDoor
