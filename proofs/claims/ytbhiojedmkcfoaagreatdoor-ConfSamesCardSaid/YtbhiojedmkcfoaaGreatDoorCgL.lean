/- What must come of every program: the settings' lives. -/
import Derived.Test.YtbhiojedmkcfoaaGreatDoorCgF
import Derived.Test.YtbhiojedmkcfoaaGreatDoorCgH
namespace Go.Proofs.YtbhiojedmkcfoaaGreatDoor
set_option linter.unusedVariables false
set_option linter.unusedSimpArgs false
open Go.RowKit
attribute [local irreducible] HC HX HO Tri eP adr

section
variable {m : Md} {P : Program} {N : Nat} {w0 : World} {S0 : Foot} {ops : List Oper} {i : Nat} {lq : List Nat} {env : Env} {ro rw : List SL} {K : Act → World → Prop} {d : Nat} {ty : TypeId} {pos : String} {aft : Array Edge} {g : Option (Nat × Bool)}
/-- a field of a value -/
theorem HO_fldR {T f : Nat} {x : Operand} {v u : Value} (ho : ops[i]? = some ⟨some d, .field T x f, ty, pos, aft, g⟩) (hx : Env.ev env x = some v) (hrun : ∀ w, (Instr.field T v f).run P w = .ok u w)
    (hw : wantE ops env g = some true) (hN : Nat.blt d N = true) (hr : rdyB m ops i lq = true)
    (h : HO m P N w0 S0 ops lq ((d, u) :: env) ro rw K) : HO m P N w0 S0 ops (i :: lq) env ro rw K := by
  refine HO_val ho hw rfl hN hr (fun a w ha hf => ?_) h
  simp [execOp, Sem.run_bind, ha.ev hx, hrun w]
end
def lvQ : CfQ := { firstQ with ifs := [⟨7, 0, 167772160, 8, 100⟩], deny := [5] }
def lvS : List UInt8 := [97, 115, 32, 54, 53, 48, 48, 48, 10, 105, 100, 32, 49, 48, 46, 50, 53, 53, 46, 48, 46, 49, 10, 104, 111, 108, 100, 32, 57, 48, 10, 114, 101, 116, 114, 121, 32, 51, 48, 10, 114, 111, 117, 116, 101, 114, 115, 32, 49, 10, 99, 111, 117, 110, 116, 115, 32, 49, 10, 99, 97, 114, 114, 105, 101, 115, 32, 48, 10, 104, 105, 103, 104, 32, 57, 48, 48, 10, 108, 111, 119, 32, 55, 48, 48, 10, 109, 111, 118, 101, 115, 32, 49, 54, 10, 99, 121, 99, 108, 101, 32, 51, 48, 10, 115, 116, 97, 108, 101, 32, 57, 48, 10, 119, 97, 114, 109, 32, 50, 10, 101, 120, 112, 105, 114, 101, 32, 49, 50, 48, 10, 112, 114, 101, 102, 32, 49, 48, 48, 48, 10, 108, 111, 110, 103, 101, 114, 32, 50, 10, 114, 111, 117, 116, 101, 115, 32, 54, 53, 53, 51, 54, 10, 113, 117, 101, 117, 101, 32, 54, 53, 53, 51, 54, 10, 105, 102, 97, 99, 101, 32, 55, 32, 48, 32, 49, 48, 46, 48, 46, 48, 46, 48, 47, 56, 32, 49, 48, 48, 10, 100, 101, 110, 121, 32, 53, 10]
theorem lvS_par : parM lvS = some lvQ := by decide +kernel
theorem lvS_par1 : parM (lvS.drop (1 : Int).toNat) = none := by decide +kernel
theorem lvS_txt : txt (linesOf lvQ) = lvS := (txt_parM lvS_par).1
theorem lvS_ok : cfOk lvQ = true := (txt_parM lvS_par).2.2
theorem lvS_len : lvS.length = 207 := by decide +kernel
theorem lvS_23 : lvS.take (23 : Int).toNat = [97, 115, 32, 54, 53, 48, 48, 48, 10, 105, 100, 32, 49, 48, 46, 50, 53, 53, 46, 48, 46, 49, 10] := by decide +kernel
theorem lvS_8 : lvS.drop (((lvS.length : Nat) : Int) - 8).toNat = [10, 100, 101, 110, 121, 32, 53, 10] := by decide +kernel
theorem sameQ (q : CfQ) : cfSame q q = true := by simp [cfSame]
def badQ : CfQ := { firstQ with nums := firstQ.nums.set 8 901 }
theorem badQ_no : cfOk badQ = false := by decide +kernel
attribute [local irreducible] lvS
set_option maxRecDepth 100000 in
set_option maxHeartbeats 32000000 in
theorem cflives_t (m : Int) : Tri Tryz.prog 14 [] [tab1, glW, maxLen0 m] [] (fun _ : Unit => True) (fun _ => .bool true) (fun _ => []) := by
  have c1 := cfirst_t
  have c2 := rfirst_t
  have fL : CfL firstS := ⟨by decide, by decide, by decide, fun x hx => by cases hx⟩
  have c3 := rsame19_t firstS firstS fL fL
  rw [show cfSame firstS.q firstS.q = true from sameQ _] at c3
  have lL : ∀ (b1 b2 : Nat), CfL ⟨lvQ, some ⟨b1, 0, none⟩, 1, some ⟨b2, 0, none⟩, 1⟩ := fun b1 b2 => ⟨by show 1 ≤ 100000; decide, by show 1 ≤ 100000; decide, by show 184483841 < 4294967296; decide, fun x hx => by
    have : x = ⟨7, 0, 167772160, 8, 100⟩ := List.mem_singleton.1 hx
    subst this; show 167772160 < 4294967296; decide⟩
  have c4 := fun b1 b2 => cshow_t ⟨lvQ, some ⟨b1, 0, none⟩, 1, some ⟨b2, 0, none⟩, 1⟩ (lL b1 b2)
  simp only [lvS_ok, if_true, lvS_txt] at c4
  have hlen := lvS_len
  have h60 : ¬ ((lvS.length : Nat) : Int) < 60 := by rw [hlen]; decide
  have c5 := cparse_t m lvS (by rw [hlen]; decide)
  simp only [parS_some lvS_par, lvS_par, Option.isSome_some, if_true] at c5
  have c6 := cparse_t m (lvS.drop (1 : Int).toNat) (by rw [List.length_drop, hlen]; decide)
  simp only [parS_none lvS_par1, lvS_par1, Option.isSome_none, Bool.false_eq_true, if_false] at c6
  have dL : ∀ (x : OA × OA), CfL ⟨lvQ, x.1.1, x.1.2, x.2.1, x.2.2⟩ := fun x => lL 0 0
  have c7 := fun b1 b2 (x : OA × OA) => rsame19_t ⟨lvQ, some ⟨b1, 0, none⟩, 1, some ⟨b2, 0, none⟩, 1⟩ ⟨lvQ, x.1.1, x.1.2, x.2.1, x.2.2⟩ (lL b1 b2) (dL x)
  have c10 := fun b1 b2 (x : OA × OA) => csame_t ⟨lvQ, some ⟨b1, 0, none⟩, 1, some ⟨b2, 0, none⟩, 1⟩ ⟨lvQ, x.1.1, x.1.2, x.2.1, x.2.2⟩ (lL b1 b2) (dL x)
  simp only [sameQ] at c7 c10
  have c8 := fun b1 b2 => ccheck_t ⟨lvQ, some ⟨b1, 0, none⟩, 1, some ⟨b2, 0, none⟩, 1⟩ (lL b1 b2)
  simp only [lvS_ok, if_true] at c8
  have bL : CfL ⟨badQ, none, 0, none, 0⟩ := ⟨by decide, by decide, by decide, fun x hx => by cases hx⟩
  have c9 := ccheck_t ⟨badQ, none, 0, none, 0⟩ bL
  have c12 := cshow_t ⟨badQ, none, 0, none, 0⟩ bL
  simp only [badQ_no, Bool.false_eq_true, if_false] at c9 c12
  have c11 := fun b1 b2 => clocal_t ⟨lvQ, some ⟨b1, 0, none⟩, 1, some ⟨b2, 0, none⟩, 1⟩
  have f0 : ∀ w, (Instr.field 36 (.agg (locE (num lvQ 0) (num lvQ 2) lvQ.id (num lvQ 3)).toArray) 0).run Tryz.prog w = .ok (.agg (opnE 65000 90 184483841).toArray) w := fun _ => by kernel_rfl
  have f1 : ∀ w, (Instr.field 34 (.agg (opnE 65000 90 184483841).toArray) 0).run Tryz.prog w = .ok (.int .i64 65000) w := fun _ => by kernel_rfl
  have h23 := lvS_23
  have h8 := lvS_8
  dsimp only [CfS.e, CfS.ro] at c1 c2 c3 c4 c5 c6 c7 c8 c9 c10 c11 c12
  refine Tri_of (N := Tryz.f14.ntmps) (c := bodyOf Tryz.f14) Tryz.func14 rfl rfl rfl rfl (fun w0 S0 => ?_)
  repeat' (first | refine SW ?_ | (with_reducible refine HO_rw (congrArg Value.bool (sba_eq _ _)) ?_) | refine SD ?_ | (refine HO_k 8 rfl ?_; refine HO_slen rfl rfl rfl rfl rdA ?_) | (refine HO_k 13 rfl ?_; first | refine HO_sslh rfl rfl rfl (by omega) rfl rfl rdA ?_ | refine HO_ssll rfl rfl rfl (by omega) rfl rfl rdA ?_) | (refine HO_k 16 rfl ?_; first | refine HO_fldR rfl rfl f0 rfl rfl rdA ?_ | refine HO_fldR rfl rfl f1 rfl rfl rdA ?_) | (refine HO_k 12 rfl ?_; refine HO_callq rfl rfl rfl rfl (c1) (fun _ _ => rfl) (trivial) rfl rfl sqA ?_) | (refine HO_k 12 rfl ?_; refine HO_callq rfl rfl rfl rfl (c2) (fun _ _ => rfl) (trivial) rfl rfl sqA ?_) | (refine HO_k 12 rfl ?_; refine HO_callq rfl rfl rfl rfl (c3) (fun _ _ => rfl) (srcsB) rfl rfl sqA ?_) | (refine HO_k 12 rfl ?_; refine HO_callq rfl rfl rfl rfl (c4 _ _) (fun _ _ => rfl) (srcsB) rfl rfl sqA ?_) | (refine HO_k 12 rfl ?_; refine HO_call rfl rfl rfl rfl (c5) rfl (srcsA) rfl rfl soA ?_; intro x hx; dsimp only [List.cons_append, List.nil_append]) | (refine HO_k 12 rfl ?_; refine HO_call rfl rfl rfl rfl (c6) rfl (srcsA) rfl rfl soA ?_; intro y hy; dsimp only [List.cons_append, List.nil_append]) | (refine HO_k 12 rfl ?_; refine HO_callq rfl rfl rfl rfl (c7 _ _ _) (fun _ _ => rfl) (srcsB) rfl rfl sqA ?_) | (refine HO_k 12 rfl ?_; refine HO_callq rfl rfl rfl rfl (c8 _ _) (fun _ _ => rfl) (srcsB) rfl rfl sqA ?_) | (refine HO_k 12 rfl ?_; refine HO_callq rfl rfl rfl rfl (c9) (fun _ _ => rfl) (srcsB) rfl rfl sqA ?_) | (refine HO_k 12 rfl ?_; refine HO_callq rfl rfl rfl rfl (c10 _ _ _) (fun _ _ => rfl) (srcsB) rfl rfl sqA ?_) | (refine HO_k 12 rfl ?_; refine HO_callq rfl rfl rfl rfl (c11 _ _) (fun _ _ => rfl) (trivial) rfl rfl sqA ?_) | (refine HO_k 12 rfl ?_; refine HO_callq rfl rfl rfl rfl (c12) (fun _ _ => rfl) (srcsB) rfl rfl sqA ?_) | exact HO_seg rfl rfl | refine S1 ?_ | (refine S2 ?_; intro _) | (refine S3 ?_; intro _ _) | (refine S4 ?_; intro _ _ _) | (refine HO_g 2 rfl ?_; (first | apply HO_and rfl rfl rfl rfl rfl rfl rfl rfl rfl | apply HO_or rfl rfl rfl rfl rfl rfl rfl rfl rfl)) | refine S5 ?_ | (intro hb; try replace hb := simB hb; try exact kill hb))
  ((first | apply HX_ret | apply HX_retn); (repeat (first | exact Res_nil | apply Res_tmp rfl | apply Res_ce rfl rfl rfl)); unfold RetQ; refine ⟨(), trivial, ?_, Keeps.nil⟩)
  rfl
end Go.Proofs.YtbhiojedmkcfoaaGreatDoor
