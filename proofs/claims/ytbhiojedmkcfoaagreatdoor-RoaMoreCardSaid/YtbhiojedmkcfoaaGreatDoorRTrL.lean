/- Part of a proof of many texts: what the theorem at its end leans on. -/
import Derived.Test.YtbhiojedmkcfoaaGreatDoorRCfF
import Derived.Test.YtbhiojedmkcfoaaGreatDoorRCgB
import Derived.Test.YtbhiojedmkcfoaaGreatDoorRTrC
namespace Go.Proofs.YtbhiojedmkcfoaaGreatDoor
set_option linter.unusedVariables false
set_option linter.unusedSimpArgs false
open Go.RowKit
attribute [local irreducible] HC HX HO Tri eP adr
def ifB (P : Program) (T : TypeId) : Bool := match P.underlying T with
 | some (.interface _) => true
 | _ => false
theorem ifc_run {P : Program} {T : TypeId} (w : World) (d : Nat) (h : ifB P T = true) : (Op.equalIn (d + 1) T .nilIface .nilIface).run P w = .ok true w := by
 unfold ifB at h
 split at h
 ·rename_i ms hms
  simp [Op.equalIn, run_underlying hms]
 ·cases h
theorem HO_eqi {m : Md} {P : Program} {N : Nat} {w0 : World} {S0 : Foot} {ops : List Oper} {i : Nat} {lq : List Nat} {env : Env} {ro rw : List SL} {K : Act → World → Prop} {d : Nat} {ty : TypeId} {pos : String} {aft : Array Edge} {g : Option (Nat × Bool)}
  {T U : Nat} {x : Operand} (hT : ifB P T = true) (ho : ops[i]? = some ⟨some d, .binOp .eql T x (.const .nilIface) U, ty, pos, aft, g⟩) (hx : Env.ev env x = some .nilIface)
  (hw : wantE ops env g = some true) (hN : Nat.blt d N = true) (hr : rdyB m ops i lq = true)
  (h : HO m P N w0 S0 ops lq ((d, .bool true) :: env) ro rw K) : HO m P N w0 S0 ops (i :: lq) env ro rw K := by
 refine HO_val ho hw rfl hN hr (fun a w ha hf => ?_) h
 have hc : a.eval (.const .nilIface) = .nilIface := ha.ev (show Env.ev env (.const .nilIface) = some .nilIface from rfl)
 have h1 := ifc_run (P := P) (T := T) w 9999 hT
 simp only [execOp, eqGuard, ha.ev hx, hc, Sem.run_bind]
 simp [binOp, Op.equal, show Op.maxDepth = 9999 + 1 from rfl, h1]
set_option maxHeartbeats 1000000000 in
theorem ronum_t (v : List UInt8) (hv : v.length ≤ 1000000) : Tri Tryz.prog 200 [.string ⟨v.toArray⟩] [] [] (fun _ : Unit => True) (fun _ => .tuple #[.int .i64 (numV v), .bool (numR v).isSome]) (fun _ => []) := by
 have ht := strim_t v hv
 have htr := tr_nil v
 match v with
 | [] =>
  have hr : numR [] = none := rfl
  unfold numV
  rw [hr]
  refine Tri_of (N := Tryz.f200.ntmps) (c := bodyOf Tryz.f200) Tryz.func200 rfl rfl rfl rfl (fun w0 S0 => ?_)
  repeat' (first | refine SW ?_ | (refine HO_k 8 rfl ?_; refine HO_slen rfl rfl rfl rfl rdA ?_) | refine SD ?_ | exact HO_seg rfl rfl | refine S1 ?_ | (refine S2 ?_; intro _) | (refine S3 ?_; intro _ _) | (refine S4 ?_; intro _ _ _) | (refine HO_g 2 rfl ?_; first | apply HO_a1 rfl | apply HO_o1 rfl) | refine S5 ?_ | (intro hb; try replace hb := simB hb; try exact kill hb))
  (refine SRt ?_; unfold RetQ; refine ⟨(), trivial, ?_, Keeps.nil⟩)
  rfl
 | x :: t =>
  have hx : (x :: t)[(0 : Int).toNat]? = some x := rfl
  have hlt : (x :: t).length = t.length + 1 := rfl
  by_cases h16 : 16 < (x :: t).length
  ·have hr : numR (x :: t) = none := by unfold numR; rw [if_pos (.inr (.inl h16))]
   unfold numV
   rw [hr]
   refine Tri_of (N := Tryz.f200.ntmps) (c := bodyOf Tryz.f200) Tryz.func200 rfl rfl rfl rfl (fun w0 S0 => ?_)
   repeat' (first | refine SW ?_ | (refine HO_k 8 rfl ?_; refine HO_slen rfl rfl rfl rfl rdA ?_) | refine SD ?_ | ((refine HO_g 2 rfl ?_); (refine HO_skip rfl rfl rfl rfl rdA ?_)) | exact HO_seg rfl rfl | refine S1 ?_ | (refine S2 ?_; intro _) | (refine S3 ?_; intro _ _) | (refine S4 ?_; intro _ _ _) | (refine HO_g 2 rfl ?_; first | apply HO_a1 rfl | apply HO_o1 rfl) | refine S5 ?_ | (intro hb; try replace hb := simB hb; try exact kill hb))
   (refine SRt ?_; unfold RetQ; refine ⟨(), trivial, ?_, Keeps.nil⟩)
   rfl
  by_cases h0 : x.toNat = 48 ∧ 1 < (x :: t).length
  ·have hx0 : x = 48 := UInt8.toNat_inj.1 h0.1
   have hr : numR (x :: t) = none := by unfold numR; rw [if_pos (.inr (.inr ⟨by rw [hx0]; rfl, h0.2⟩))]
   obtain ⟨h01, h02⟩ := h0
   unfold numV
   rw [hr]
   refine Tri_of (N := Tryz.f200.ntmps) (c := bodyOf Tryz.f200) Tryz.func200 rfl rfl rfl rfl (fun w0 S0 => ?_)
   repeat' (first | refine SW ?_ | (with_reducible refine HO_rw (congrArg Value.bool (sba_ne _ _)) ?_) | (with_reducible refine HO_rw (congrArg Value.bool (congrArg not htr)) ?_) | (refine HO_k 8 rfl ?_; refine HO_slen rfl rfl rfl rfl rdA ?_) | refine SD ?_ | (refine HO_k 17 rfl ?_; refine HO_sidx rfl rfl rfl (by omega) (hx) rfl rfl rdA ?_) | (refine HO_k 12 rfl ?_; refine HO_callq rfl rfl rfl rfl (ht) (fun _ _ => rfl) (trivial) rfl rfl sqA ?_) | exact HO_seg rfl rfl | refine S1 ?_ | (refine S2 ?_; intro _) | (refine S3 ?_; intro _ _) | (refine S4 ?_; intro _ _ _) | (refine HO_g 2 rfl ?_; first | apply HO_a1 rfl | apply HO_o1 rfl) | refine S5 ?_ | (intro hb; try replace hb := simB hb; try exact kill hb))
   (refine SRt ?_; unfold RetQ; refine ⟨(), trivial, ?_, Keeps.nil⟩)
   rfl
  have hnr : numR (x :: t) = digs 0 (x :: t) := by
   unfold numR
   rw [if_neg]
   rintro (a | a | ⟨a, a2⟩)
   ·omega
   ·omega
   ·injection a with a
    exact h0 ⟨by rw [a]; rfl, a2⟩
  have hall := digs_all (x :: t) 0
  cases hd : digs 0 (x :: t) with
  | none =>
   have hr : numR (x :: t) = none := hnr.trans hd
   rw [hd] at hall
   have hal : (x :: t).all dig = false := hall.symm
   rw [hal] at htr
   have hne : ¬ trL (trR (x :: t)) = [] := of_decide_eq_false htr
   by_cases h48 : x.toNat = 48
   ·have hl1 : ¬ 1 < (x :: t).length := fun h => h0 ⟨h48, h⟩
    unfold numV
    rw [hr]
    refine Tri_of (N := Tryz.f200.ntmps) (c := bodyOf Tryz.f200) Tryz.func200 rfl rfl rfl rfl (fun w0 S0 => ?_)
    repeat' (first | refine SW ?_ | (with_reducible refine HO_rw (congrArg Value.bool (sba_ne _ _)) ?_) | (with_reducible refine HO_rw (congrArg Value.bool (congrArg not htr)) ?_) | (refine HO_k 8 rfl ?_; refine HO_slen rfl rfl rfl rfl rdA ?_) | refine SD ?_ | (refine HO_k 17 rfl ?_; refine HO_sidx rfl rfl rfl (by omega) (hx) rfl rfl rdA ?_) | (refine HO_k 12 rfl ?_; refine HO_callq rfl rfl rfl rfl (ht) (fun _ _ => rfl) (trivial) rfl rfl sqA ?_) | exact HO_seg rfl rfl | refine S1 ?_ | (refine S2 ?_; intro _) | (refine S3 ?_; intro _ _) | (refine S4 ?_; intro _ _ _) | (refine HO_g 2 rfl ?_; first | apply HO_a1 rfl | apply HO_o1 rfl) | refine S5 ?_ | (intro hb; try replace hb := simB hb; try exact kill hb))
    (refine SRt ?_; unfold RetQ; refine ⟨(), trivial, ?_, Keeps.nil⟩)
    rfl
   ·unfold numV
    rw [hr]
    refine Tri_of (N := Tryz.f200.ntmps) (c := bodyOf Tryz.f200) Tryz.func200 rfl rfl rfl rfl (fun w0 S0 => ?_)
    repeat' (first | refine SW ?_ | (with_reducible refine HO_rw (congrArg Value.bool (sba_ne _ _)) ?_) | (with_reducible refine HO_rw (congrArg Value.bool (congrArg not htr)) ?_) | (refine HO_k 8 rfl ?_; refine HO_slen rfl rfl rfl rfl rdA ?_) | refine SD ?_ | (refine HO_k 17 rfl ?_; refine HO_sidx rfl rfl rfl (by omega) (hx) rfl rfl rdA ?_) | (refine HO_k 12 rfl ?_; refine HO_callq rfl rfl rfl rfl (ht) (fun _ _ => rfl) (trivial) rfl rfl sqA ?_) | exact HO_seg rfl rfl | refine S1 ?_ | (refine S2 ?_; intro _) | (refine S3 ?_; intro _ _) | (refine S4 ?_; intro _ _ _) | (refine HO_g 2 rfl ?_; first | apply HO_a1 rfl | apply HO_o1 rfl) | refine S5 ?_ | (intro hb; try replace hb := simB hb; try exact kill hb))
    (refine SRt ?_; unfold RetQ; refine ⟨(), trivial, ?_, Keeps.nil⟩)
    rfl
  | some n =>
   have hr : numR (x :: t) = some n := hnr.trans hd
   rw [hd] at hall
   have hal : (x :: t).all dig = true := hall.symm
   rw [hal] at htr
   have hne : trL (trR (x :: t)) = [] := of_decide_eq_true htr
   have ha := atoi_t (x :: t) n (by omega) (by simp) hd
   unfold numV
   rw [hr]
   by_cases h48 : x.toNat = 48
   ·have hl1 : ¬ 1 < (x :: t).length := fun h => h0 ⟨h48, h⟩
    refine Tri_of (N := Tryz.f200.ntmps) (c := bodyOf Tryz.f200) Tryz.func200 rfl rfl rfl rfl (fun w0 S0 => ?_)
    repeat' (first | refine SW ?_ | (with_reducible refine HO_rw (congrArg Value.bool (sba_ne _ _)) ?_) | (with_reducible refine HO_rw (congrArg Value.bool (congrArg not htr)) ?_) | (refine HO_k 8 rfl ?_; refine HO_slen rfl rfl rfl rfl rdA ?_) | refine SD ?_ | (refine HO_k 17 rfl ?_; refine HO_sidx rfl rfl rfl (by omega) (hx) rfl rfl rdA ?_) | (refine HO_k 12 rfl ?_; refine HO_callq rfl rfl rfl rfl (ht) (fun _ _ => rfl) (trivial) rfl rfl sqA ?_) | (refine HO_k 12 rfl ?_; refine HO_callq rfl rfl rfl rfl (ha) (fun _ _ => rfl) (trivial) rfl rfl sqA ?_) | (refine HO_k 0 rfl ?_; refine HO_eqi (by kernel_rfl) rfl rfl rfl rfl rdA ?_) | exact HO_seg rfl rfl | refine S1 ?_ | (refine S2 ?_; intro _) | (refine S3 ?_; intro _ _) | (refine S4 ?_; intro _ _ _) | (refine HO_g 2 rfl ?_; first | apply HO_a1 rfl | apply HO_o1 rfl) | refine S5 ?_ | (intro hb; try replace hb := simB hb; try exact kill hb))
    (refine SRt ?_; unfold RetQ; refine ⟨(), trivial, ?_, Keeps.nil⟩)
    rfl
   ·refine Tri_of (N := Tryz.f200.ntmps) (c := bodyOf Tryz.f200) Tryz.func200 rfl rfl rfl rfl (fun w0 S0 => ?_)
    repeat' (first | refine SW ?_ | (with_reducible refine HO_rw (congrArg Value.bool (sba_ne _ _)) ?_) | (with_reducible refine HO_rw (congrArg Value.bool (congrArg not htr)) ?_) | (refine HO_k 8 rfl ?_; refine HO_slen rfl rfl rfl rfl rdA ?_) | refine SD ?_ | (refine HO_k 17 rfl ?_; refine HO_sidx rfl rfl rfl (by omega) (hx) rfl rfl rdA ?_) | (refine HO_k 12 rfl ?_; refine HO_callq rfl rfl rfl rfl (ht) (fun _ _ => rfl) (trivial) rfl rfl sqA ?_) | (refine HO_k 12 rfl ?_; refine HO_callq rfl rfl rfl rfl (ha) (fun _ _ => rfl) (trivial) rfl rfl sqA ?_) | (refine HO_k 0 rfl ?_; refine HO_eqi (by kernel_rfl) rfl rfl rfl rfl rdA ?_) | exact HO_seg rfl rfl | refine S1 ?_ | (refine S2 ?_; intro _) | (refine S3 ?_; intro _ _) | (refine S4 ?_; intro _ _ _) | (refine HO_g 2 rfl ?_; first | apply HO_a1 rfl | apply HO_o1 rfl) | refine S5 ?_ | (intro hb; try replace hb := simB hb; try exact kill hb))
    (refine SRt ?_; unfold RetQ; refine ⟨(), trivial, ?_, Keeps.nil⟩)
    rfl
def lnQ (l : List UInt8) : RoQ × Bool := match splB 32 l with
 | [w0, w1, w2] => match paR w0 with
  | none => (⟨0, 0, numV w1, numV w2⟩, false)
  | some (a, n) => (⟨a, n, numV w1, numV w2⟩, (numR w1).isSome && (numR w2).isSome)
 | _ => (⟨0, 0, 0, 0⟩, false)
theorem lnQ_not {l : List UInt8} (h : (splB 32 l).length ≠ 3) : lnQ l = (⟨0, 0, 0, 0⟩, false) := by
 unfold lnQ
 split
 ·rename_i h2
  rw [h2] at h
  exact absurd rfl h
 ·rfl
set_option maxHeartbeats 1000000000 in
theorem roline_t (m : Int) (l : List UInt8) (hl : l.length ≤ 90000) : Tri Tryz.prog 147 [.string ⟨l.toArray⟩] [maxLen0 m] [] (fun _ : Unit => True) (fun _ => .tuple #[.agg (lnQ l).1.e.toArray, .bool (lnQ l).2]) (fun _ => []) := by
 have c1 := splC_t m 32 l (by omega)
 have hmem := splB_mem 32 l
 by_cases h3 : (splB 32 l).length = 3
 ·obtain ⟨w0, w1, w2, hw⟩ : ∃ w0 w1 w2, splB 32 l = [w0, w1, w2] := by
   rcases hs : splB 32 l with _ | ⟨w0, _ | ⟨w1, _ | ⟨w2, _ | ⟨w3, r⟩⟩⟩⟩ <;> rw [hs] at h3 <;> simp at h3
   exact ⟨w0, w1, w2, rfl⟩
  rw [hw] at c1 hmem
  have l0 := hmem w0 (by simp)
  have l1 := hmem w1 (by simp)
  have l2 := hmem w2 (by simp)
  have c2 := aparse_t m w0 (by omega)
  have c3 := ronum_t w1 (by omega)
  have c4 := ronum_t w2 (by omega)
  unfold lnQ
  rw [hw]
  dsimp only
  have e0 : ([w0, w1, w2] : List (List UInt8))[(0 : Int).toNat]? = some w0 := rfl
  have e1 : ([w0, w1, w2] : List (List UInt8))[(1 : Int).toNat]? = some w1 := rfl
  have e2 : ([w0, w1, w2] : List (List UInt8))[(2 : Int).toNat]? = some w2 := rfl
  cases hp : paR w0 with
  | none =>
   rw [hp] at c2
   dsimp only [paV, pfV] at c2
   dsimp only [RoQ.e]
   refine Tri_of (N := Tryz.f147.ntmps) (c := bodyOf Tryz.f147) Tryz.func147 rfl rfl rfl rfl (fun w0 S0 => ?_)
   repeat' (first | refine SW ?_ | ((refine HO_g 2 rfl ?_); (refine HO_skip rfl rfl rfl rfl rdA ?_)) | refine SD ?_ | (refine HO_k 12 rfl ?_; refine HO_call rfl rfl rfl rfl (c1) rfl (srcsA) rfl rfl soA ?_; intro b1 hb1; dsimp only [lca, lna]) | (refine HO_k 12 rfl ?_; refine HO_callq rfl rfl rfl rfl (c2) (fun _ _ => rfl) (srcsA) rfl rfl sqA ?_) | (refine HO_k 12 rfl ?_; refine HO_callq rfl rfl rfl rfl (c3) (fun _ _ => rfl) (trivial) rfl rfl sqA ?_) | (refine HO_k 12 rfl ?_; refine HO_callq rfl rfl rfl rfl (c4) (fun _ _ => rfl) (trivial) rfl rfl sqA ?_) | exact HO_seg rfl rfl | refine S1 ?_ | (refine S2 ?_; intro _) | (refine S3 ?_; intro _ _) | (refine S4 ?_; intro _ _ _) | (refine HO_g 2 rfl ?_; first | apply HO_a1 rfl | apply HO_o1 rfl) | refine S5 ?_ | (intro hb; try replace hb := simB hb; try exact kill hb))
   (refine SRt ?_; unfold RetQ; refine ⟨(), trivial, ?_, Keeps.nil⟩)
   rfl
  | some q =>
   obtain ⟨a, n⟩ := q
   rw [hp] at c2
   dsimp only [paV, pfV] at c2
   dsimp only [RoQ.e]
   refine Tri_of (N := Tryz.f147.ntmps) (c := bodyOf Tryz.f147) Tryz.func147 rfl rfl rfl rfl (fun w0 S0 => ?_)
   repeat' (first | refine SW ?_ | ((refine HO_g 2 rfl ?_); (refine HO_skip rfl rfl rfl rfl rdA ?_)) | refine SD ?_ | (refine HO_k 12 rfl ?_; refine HO_call rfl rfl rfl rfl (c1) rfl (srcsA) rfl rfl soA ?_; intro b1 hb1; dsimp only [lca, lna]) | (refine HO_k 12 rfl ?_; refine HO_callq rfl rfl rfl rfl (c2) (fun _ _ => rfl) (srcsA) rfl rfl sqA ?_) | (refine HO_k 12 rfl ?_; refine HO_callq rfl rfl rfl rfl (c3) (fun _ _ => rfl) (trivial) rfl rfl sqA ?_) | (refine HO_k 12 rfl ?_; refine HO_callq rfl rfl rfl rfl (c4) (fun _ _ => rfl) (trivial) rfl rfl sqA ?_) | exact HO_seg rfl rfl | refine S1 ?_ | (refine S2 ?_; intro _) | (refine S3 ?_; intro _ _) | (refine S4 ?_; intro _ _ _) | (refine HO_g 2 rfl ?_; first | apply HO_a1 rfl | apply HO_o1 rfl) | refine S5 ?_ | (intro hb; try replace hb := simB hb; try exact kill hb))
   (refine SRt ?_; unfold RetQ; refine ⟨(), trivial, ?_, Keeps.nil⟩)
   rfl
 ·rw [lnQ_not h3]
  obtain ⟨L, hL⟩ : ∃ L, splB 32 l = L := ⟨_, rfl⟩
  rw [hL] at c1 h3
  have h4 : ¬ ((L.length : Int) = 3) := by omega
  dsimp only [RoQ.e]
  refine Tri_of (N := Tryz.f147.ntmps) (c := bodyOf Tryz.f147) Tryz.func147 rfl rfl rfl rfl (fun w0 S0 => ?_)
  repeat' (first | refine SW ?_ | ((refine HO_g 2 rfl ?_); (refine HO_skip rfl rfl rfl rfl rdA ?_)) | refine SD ?_ | (refine HO_k 12 rfl ?_; refine HO_call rfl rfl rfl rfl (c1) rfl (srcsA) rfl rfl soA ?_; intro b1 hb1; dsimp only [lca, lna]) | exact HO_seg rfl rfl | refine S1 ?_ | (refine S2 ?_; intro _) | (refine S3 ?_; intro _ _) | (refine S4 ?_; intro _ _ _) | (refine HO_g 2 rfl ?_; first | apply HO_a1 rfl | apply HO_o1 rfl) | refine S5 ?_ | (intro hb; try replace hb := simB hb; try exact kill hb))
  (refine SRt ?_; unfold RetQ; refine ⟨(), trivial, ?_, Keeps.nil⟩)
  rfl
end Go.Proofs.YtbhiojedmkcfoaaGreatDoor
