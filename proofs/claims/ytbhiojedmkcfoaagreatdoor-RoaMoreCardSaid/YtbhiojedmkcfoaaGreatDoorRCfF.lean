/- Part of a proof of many texts: what the theorem at its end leans on. -/
import Derived.Test.YtbhiojedmkcfoaaGreatDoorRKc
import Derived.Test.YtbhiojedmkcfoaaGreatDoorRCfH
import Derived.Lib.AtoiErrMem
namespace Go.Proofs.YtbhiojedmkcfoaaGreatDoor
set_option linter.unusedVariables false
set_option linter.unusedSimpArgs false
open Go.RowKit
attribute [local irreducible] HC HX HO Tri eP adr
def digL : List UInt8 := [48, 49, 50, 51, 52, 53, 54, 55, 56, 57]
def dig (b : UInt8) : Bool := digL.contains b
def trL (l : List UInt8) : List UInt8 := l.dropWhile dig
def trR (l : List UInt8) : List UInt8 := (l.reverse.dropWhile dig).reverse
theorem trL_yes {x : UInt8} {l : List UInt8} (h : dig x = true) : trL (x :: l) = trL l := by unfold trL; rw [List.dropWhile_cons, if_pos h]
theorem trL_no {x : UInt8} {l : List UInt8} (h : dig x = false) : trL (x :: l) = x :: l := by unfold trL; rw [List.dropWhile_cons, if_neg (by rw [h]; decide)]
theorem trR_yes {x : UInt8} {l : List UInt8} (h : dig x = true) : trR (l ++ [x]) = trR l := by unfold trR; rw [List.reverse_append]; show (List.dropWhile dig (x :: l.reverse)).reverse = _; rw [List.dropWhile_cons, if_pos h]
theorem trR_no {x : UInt8} {l : List UInt8} (h : dig x = false) : trR (l ++ [x]) = l ++ [x] := by unfold trR; rw [List.reverse_append]; show (List.dropWhile dig (x :: l.reverse)).reverse = _; rw [List.dropWhile_cons, if_neg (by rw [h]; decide)]; simp
theorem dw_nil {α : Type} {p : α → Bool} : ∀ {l : List α}, l.dropWhile p = [] ↔ ∀ x ∈ l, p x = true
 | [] => by simp
 | x :: l => by
  rw [List.dropWhile_cons]
  cases h : p x with
  | true => simp [h, dw_nil (l := l)]
  | false => simp [h]
theorem tr_nil (l : List UInt8) : decide (trL (trR l) = []) = l.all dig := by
 by_cases h : l.all dig = true
 ·have hr : trR l = [] := by
   unfold trR
   rw [dw_nil.2 (fun x hx => List.all_eq_true.1 h x (List.mem_reverse.1 hx))]
   rfl
  rw [h, hr]
  rfl
 ·have hf : l.all dig = false := by simpa using h
  rw [hf]
  refine decide_eq_false fun he => h ?_
  have h1 : ∀ x ∈ trR l, dig x = true := dw_nil.1 he
  have h2 : l.reverse.dropWhile dig = [] := by
   cases hc : l.reverse.dropWhile dig with
   | nil => rfl
   | cons y t =>
    have hy : dig y = false := by
     have := List.head?_dropWhile_not dig l.reverse
     rw [hc] at this
     simpa using this
    have := h1 y (by unfold trR; rw [hc]; simp)
    rw [hy] at this
    cases this
  rw [List.all_eq_true]
  intro x hx
  exact dw_nil.1 h2 x (List.mem_reverse.2 hx)
@[reducible] def TSet : Nat := 306
def dsetL : List Value := (Lib.setCells digL).toList
theorem dset_at (x : UInt8) : dsetL[x.toNat]? = some (.bool (dig x)) := by
 have := Lib.setCells_at digL x
 unfold dsetL dig
 rw [Array.getElem?_toList]
 exact this
theorem dset_len : dsetL.length = 256 := by unfold dsetL; simp [Lib.setCells_size]
attribute [local irreducible] dsetL
set_option maxHeartbeats 1000000000 in
theorem ascont_t (b : Nat) (x : UInt8) : Tri Tryz.prog 258 [pt b, .int .u8 x.toNat] [cel b TSet dsetL] [] (fun _ : Unit => True) (fun _ => .bool (dig x)) (fun _ => []) := by
 have hx := dset_at x
 have hlt : x.toNat < 256 := x.toNat_lt
 refine Tri_of (N := Tryz.f258.ntmps) (c := bodyOf Tryz.f258) Tryz.func258 rfl rfl rfl rfl (fun w0 S0 => ?_)
 repeat' (first | refine SW ?_ | (refine HO_k 10 rfl ?_; refine HO_ixa (j := x.toNat) rfl rfl rfl rfl hlt rfl rfl rdA ?_) | (refine HO_k 2 rfl ?_; refine HO_lorj rfl rfl (.head _) hx rfl rfl rdA ?_) | exact HO_seg rfl rfl | refine S1 ?_ | (refine S2 ?_; intro _) | (refine S3 ?_; intro _ _) | (refine S4 ?_; intro _ _ _) | (refine HO_g 2 rfl ?_; first | apply HO_a1 rfl | apply HO_o1 rfl) | refine S5 ?_ | (intro hb; try replace hb := simB hb; try exact kill hb))
 (refine SRt ?_; unfold RetQ; refine ⟨(), trivial, ?_, Keeps.nil⟩)
 rfl
set_option maxHeartbeats 1000000000 in
theorem trimL_t (b : Nat) (l : List UInt8) (hl : l.length ≤ 1000000) : Tri Tryz.prog 232 [.string ⟨l.toArray⟩, pt b] [cel b TSet dsetL] [] (fun _ : Unit => True) (fun _ => .string ⟨(trL l).toArray⟩) (fun _ => []) := by
 have hc := ascont_t b
 refine Tri_of (N := Tryz.f232.ntmps) (c := bodyOf Tryz.f232) Tryz.func232 rfl rfl rfl rfl (fun w0 S0 => ?_)
 repeat' (first | refine SW ?_ | (refine HO_k 8 rfl ?_; refine HO_slen rfl rfl rfl rfl rdA ?_) | refine SD ?_ | exact HO_seg rfl rfl | refine S1 ?_ | (refine S2 ?_; intro _) | (refine S3 ?_; intro _ _) | (refine S4 ?_; intro _ _ _) | (refine HO_g 2 rfl ?_; first | apply HO_a1 rfl | apply HO_o1 rfl) | refine S5 ?_ | (intro hb; try replace hb := simB hb; try exact kill hb))
 refine HC_loop (α := List UInt8) (fun s => s.length ≤ l.length ∧ trL s = trL l) (fun s => [(0, .string ⟨s.toArray⟩), (1, pt b)]) (fun _ => []) (fun s => s.length) rfl l ⟨Nat.le_refl _, rfl⟩ ⟨rfl, rfl, trivial⟩ rfl ?_
 rintro s ⟨hs, he⟩
 rw [← he]
 match s with
 | [] =>
  repeat' (first | refine SW ?_ | (refine HO_k 8 rfl ?_; refine HO_slen rfl rfl rfl rfl rdA ?_) | refine SD ?_ | exact HO_seg rfl rfl | refine S1 ?_ | (refine S2 ?_; intro _) | (refine S3 ?_; intro _ _) | (refine S4 ?_; intro _ _ _) | (refine HO_g 2 rfl ?_; first | apply HO_a1 rfl | apply HO_o1 rfl) | refine S5 ?_ | (intro hb; try replace hb := simB hb; try exact kill hb))
  (refine SRt ?_; unfold RetQ; refine ⟨(), trivial, ?_, Keeps.nil⟩)
  rfl
 | x :: t =>
  have hx : (x :: t)[(0 : Int).toNat]? = some x := rfl
  have ht : (x :: t).length = t.length + 1 := rfl
  cases hd : dig x
  ·have hcx := hc x
   rw [hd] at hcx
   repeat' (first | refine SW ?_ | (refine HO_k 8 rfl ?_; refine HO_slen rfl rfl rfl rfl rdA ?_) | refine SD ?_ | (refine HO_k 17 rfl ?_; refine HO_sidx rfl rfl rfl (by omega) (hx) rfl rfl rdA ?_) | (refine HO_k 12 rfl ?_; refine HO_callq rfl rfl rfl rfl (hcx) (fun _ _ => rfl) (srcsA) rfl rfl sqA ?_) | (refine HO_k 13 rfl ?_; refine HO_ssll rfl rfl rfl (by omega) rfl rfl rdA ?_) | exact HO_seg rfl rfl | refine S1 ?_ | (refine S2 ?_; intro _) | (refine S3 ?_; intro _ _) | (refine S4 ?_; intro _ _ _) | (refine HO_g 2 rfl ?_; first | apply HO_a1 rfl | apply HO_o1 rfl) | refine S5 ?_ | (intro hb; try replace hb := simB hb; try exact kill hb))
   (refine SRt ?_; unfold RetQ; refine ⟨(), trivial, ?_, Keeps.nil⟩)
   rw [trL_no hd]
   rfl
  ·have hcx := hc x
   rw [hd] at hcx
   repeat' (first | refine SW ?_ | (refine HO_k 8 rfl ?_; refine HO_slen rfl rfl rfl rfl rdA ?_) | refine SD ?_ | (refine HO_k 17 rfl ?_; refine HO_sidx rfl rfl rfl (by omega) (hx) rfl rfl rdA ?_) | (refine HO_k 12 rfl ?_; refine HO_callq rfl rfl rfl rfl (hcx) (fun _ _ => rfl) (srcsA) rfl rfl sqA ?_) | (refine HO_k 13 rfl ?_; refine HO_ssll rfl rfl rfl (by omega) rfl rfl rdA ?_) | exact HO_seg rfl rfl | refine S1 ?_ | (refine S2 ?_; intro _) | (refine S3 ?_; intro _ _) | (refine S4 ?_; intro _ _ _) | (refine HO_g 2 rfl ?_; first | apply HO_a1 rfl | apply HO_o1 rfl) | refine S5 ?_ | (intro hb; try replace hb := simB hb; try exact kill hb))
   exact HX_at t ⟨⟨by omega, by rw [← trL_yes hd (l := t)]⟩, by omega⟩ ⟨rfl, rfl, trivial⟩ rfl
set_option maxHeartbeats 1000000000 in
theorem trimR_t (b : Nat) (l : List UInt8) (hl : l.length ≤ 1000000) : Tri Tryz.prog 233 [.string ⟨l.toArray⟩, pt b] [cel b TSet dsetL] [] (fun _ : Unit => True) (fun _ => .string ⟨(trR l).toArray⟩) (fun _ => []) := by
 have hc := ascont_t b
 refine Tri_of (N := Tryz.f233.ntmps) (c := bodyOf Tryz.f233) Tryz.func233 rfl rfl rfl rfl (fun w0 S0 => ?_)
 repeat' (first | refine SW ?_ | (refine HO_k 8 rfl ?_; refine HO_slen rfl rfl rfl rfl rdA ?_) | refine SD ?_ | exact HO_seg rfl rfl | refine S1 ?_ | (refine S2 ?_; intro _) | (refine S3 ?_; intro _ _) | (refine S4 ?_; intro _ _ _) | (refine HO_g 2 rfl ?_; first | apply HO_a1 rfl | apply HO_o1 rfl) | refine S5 ?_ | (intro hb; try replace hb := simB hb; try exact kill hb))
 refine HC_loop (α := List UInt8) (fun s => s.length ≤ l.length ∧ trR s = trR l) (fun s => [(0, .string ⟨s.toArray⟩), (1, pt b)]) (fun _ => []) (fun s => s.length) rfl l ⟨Nat.le_refl _, rfl⟩ ⟨rfl, rfl, trivial⟩ rfl ?_
 rintro s ⟨hs, he⟩
 rw [← he]
 rcases List.eq_nil_or_concat s with rfl | ⟨t, x, rfl⟩
 ·repeat' (first | refine SW ?_ | (refine HO_k 8 rfl ?_; refine HO_slen rfl rfl rfl rfl rdA ?_) | refine SD ?_ | exact HO_seg rfl rfl | refine S1 ?_ | (refine S2 ?_; intro _) | (refine S3 ?_; intro _ _) | (refine S4 ?_; intro _ _ _) | (refine HO_g 2 rfl ?_; first | apply HO_a1 rfl | apply HO_o1 rfl) | refine S5 ?_ | (intro hb; try replace hb := simB hb; try exact kill hb))
  (refine SRt ?_; unfold RetQ; refine ⟨(), trivial, ?_, Keeps.nil⟩)
  rfl
 ·rw [List.concat_eq_append] at *
  have ht : (t ++ [x]).length = t.length + 1 := by simp
  have hx : (t ++ [x])[((((t ++ [x]).length : Nat) : Int) - 1).toNat]? = some x := by
   have : ((((t ++ [x]).length : Nat) : Int) - 1).toNat = t.length := by omega
   rw [this]
   simp
  have hk : (t ++ [x]).take ((((t ++ [x]).length : Nat) : Int) - 1).toNat = t := by
   have : ((((t ++ [x]).length : Nat) : Int) - 1).toNat = t.length := by omega
   rw [this]
   simp
  cases hd : dig x
  ·have hcx := hc x
   rw [hd] at hcx
   repeat' (first | refine SW ?_ | (refine HO_k 8 rfl ?_; refine HO_slen rfl rfl rfl rfl rdA ?_) | refine SD ?_ | (refine HO_k 17 rfl ?_; refine HO_sidx rfl rfl rfl (by omega) (hx) rfl rfl rdA ?_) | (refine HO_k 12 rfl ?_; refine HO_callq rfl rfl rfl rfl (hcx) (fun _ _ => rfl) (srcsA) rfl rfl sqA ?_) | (refine HO_k 13 rfl ?_; refine HO_sslh rfl rfl rfl (by omega) rfl rfl rdA ?_) | exact HO_seg rfl rfl | refine S1 ?_ | (refine S2 ?_; intro _) | (refine S3 ?_; intro _ _) | (refine S4 ?_; intro _ _ _) | (refine HO_g 2 rfl ?_; first | apply HO_a1 rfl | apply HO_o1 rfl) | refine S5 ?_ | (intro hb; try replace hb := simB hb; try exact kill hb))
   (refine SRt ?_; unfold RetQ; refine ⟨(), trivial, ?_, Keeps.nil⟩)
   rw [trR_no hd]
   rfl
  ·have hcx := hc x
   rw [hd] at hcx
   repeat' (first | refine SW ?_ | (refine HO_k 8 rfl ?_; refine HO_slen rfl rfl rfl rfl rdA ?_) | refine SD ?_ | (refine HO_k 17 rfl ?_; refine HO_sidx rfl rfl rfl (by omega) (hx) rfl rfl rdA ?_) | (refine HO_k 12 rfl ?_; refine HO_callq rfl rfl rfl rfl (hcx) (fun _ _ => rfl) (srcsA) rfl rfl sqA ?_) | (refine HO_k 13 rfl ?_; refine HO_sslh rfl rfl rfl (by omega) rfl rfl rdA ?_) | exact HO_seg rfl rfl | refine S1 ?_ | (refine S2 ?_; intro _) | (refine S3 ?_; intro _ _) | (refine S4 ?_; intro _ _ _) | (refine HO_g 2 rfl ?_; first | apply HO_a1 rfl | apply HO_o1 rfl) | refine S5 ?_ | (intro hb; try replace hb := simB hb; try exact kill hb))
   rw [hk]
   exact HX_at t ⟨⟨by omega, by rw [← trR_yes hd (l := t)]⟩, by omega⟩ ⟨rfl, rfl, trivial⟩ rfl
theorem putL_all : ∀ {zs cs : List Value}, zs.length = cs.length → putL zs 0 cs = some cs
 | [], [], _ => rfl
 | z :: zs, c :: cs, h => by
  have := putL_all (zs := zs) (cs := cs) (by simpa using h)
  simp [putL, this]
theorem dset_one : dsetL.all Value.oneCell' = true := by
 rw [List.all_eq_true]
 intro v hv
 obtain ⟨i, hi⟩ := List.getElem?_of_mem hv
 have hlt : i < 256 := by have := (List.getElem?_eq_some_iff.1 hi).1; rw [dset_len] at this; exact this
 have := dset_at (UInt8.ofNat i)
 have e : (UInt8.ofNat i).toNat = i := by simp; omega
 rw [e, hi] at this
 injection this with this
 rw [this]
 rfl
theorem dset_arr : dsetL.toArray = Lib.setCells digL := by unfold dsetL; simp
def zsetL : List Value := List.replicate 256 (.bool false)
theorem zset_len : zsetL.length = 256 := List.length_replicate
theorem zset_arr : Array.replicate 256 (.bool false) = zsetL.toArray := by unfold zsetL; exact (List.toArray_replicate ..).symm
instance (priority := high) zset_zero : TyZero Tryz.prog 306 (.agg zsetL.toArray) := ⟨by kernel_rfl⟩
attribute [local irreducible] zsetL
theorem makeset_t : Tri Tryz.prog 231 [.string ⟨digL.toArray⟩] [] [] (fun _ : Unit => True) (fun _ => .tuple #[.agg dsetL.toArray, .bool true]) (fun _ => []) := by
 refine Tri_below fun w hro => ?_
 have ha : ∀ b ∈ digL, b.toNat < 128 := by decide
 have hz := zset_zero.h
 have hk : Calls Tryz.prog 231 #[.string ⟨digL.toArray⟩] w fun e w' => e = .returned (.tuple #[.agg (Lib.setCells digL), .bool true]) ∧ w' = w.alloc (.cells (Lib.setCells digL) 306) := by
  refine Tryz.strings_makeASCIISet ?_ ⟨digL.toArray⟩ w (by decide) (fun j b hb => ha b (List.mem_of_getElem? (by simpa using hb)))
  intro w
  rw [zset_arr]
  exact zero_run w hz
 refine hk.mono fun e w' ⟨he, hw⟩ => ⟨?_, ?_⟩
 ·rw [he, dset_arr]
 ·rw [hw]
  exact (Below.refl _ w).alloc (Nat.le_refl _) _
set_option maxHeartbeats 1000000000 in
theorem strim_t (l : List UInt8) (hl : l.length ≤ 1000000) : Tri Tryz.prog 194 [.string ⟨l.toArray⟩, .string ⟨#[48, 49, 50, 51, 52, 53, 54, 55, 56, 57]⟩] [] [] (fun _ : Unit => True) (fun _ => .string ⟨(trL (trR l)).toArray⟩) (fun _ => []) := by
 have h1 := makeset_t
 have h2 := fun b => trimR_t b l hl
 have hlr : (trR l).length ≤ 1000000 := by
  unfold trR
  rw [List.length_reverse]
  have := (List.dropWhile_sublist (l := l.reverse) dig).length_le
  simp at this
  omega
 have h3 := fun b => trimL_t b (trR l) hlr
 have hdig : (⟨#[48, 49, 50, 51, 52, 53, 54, 55, 56, 57]⟩ : ByteArray) = ⟨digL.toArray⟩ := rfl
 rw [hdig]
 have hne : ¬ digL = [] := by decide
 have hdl : digL.length = 10 := rfl
 by_cases hn : l = []
 ·subst hn
  refine Tri_of (N := Tryz.f194.ntmps) (c := bodyOf Tryz.f194) Tryz.func194 rfl rfl rfl rfl (fun w0 S0 => ?_)
  repeat' (first | refine SW ?_ | (with_reducible refine HO_rw (congrArg Value.bool (sba_eq _ _)) ?_) | refine SD ?_ | exact HO_seg rfl rfl | refine S1 ?_ | (refine S2 ?_; intro _) | (refine S3 ?_; intro _ _) | (refine S4 ?_; intro _ _ _) | (refine HO_g 2 rfl ?_; first | apply HO_a1 rfl | apply HO_o1 rfl) | refine S5 ?_ | (intro hb; try replace hb := simB hb; try exact kill hb))
  (refine SRt ?_; unfold RetQ; refine ⟨(), trivial, ?_, Keeps.nil⟩)
  rfl
 ·refine Tri_of (N := Tryz.f194.ntmps) (c := bodyOf Tryz.f194) Tryz.func194 rfl rfl rfl rfl (fun w0 S0 => ?_)
  have hor : (decide (l = []) || decide (digL = [])) = false := by rw [decide_eq_false hn]; rfl
  repeat' (first | refine SW ?_ | (with_reducible refine HO_rw (congrArg Value.bool (sba_eq _ _)) ?_) | refine SD ?_ | (with_reducible refine HO_rw (congrArg Value.bool hor) ?_) | (refine HO_k 8 rfl ?_; refine HO_slen rfl rfl rfl rfl rdA ?_) | (refine HO_k 3 rfl ?_; refine HO_st (n := 256) (l := dsetL) rfl rfl rfl (by show Nat.beq dsetL.length 256 = true; rw [dset_len]; rfl) dset_one (putL_all (zs := zsetL) (cs := dsetL) (by rw [zset_len]; exact dset_len.symm)) rfl rfl soA ?_) | (refine HO_k 12 rfl ?_; refine HO_callq rfl rfl rfl rfl (h1) (fun _ _ => rfl) (trivial) rfl rfl sqA ?_) | (refine HO_k 12 rfl ?_; refine HO_callq rfl rfl rfl rfl (h2 _) (fun _ _ => rfl) (srcsA) rfl rfl sqA ?_) | (refine HO_k 12 rfl ?_; refine HO_callq rfl rfl rfl rfl (h3 _) (fun _ _ => rfl) (srcsA) rfl rfl sqA ?_) | exact HO_seg rfl rfl | refine S1 ?_ | (refine S2 ?_; intro _) | (refine S3 ?_; intro _ _) | (refine S4 ?_; intro _ _ _) | (refine HO_g 2 rfl ?_; first | apply HO_a1 rfl | apply HO_o1 rfl) | refine S5 ?_ | (intro hb; try replace hb := simB hb; try exact kill hb))
  (refine SRt ?_; unfold RetQ; refine ⟨(), trivial, ?_, Keeps.nil⟩)
  rfl
theorem dig_iff (b : UInt8) : dig b = true ↔ 48 ≤ b.toNat ∧ b.toNat ≤ 57 := by
 unfold dig digL
 simp only [List.contains_cons, List.contains_nil, Bool.or_false, Bool.or_eq_true, beq_iff_eq]
 constructor
 ·rintro (rfl | rfl | rfl | rfl | rfl | rfl | rfl | rfl | rfl | rfl) <;> decide
 ·intro h
  have e : b = UInt8.ofNat b.toNat := by simp
  obtain h | h | h | h | h | h | h | h | h | h : b.toNat = 48 ∨ b.toNat = 49 ∨ b.toNat = 50 ∨ b.toNat = 51 ∨ b.toNat = 52 ∨ b.toNat = 53 ∨ b.toNat = 54 ∨ b.toNat = 55 ∨ b.toNat = 56 ∨ b.toNat = 57 := by omega
  all_goals (rw [h] at e; rw [e]; decide)
theorem digs_all : ∀ (l : List UInt8) (a : Nat), (digs a l).isSome = l.all dig
 | [], a => rfl
 | x :: l, a => by
  rw [List.all_cons, digs]
  by_cases h : 48 ≤ x.toNat ∧ x.toNat ≤ 57
  ·rw [if_pos h, (dig_iff x).2 h, Bool.true_and]
   exact digs_all l _
  ·have hx : dig x = false := by
    cases hd : dig x with
    | false => rfl
    | true => exact absurd ((dig_iff x).1 hd) h
   rw [if_neg h, hx]
   rfl
theorem decFrom_digs : ∀ (l : List UInt8) (a : Nat), Lib.decFrom a l = digs a l
 | [], a => rfl
 | x :: l, a => by
  rw [Lib.decFrom, digs]
  unfold Lib.digitVal
  by_cases h : 48 ≤ x.toNat ∧ x.toNat ≤ 57
  ·rw [if_pos h, if_pos h]
   show Lib.decFrom (a * 10 + (x.toNat - 48)) l = _
   rw [decFrom_digs l, Nat.mul_comm]
  ·rw [if_neg h, if_neg h]
theorem atoi_digs {l : List UInt8} {n : Nat} (hne : l ≠ []) (h : digs 0 l = some n) : Lib.atoi l = some (n : Int) := by
 match l, hne with
 | x :: t, _ =>
  have hx : 48 ≤ x.toNat ∧ x.toNat ≤ 57 := by
   rw [digs] at h
   split at h
   ·assumption
   ·cases h
  unfold Lib.atoi
  have h1 : (x == 45) = false := by
   cases he : x == 45 with
   | false => rfl
   | true => rw [beq_iff_eq] at he; subst he; revert hx; decide
  have h2 : (x == 43) = false := by
   cases he : x == 43 with
   | false => rfl
   | true => rw [beq_iff_eq] at he; subst he; revert hx; decide
  simp only [h1, h2, Bool.false_eq_true, if_false]
  unfold Lib.decNat
  simp only [List.isEmpty_cons, Bool.false_eq_true, if_false]
  rw [decFrom_digs, h]
  rfl
theorem atoi_t (l : List UInt8) (n : Nat) (hl : l.length ≤ 18) (hne : l ≠ []) (h : digs 0 l = some n) : Tri Tryz.prog 195 [.string ⟨l.toArray⟩] [] [] (fun _ : Unit => True) (fun _ => .tuple #[.int .i64 n, .nilIface]) (fun _ => []) := by
 refine Tri_below fun w hro => ?_
 refine (Tryz.strconv_Atoi ⟨l.toArray⟩ n (by show l.toArray.size ≤ 18; simpa using hl) (by simpa using atoi_digs hne h) w).mono fun e w' ⟨he, t, hw⟩ => ⟨he, ?_⟩
 rw [hw]
 exact Lib.bytesWorld_below _ _ _
theorem sba_ne (a b : List UInt8) : (!((ByteArray.mk a.toArray).toList == (ByteArray.mk b.toArray).toList)) = !decide (a = b) := by rw [sba_eq]
def numV (v : List UInt8) : Int := match numR v with
 | some n => n
 | none => 0
end Go.Proofs.YtbhiojedmkcfoaaGreatDoor
