/- Part of a proof of many texts: what the theorem at its end leans on. -/
import Derived.Test.YtbhiojedmkcfoaaGreatDoorZScW
import Derived.Test.YtbhiojedmkcfoaaGreatDoorZCgC
namespace Go.Proofs.YtbhiojedmkcfoaaGreatDoor
set_option linter.unusedVariables false
set_option linter.unusedSimpArgs false
open Go.RowKit
attribute [local irreducible] HC HX HO Tri eP adr
theorem SYScX {p q : Prop} (hq : q) (h : q → p := by intro hq; refine HO_k 3 rfl ?_; exact HO_lastG (by decide +kernel) rfl rfl (by decide +kernel) (by decide +kernel) rfl hq) : p := h hq
theorem par_nil : parM [] = none := by decide +kernel
theorem decH_rd (b : List UInt8) : (parM (rdB (rdN false b 2).2.1 (rdN false b 2).2.2 ((rdN false b 2).1 : Int)).1 = none → decH b = none) ∧
  (∀ q, parM (rdB (rdN false b 2).2.1 (rdN false b 2).2.2 ((rdN false b 2).1 : Int)).1 = some q → decH b = some (q, (rdB (rdN false b 2).2.1 (rdN false b 2).2.2 ((rdN false b 2).1 : Int)).2.2) ∧ (rdB (rdN false b 2).2.1 (rdN false b 2).2.2 ((rdN false b 2).1 : Int)).2.1 = false) := by
 unfold decH
 cases hw : getW 2 b with
 | none =>
  have h1 := rdN_none hw
  have h2 : (rdB (rdN false b 2).2.1 (rdN false b 2).2.2 ((rdN false b 2).1 : Int)).1 = [] := by
   rw [h1]
   unfold rdB
   simp
  rw [h2, par_nil]
  exact ⟨fun _ => rfl, fun q h => (by cases h)⟩
 | some x =>
  obtain ⟨n, r⟩ := x
  rw [rdN_some (by decide) (by decide) hw]
  simp only
  by_cases hn : n ≤ r.length
  ·have e : rdB false r (n : Int) = (r.take n, false, r.drop n) := by
    unfold rdB
    rw [if_neg (by simp; omega)]
    simp
   rw [e, if_pos hn]
   simp only
   cases hp : parM (r.take n) with
   | none => exact ⟨fun _ => rfl, fun q h => (by cases h)⟩
   | some q =>
    refine ⟨fun h => (by cases h), fun q' h => ?_⟩
    injection h with h
    subst h
    exact ⟨rfl, trivial⟩
  ·have e : rdB false r (n : Int) = ([], true, r) := by
    unfold rdB
    rw [if_pos (by right; right; omega)]
   rw [e]
   simp only
   rw [par_nil]
   exact ⟨fun _ => (by rw [if_neg hn]), fun q h => (by cases h)⟩
def sc0 : ScS := ⟨⟨cf0, none, 0, none, 0⟩, none, 0, []⟩
abbrev DecX := (OA × OA) × OA × List DoS
def decSc (b : List UInt8) (x : DecX) : ScS := match decM b with
 | some (q, _) => ⟨⟨q, x.1.1.1, x.1.1.2, x.1.2.1, x.1.2.2⟩, x.2.1.1, x.2.1.2, x.2.2⟩
 | none => sc0
def decP (b : List UInt8) (x : DecX) : Prop := match decM b with
 | some (_, ds) => x.2.2.map (·.q) = ds
 | none => True
theorem decM_rd {b r : List UInt8} {q : CfQ} (h : decH b = some (q, r)) : decM b = if ((rdS 4097 false false r).2.1 || (rdS 4097 false false r).2.2.1) = true then none
  else if (decide ((rdS 4097 false false r).1.length ≤ 4096) && (rdS 4097 false false r).1.all oneQ) = true then some (q, (rdS 4097 false false r).1) else none := by
 rw [← decS_eq]
 unfold decS
 rw [h]
theorem decM_no {b : List UInt8} (h : decH b = none) : decM b = none := by unfold decM; rw [h]
theorem doPs_snoc (l : List DoS) (d : DoS) : doPs (l ++ [d]) = doPs l ++ d.ro := by unfold doPs; rw [List.flatMap_append]; simp
theorem keeps_do {l : List DoS} {d : DoS} {rw rw' : List SL} (h : Keeps (inn (doPs (l ++ [d])) :: rw) rw') : Keeps (inn (doPs l) :: (d.ro ++ rw)) rw' := by
 rw [doPs_snoc] at h
 refine Keeps.inn_snoc (Keeps.inn_snoc (Keeps.inn_snoc ?_))
 simpa [DoS.ro, List.append_assoc] using h
theorem cfL_of {q : CfQ} (hw : CfW q) (hok : cfOk q = true) (iA : Option Addr) (ic : Nat) (dA : Option Addr) (dc : Nat) : CfL ⟨q, iA, ic, dA, dc⟩ ∧ True := by
 have h := cfOk_parts hok
 exact ⟨⟨by show q.ifs.length ≤ 100000; omega, by show q.deny.length ≤ 100000; omega, hw.2.2.1, hw.2.2.2⟩, trivial⟩
set_option maxHeartbeats 1000000000 in
theorem sdec_t (m : Int) (A : Option Addr) (c : Nat) (b : List UInt8) (hb : b.length ≤ 1000000000) :
  Tri Tryz.prog 47 [.slice A b.length c] [arr bE 1 A b, glW, maxLen0 m] [] (decP b) (fun x => .tuple #[.agg (decSc b x).e.toArray, .int .i64 (if (decM b).isSome = true then 0 else 270)]) (fun x => (decSc b x).ro) := by
 have hfrom := nfrom_t A b.length c b rfl hb
 have hd := decH_rd b
 have n1 := fun b1 x hx => rnumN_t b1 x false b 2 (by decide) hb hx
 have k1 := rdN_lt false b 2 (by decide)
 obtain ⟨⟨n, bad1, l1⟩, hr1⟩ : ∃ r, rdN false b 2 = r := ⟨_, rfl⟩
 simp only [hr1] at n1 k1 hd
 have n2 := fun b1 (x : OA) hx => nbytes_t b1 x.1 x.2 bad1 l1 (n : Int) (by omega) hx
 have k2 := rdB_len bad1 l1 (n : Int)
 obtain ⟨⟨t, bad2, l2⟩, hr2⟩ : ∃ r, rdB bad1 l1 (n : Int) = r := ⟨_, rfl⟩
 simp only [hr2] at n2 k2 hd
 clear hr1 hr2
 have k1' := k1.1
 have ht : t.length ≤ 90000 := by have := k2.1; omega
 have n3 := cparse_t m t ht
 obtain ⟨hd1, hd2⟩ := hd
 dsimp only [rdP] at n1 n2 hfrom
 refine Tri_of (N := Tryz.f47.ntmps) (c := bodyOf Tryz.f47) Tryz.func47 rfl rfl rfl rfl (fun w0 S0 => ?_)
 cases hp : parM t with
 | none =>
  have hM := decM_no (hd1 hp)
  unfold decP decSc
  rw [hM]
  simp only [parS_none hp, hp, Option.isSome_none, Bool.false_eq_true, if_false] at n3
  dsimp only [CfS.e] at n3
  repeat' (first | refine SW ?_ | refine SD ?_ | (refine HO_k 12 rfl ?_; refine HO_call rfl rfl rfl rfl (hfrom) rfl (srcsA) rfl rfl soA ?_; intro x0 hx0; dsimp only [lca, lna]) | exact HO_seg rfl rfl | refine S1 ?_ | (refine S2 ?_; intro _) | (refine S3 ?_; intro _ _) | (refine S4 ?_; intro _ _ _) | (refine HO_g 2 rfl ?_; first | apply HO_a1 rfl | apply HO_o1 rfl) | refine SYScX ?_ | refine S5n ?_ | (intro hb; try replace hb := simB hb; try exact kill hb))
  repeat' (first | refine SW ?_ | refine SD ?_ | (refine HO_k 7 rfl ?_; refine HO_b2sr (l := t) 0 rfl rfl rfl rfl rfl rfl rfl rdA ?_) | (refine HO_k 7 rfl ?_; (first | (refine HO_holdA 0 rfl rfl ?_; refine HO_b2sr (l := t) 0 rfl rfl rfl rfl rfl rfl rfl rdA ?_) | (refine HO_holdA 1 rfl rfl ?_; refine HO_b2sr (l := t) 0 rfl rfl rfl rfl rfl rfl rfl rdA ?_) | (refine HO_holdA 2 rfl rfl ?_; refine HO_b2sr (l := t) 0 rfl rfl rfl rfl rfl rfl rfl rdA ?_) | (refine HO_holdA 3 rfl rfl ?_; refine HO_b2sr (l := t) 0 rfl rfl rfl rfl rfl rfl rfl rdA ?_) | (refine HO_holdA 4 rfl rfl ?_; refine HO_b2sr (l := t) 0 rfl rfl rfl rfl rfl rfl rfl rdA ?_) | (refine HO_holdA 5 rfl rfl ?_; refine HO_b2sr (l := t) 0 rfl rfl rfl rfl rfl rfl rfl rdA ?_) | (refine HO_holdA 6 rfl rfl ?_; refine HO_b2sr (l := t) 0 rfl rfl rfl rfl rfl rfl rfl rdA ?_) | (refine HO_holdA 7 rfl rfl ?_; refine HO_b2sr (l := t) 0 rfl rfl rfl rfl rfl rfl rfl rdA ?_) | (refine HO_holdA 8 rfl rfl ?_; refine HO_b2sr (l := t) 0 rfl rfl rfl rfl rfl rfl rfl rdA ?_) | (refine HO_holdA 9 rfl rfl ?_; refine HO_b2sr (l := t) 0 rfl rfl rfl rfl rfl rfl rfl rdA ?_) | (refine HO_holdA 10 rfl rfl ?_; refine HO_b2sr (l := t) 0 rfl rfl rfl rfl rfl rfl rfl rdA ?_) | (refine HO_holdA 11 rfl rfl ?_; refine HO_b2sr (l := t) 0 rfl rfl rfl rfl rfl rfl rfl rdA ?_))) | (first | refine HO_2p 8 15 (by decide +kernel) rfl rfl (by decide +kernel) ?_ ?_ | refine HO_2p 9 15 (by decide +kernel) rfl rfl (by decide +kernel) ?_ ?_ |  refine HO_2p 11 15 (by decide +kernel) rfl rfl (by decide +kernel) ?_ ?_) | (refine HO_k 12 rfl ?_; refine HO_call rfl rfl rfl rfl (n1 _ x0.2 hx0) rfl (trivial) rfl rfl soA ?_; intro x1 hx1; dsimp only [lca, lna]) | (refine HO_k 12 rfl ?_; refine HO_mv 2 rfl rfl ?_; refine HO_mv 2 rfl rfl ?_; refine HO_call rfl rfl rfl rfl (n1 _ x0.2 hx0) rfl (trivial) rfl rfl soA ?_; intro x1 hx1; dsimp only [lca, lna]) | (refine HO_k 12 rfl ?_; refine HO_mv 3 rfl rfl ?_; refine HO_mv 3 rfl rfl ?_; refine HO_call rfl rfl rfl rfl (n1 _ x0.2 hx0) rfl (trivial) rfl rfl soA ?_; intro x1 hx1; dsimp only [lca, lna]) | (refine HO_k 12 rfl ?_; refine HO_call rfl rfl rfl rfl (n2 _ x1 hx1) rfl (trivial) rfl rfl soA ?_; intro x2 hx2; dsimp only [lca, lna]) | (refine HO_k 12 rfl ?_; refine HO_mv 2 rfl rfl ?_; refine HO_mv 2 rfl rfl ?_; refine HO_call rfl rfl rfl rfl (n2 _ x1 hx1) rfl (trivial) rfl rfl soA ?_; intro x2 hx2; dsimp only [lca, lna]) | (refine HO_k 12 rfl ?_; refine HO_mv 3 rfl rfl ?_; refine HO_mv 3 rfl rfl ?_; refine HO_call rfl rfl rfl rfl (n2 _ x1 hx1) rfl (trivial) rfl rfl soA ?_; intro x2 hx2; dsimp only [lca, lna]) | (refine HO_k 12 rfl ?_; refine HO_call rfl rfl rfl rfl (n3) rfl (srcsA) rfl rfl soA ?_; intro x3 hx3; dsimp only [lca, lna]) | exact HO_seg rfl rfl | refine S1 ?_ | (refine S2 ?_; intro _) | (refine S3 ?_; intro _ _) | (refine S4 ?_; intro _ _ _) | (refine HO_g 2 rfl ?_; first | apply HO_a1 rfl | apply HO_o1 rfl) | refine SYScX ?_ | refine S5 ?_ | (intro hb; try replace hb := simB hb; try exact kill hb))
  all_goals
   (refine SR ?_; unfold RetQ; refine ⟨(((none, 0), (none, 0)), (none, 0), []), trivial, rfl, Keeps.add (fun w => arr_nil _ w) (Keeps.add (fun w => arr_nil _ w) (Keeps.add (fun w => arr_nil _ w) (Keeps.add inn_nil Keeps.nil)))⟩)
 | some q =>
  obtain ⟨hdH, hbad⟩ := hd2 q hp
  simp only [parS_some hp, hp, Option.isSome_some, if_true] at n3
  repeat' (first | refine SW ?_ | refine SD ?_ | (refine HO_k 12 rfl ?_; refine HO_call rfl rfl rfl rfl (hfrom) rfl (srcsA) rfl rfl soA ?_; intro x0 hx0; dsimp only [lca, lna]) | exact HO_seg rfl rfl | refine S1 ?_ | (refine S2 ?_; intro _) | (refine S3 ?_; intro _ _) | (refine S4 ?_; intro _ _ _) | (refine HO_g 2 rfl ?_; first | apply HO_a1 rfl | apply HO_o1 rfl) | refine SYScX ?_ | refine S5n ?_ | (intro hb; try replace hb := simB hb; try exact kill hb))
  rename_i b2 br
  refine HC_cutP (α := (OA × OA) × OA × Nat) (fun z => l2.length ≤ z.2.1.2) (fun z => [(6, .int .i64 0), (5, pt z.2.2), (4, pt br), (2, pt b2)]) (fun z => rsP br x0.1 z.2.1 bad2 false l2 ++ [cel z.2.2 TCf (CfS.e ⟨q, z.1.1.1, z.1.1.2, z.1.2.1, z.1.2.2⟩), arr IfQ.e 5 z.1.1.1 q.ifs, arr iE 1 z.1.2.1 q.deny, cel b2 77 sc0.e]) ?_ ?_
  ·repeat' (first | refine SW ?_ | refine SD ?_ | (refine HO_k 7 rfl ?_; refine HO_b2sr (l := t) 0 rfl rfl rfl rfl rfl rfl rfl rdA ?_) | (refine HO_k 7 rfl ?_; (first | (refine HO_holdA 0 rfl rfl ?_; refine HO_b2sr (l := t) 0 rfl rfl rfl rfl rfl rfl rfl rdA ?_) | (refine HO_holdA 1 rfl rfl ?_; refine HO_b2sr (l := t) 0 rfl rfl rfl rfl rfl rfl rfl rdA ?_) | (refine HO_holdA 2 rfl rfl ?_; refine HO_b2sr (l := t) 0 rfl rfl rfl rfl rfl rfl rfl rdA ?_) | (refine HO_holdA 3 rfl rfl ?_; refine HO_b2sr (l := t) 0 rfl rfl rfl rfl rfl rfl rfl rdA ?_) | (refine HO_holdA 4 rfl rfl ?_; refine HO_b2sr (l := t) 0 rfl rfl rfl rfl rfl rfl rfl rdA ?_) | (refine HO_holdA 5 rfl rfl ?_; refine HO_b2sr (l := t) 0 rfl rfl rfl rfl rfl rfl rfl rdA ?_) | (refine HO_holdA 6 rfl rfl ?_; refine HO_b2sr (l := t) 0 rfl rfl rfl rfl rfl rfl rfl rdA ?_) | (refine HO_holdA 7 rfl rfl ?_; refine HO_b2sr (l := t) 0 rfl rfl rfl rfl rfl rfl rfl rdA ?_) | (refine HO_holdA 8 rfl rfl ?_; refine HO_b2sr (l := t) 0 rfl rfl rfl rfl rfl rfl rfl rdA ?_) | (refine HO_holdA 9 rfl rfl ?_; refine HO_b2sr (l := t) 0 rfl rfl rfl rfl rfl rfl rfl rdA ?_) | (refine HO_holdA 10 rfl rfl ?_; refine HO_b2sr (l := t) 0 rfl rfl rfl rfl rfl rfl rfl rdA ?_) | (refine HO_holdA 11 rfl rfl ?_; refine HO_b2sr (l := t) 0 rfl rfl rfl rfl rfl rfl rfl rdA ?_))) | (first | refine HO_2p 8 15 (by decide +kernel) rfl rfl (by decide +kernel) ?_ ?_ | refine HO_2p 9 15 (by decide +kernel) rfl rfl (by decide +kernel) ?_ ?_ |  refine HO_2p 11 15 (by decide +kernel) rfl rfl (by decide +kernel) ?_ ?_) | (refine HO_k 12 rfl ?_; refine HO_call rfl rfl rfl rfl (n1 _ x0.2 hx0) rfl (trivial) rfl rfl soA ?_; intro x1 hx1; dsimp only [lca, lna]) | (refine HO_k 12 rfl ?_; refine HO_mv 2 rfl rfl ?_; refine HO_mv 2 rfl rfl ?_; refine HO_call rfl rfl rfl rfl (n1 _ x0.2 hx0) rfl (trivial) rfl rfl soA ?_; intro x1 hx1; dsimp only [lca, lna]) | (refine HO_k 12 rfl ?_; refine HO_mv 3 rfl rfl ?_; refine HO_mv 3 rfl rfl ?_; refine HO_call rfl rfl rfl rfl (n1 _ x0.2 hx0) rfl (trivial) rfl rfl soA ?_; intro x1 hx1; dsimp only [lca, lna]) | (refine HO_k 12 rfl ?_; refine HO_call rfl rfl rfl rfl (n2 _ x1 hx1) rfl (trivial) rfl rfl soA ?_; intro x2 hx2; dsimp only [lca, lna]) | (refine HO_k 12 rfl ?_; refine HO_mv 2 rfl rfl ?_; refine HO_mv 2 rfl rfl ?_; refine HO_call rfl rfl rfl rfl (n2 _ x1 hx1) rfl (trivial) rfl rfl soA ?_; intro x2 hx2; dsimp only [lca, lna]) | (refine HO_k 12 rfl ?_; refine HO_mv 3 rfl rfl ?_; refine HO_mv 3 rfl rfl ?_; refine HO_call rfl rfl rfl rfl (n2 _ x1 hx1) rfl (trivial) rfl rfl soA ?_; intro x2 hx2; dsimp only [lca, lna]) | (refine HO_k 12 rfl ?_; refine HO_call rfl rfl rfl rfl (n3) rfl (srcsA) rfl rfl soA ?_; intro x3 hx3; dsimp only [lca, lna]) | exact HO_seg rfl rfl | refine S1 ?_ | (refine S2 ?_; intro _) | (refine S3 ?_; intro _ _) | (refine S4 ?_; intro _ _ _) | (refine HO_g 2 rfl ?_; first | apply HO_a1 rfl | apply HO_o1 rfl) | refine SYScX ?_ | refine S5 ?_ | (intro hb; try replace hb := simB hb; try exact kill hb))
   all_goals
    rename_i b5
    refine HX_keeps (rw' := rsP br x0.1 x2.2 bad2 false l2 ++ [cel b5 TCf (CfS.e ⟨q, x3.1.1, x3.1.2, x3.2.1, x3.2.2⟩), arr IfQ.e 5 x3.1.1 q.ifs, arr iE 1 x3.2.1 q.deny, cel b2 77 sc0.e]) permA ?_
    exact HX_at (x3, x2.2, b5) hx2.2 ⟨rfl, rfl, rfl, rfl, trivial⟩ rfl
  rintro ⟨⟨⟨iA, ic⟩, dA, dc⟩, x2, b5⟩ hx2
  subst hbad
  dsimp only [rsP, rdP, CfS.e, lca, lna] at hx2 ⊢
  repeat' (first | refine SW ?_ | refine SD ?_ | exact HO_seg rfl rfl | refine S1 ?_ | (refine S2 ?_; intro _) | (refine S3 ?_; intro _ _) | (refine S4 ?_; intro _ _ _) | (refine HO_g 2 rfl ?_; first | apply HO_a1 rfl | apply HO_o1 rfl) | refine SYScX ?_ | refine S5 ?_ | (intro hb; try replace hb := simB hb; try exact kill hb))
  rename_i bs
  have hRd := decM_rd hdH
  obtain ⟨_, hqw, hqok⟩ := decH_some hdH
  obtain ⟨R, hR⟩ : ∃ R, rdS 4097 false false l2 = R := ⟨_, rfl⟩
  rw [hR] at hRd
  refine HC_keeps (rw' := own idE TDo 10 none 0 0 [] :: inn (doPs []) :: (rsP br x0.1 x2 false false l2 ++ [cel bs 77 (ScS.e ⟨⟨q, iA, ic, dA, dc⟩, none, 0, []⟩), arr IfQ.e 5 iA q.ifs, arr iE 1 dA q.deny, cel b2 77 sc0.e])) (Keeps.add (fun w => own_nil w) (Keeps.add inn_nil permA)) ?_
  refine HC_keeps (rw' := rsP br x0.1 x2 false false l2 ++ [cel bs 77 (ScS.e ⟨⟨q, iA, ic, dA, dc⟩, ((none, 0) : OA).1, ((none, 0) : OA).2, ([] : List DoS)⟩), own idE TDo 10 ((none, 0) : OA).1 ([] : List DoS).length ((none, 0) : OA).2 (([] : List DoS).map DoS.e), inn (doPs ([] : List DoS)), arr IfQ.e 5 iA q.ifs, arr iE 1 dA q.deny, cel b2 77 sc0.e]) permA ?_
  refine HC_loop (α := Nat × Bool × Bool × List UInt8 × List DoS × OA × OA) (fun y => y.2.2.2.2.1.map (·.q) ++ (rdS y.1 y.2.1 y.2.2.1 y.2.2.2.1).1 = R.1 ∧ (rdS y.1 y.2.1 y.2.2.1 y.2.2.2.1).2 = R.2 ∧ y.2.2.2.1.length ≤ 1000000000 ∧ y.2.2.2.1.length ≤ y.2.2.2.2.2.1.2 ∧ y.1 + y.2.2.2.2.1.length = 4097 ∧ ∀ d ∈ y.2.2.2.2.1, DoW d.q)
   (fun _ => [(7, pt bs), (4, pt br), (2, pt b2)])
   (fun y => rsP br x0.1 y.2.2.2.2.2.1 y.2.1 y.2.2.1 y.2.2.2.1 ++ [cel bs 77 (ScS.e ⟨⟨q, iA, ic, dA, dc⟩, y.2.2.2.2.2.2.1, y.2.2.2.2.2.2.2, y.2.2.2.2.1⟩), own idE TDo 10 y.2.2.2.2.2.2.1 y.2.2.2.2.1.length y.2.2.2.2.2.2.2 (y.2.2.2.2.1.map DoS.e), inn (doPs y.2.2.2.2.1), arr IfQ.e 5 iA q.ifs, arr iE 1 dA q.deny, cel b2 77 sc0.e]) (fun y => y.1) rfl (4097, false, false, l2, [], x2, (none, 0)) ⟨by rw [hR]; rfl, by rw [hR], by dsimp only; omega, hx2, rfl, fun d hd => by cases hd⟩ ⟨rfl, rfl, rfl, trivial⟩ rfl ?_
  rintro ⟨n', bd, w, l', acc, xo, ao⟩ hinv
  obtain ⟨i1, i2, i3, i4, i5, i6⟩ := hinv
  dsimp only at i1 i2 i3 i4 i5 i6
  have hLf := nleft_t x0.1 xo.1 l'.length xo.2 bd
  have hBd := nbad_t x0.1 xo.1 l'.length xo.2 bd
  by_cases hst : (bd || w) = true
  ·rw [rdS_stop hst] at i1 i2
   have hM : decM b = none := by
    rw [hRd, ← i2, if_pos hst]
   unfold decP decSc
   rw [hM]
   dsimp only [rsP, rdP, ScS.e, CfS.e, lca, lna]
   cases bd with
   | true =>
    simp only [if_true] at hLf
    repeat' (first | refine SW ?_ | ((refine HO_g 2 rfl ?_); (refine HO_skip rfl rfl rfl rfl rdA ?_)) | refine SD ?_ | (refine HO_k 12 rfl ?_; refine HO_callq rfl rfl rfl rfl (hLf) (fun _ _ => rfl) (srcsA) rfl rfl sqA ?_) | (refine HO_k 12 rfl ?_; refine HO_callq rfl rfl rfl rfl (hBd) (fun _ _ => rfl) (srcsA) rfl rfl sqA ?_) | exact HO_seg rfl rfl | refine S1 ?_ | (refine S2 ?_; intro _) | (refine S3 ?_; intro _ _) | (refine S4 ?_; intro _ _ _) | (refine HO_g 2 rfl ?_; first | apply HO_a1 rfl | apply HO_o1 rfl) | refine SYScX ?_ | refine S5 ?_ | (intro hb; try replace hb := simB hb; try exact kill hb))
    (refine SR ?_; unfold RetQ; refine ⟨(((none, 0), (none, 0)), (none, 0), []), trivial, rfl, Keeps.add (fun w => arr_nil _ w) (Keeps.add (fun w => arr_nil _ w) (Keeps.add (fun w => arr_nil _ w) (Keeps.add inn_nil Keeps.nil)))⟩)
   | false =>
    obtain rfl : w = true := by simpa using hst
    simp only [Bool.false_eq_true, if_false] at hLf
    by_cases hl0 : l'.length = 0
    ·repeat' (first | refine SW ?_ | ((refine HO_g 2 rfl ?_); (refine HO_skip rfl rfl rfl rfl rdA ?_)) | refine SD ?_ | (refine HO_k 12 rfl ?_; refine HO_callq rfl rfl rfl rfl (hLf) (fun _ _ => rfl) (srcsA) rfl rfl sqA ?_) | (refine HO_k 12 rfl ?_; refine HO_callq rfl rfl rfl rfl (hBd) (fun _ _ => rfl) (srcsA) rfl rfl sqA ?_) | exact HO_seg rfl rfl | refine S1 ?_ | (refine S2 ?_; intro _) | (refine S3 ?_; intro _ _) | (refine S4 ?_; intro _ _ _) | (refine HO_g 2 rfl ?_; first | apply HO_a1 rfl | apply HO_o1 rfl) | refine SYScX ?_ | refine S5 ?_ | (intro hb; try replace hb := simB hb; try exact kill hb))
     (refine SR ?_; unfold RetQ; refine ⟨(((none, 0), (none, 0)), (none, 0), []), trivial, rfl, Keeps.add (fun w => arr_nil _ w) (Keeps.add (fun w => arr_nil _ w) (Keeps.add (fun w => arr_nil _ w) (Keeps.add inn_nil Keeps.nil)))⟩)
    ·have hlp : 0 < l'.length := by omega
     repeat' (first | refine SW ?_ | ((refine HO_g 2 rfl ?_); (refine HO_skip rfl rfl rfl rfl rdA ?_)) | refine SD ?_ | (refine HO_k 12 rfl ?_; refine HO_callq rfl rfl rfl rfl (hLf) (fun _ _ => rfl) (srcsA) rfl rfl sqA ?_) | (refine HO_k 12 rfl ?_; refine HO_callq rfl rfl rfl rfl (hBd) (fun _ _ => rfl) (srcsA) rfl rfl sqA ?_) | exact HO_seg rfl rfl | refine S1 ?_ | (refine S2 ?_; intro _) | (refine S3 ?_; intro _ _) | (refine S4 ?_; intro _ _ _) | (refine HO_g 2 rfl ?_; first | apply HO_a1 rfl | apply HO_o1 rfl) | refine SYScX ?_ | refine S5 ?_ | (intro hb; try replace hb := simB hb; try exact kill hb))
     (refine SR ?_; unfold RetQ; refine ⟨(((none, 0), (none, 0)), (none, 0), []), trivial, rfl, Keeps.add (fun w => arr_nil _ w) (Keeps.add (fun w => arr_nil _ w) (Keeps.add (fun w => arr_nil _ w) (Keeps.add inn_nil Keeps.nil)))⟩)
  ·obtain ⟨rfl, rfl⟩ : bd = false ∧ w = false := by simpa using hst
   simp only [Bool.false_eq_true, if_false] at hLf
   by_cases hex : l'.length = 0 ∨ n' = 0
   ·have hs0 : rdS n' false false l' = ([], false, false, l') := by
     cases n' with
     | zero => rfl
     | succ n' =>
      have : l' = [] := List.eq_nil_of_length_eq_zero (by omega)
      subst this
      rfl
    rw [hs0] at i1 i2
    rw [List.append_nil] at i1
    have hM : decM b = if (decide (acc.length ≤ 4096) && (acc.map (·.q)).all oneQ) = true then some (q, acc.map (·.q)) else none := by
     rw [hRd, ← i2, ← i1]
     simp
    obtain ⟨ok1, ok2⟩ := cfL_of hqw hqok iA ic dA dc
    have g1 := scheck_t ⟨⟨q, iA, ic, dA, dc⟩, ao.1, ao.2, acc⟩ ⟨ok1, by show acc.length ≤ 1000000; omega, i6⟩
    have hsc : scB ⟨⟨q, iA, ic, dA, dc⟩, ao.1, ao.2, acc⟩ = (decide (acc.length ≤ 4096) && (acc.map (·.q)).all oneQ) := by
     unfold scB
     simp only [hqok, Bool.true_and]
    rw [hsc] at g1
    dsimp only [rsP, rdP, ScS.e, ScS.ro, CfS.e, lca, lna] at g1 ⊢
    cases hG : (decide (acc.length ≤ 4096) && (acc.map (·.q)).all oneQ) with
    | true =>
     rw [hG] at hM g1
     simp only [if_true] at hM g1
     unfold decP decSc
     rw [hM]
     by_cases hl0 : l'.length = 0
     ·repeat' (first | refine SW ?_ | ((refine HO_g 2 rfl ?_); (refine HO_skip rfl rfl rfl rfl rdA ?_)) | refine SD ?_ | (refine HO_k 12 rfl ?_; refine HO_callq rfl rfl rfl rfl (hLf) (fun _ _ => rfl) (srcsA) rfl rfl sqA ?_) | (refine HO_k 12 rfl ?_; refine HO_callq rfl rfl rfl rfl (hBd) (fun _ _ => rfl) (srcsA) rfl rfl sqA ?_) | (refine HO_k 12 rfl ?_; refine HO_callq rfl rfl rfl rfl (g1) (fun _ _ => rfl) ((AllSrc.at_ 9 rfl (AllSrc.at_ 10 rfl (AllSrc.own 7 rfl rfl (AllSrc.at_ 8 rfl trivial))))) rfl rfl sqA ?_) | exact HO_seg rfl rfl | refine S1 ?_ | (refine S2 ?_; intro _) | (refine S3 ?_; intro _ _) | (refine S4 ?_; intro _ _ _) | (refine HO_g 2 rfl ?_; first | apply HO_a1 rfl | apply HO_o1 rfl) | refine SYScX ?_ | refine S5 ?_ | (intro hb; try replace hb := simB hb; try exact kill hb))
      (refine SR ?_; unfold RetQ; refine ⟨(((iA, ic), (dA, dc)), ao, acc), rfl, rfl, Keeps.cmp (show Keeps _ [arr IfQ.e 5 iA q.ifs, arr iE 1 dA q.deny, own idE TDo 10 ao.1 acc.length ao.2 (acc.map DoS.e), inn (doPs acc)] from permA) (Keeps.cons Ent.rfl_ (Keeps.cons Ent.rfl_ (Keeps.cons own_e (Keeps.cons Ent.rfl_ Keeps.nil))))⟩)
     ·have hlp : 0 < l'.length := by omega
      have hac : 4096 < acc.length := by omega
      repeat' (first | refine SW ?_ | ((refine HO_g 2 rfl ?_); (refine HO_skip rfl rfl rfl rfl rdA ?_)) | refine SD ?_ | (refine HO_k 12 rfl ?_; refine HO_callq rfl rfl rfl rfl (hLf) (fun _ _ => rfl) (srcsA) rfl rfl sqA ?_) | (refine HO_k 12 rfl ?_; refine HO_callq rfl rfl rfl rfl (hBd) (fun _ _ => rfl) (srcsA) rfl rfl sqA ?_) | (refine HO_k 12 rfl ?_; refine HO_callq rfl rfl rfl rfl (g1) (fun _ _ => rfl) ((AllSrc.at_ 9 rfl (AllSrc.at_ 10 rfl (AllSrc.own 7 rfl rfl (AllSrc.at_ 8 rfl trivial))))) rfl rfl sqA ?_) | exact HO_seg rfl rfl | refine S1 ?_ | (refine S2 ?_; intro _) | (refine S3 ?_; intro _ _) | (refine S4 ?_; intro _ _ _) | (refine HO_g 2 rfl ?_; first | apply HO_a1 rfl | apply HO_o1 rfl) | refine SYScX ?_ | refine S5 ?_ | (intro hb; try replace hb := simB hb; try exact kill hb))
      (refine SR ?_; unfold RetQ; refine ⟨(((iA, ic), (dA, dc)), ao, acc), rfl, rfl, Keeps.cmp (show Keeps _ [arr IfQ.e 5 iA q.ifs, arr iE 1 dA q.deny, own idE TDo 10 ao.1 acc.length ao.2 (acc.map DoS.e), inn (doPs acc)] from permA) (Keeps.cons Ent.rfl_ (Keeps.cons Ent.rfl_ (Keeps.cons own_e (Keeps.cons Ent.rfl_ Keeps.nil))))⟩)
    | false =>
     rw [hG] at hM g1
     simp only [Bool.false_eq_true, if_false] at hM g1
     unfold decP decSc
     rw [hM]
     by_cases hl0 : l'.length = 0
     ·repeat' (first | refine SW ?_ | ((refine HO_g 2 rfl ?_); (refine HO_skip rfl rfl rfl rfl rdA ?_)) | refine SD ?_ | (refine HO_k 12 rfl ?_; refine HO_callq rfl rfl rfl rfl (hLf) (fun _ _ => rfl) (srcsA) rfl rfl sqA ?_) | (refine HO_k 12 rfl ?_; refine HO_callq rfl rfl rfl rfl (hBd) (fun _ _ => rfl) (srcsA) rfl rfl sqA ?_) | (refine HO_k 12 rfl ?_; refine HO_callq rfl rfl rfl rfl (g1) (fun _ _ => rfl) ((AllSrc.at_ 9 rfl (AllSrc.at_ 10 rfl (AllSrc.own 7 rfl rfl (AllSrc.at_ 8 rfl trivial))))) rfl rfl sqA ?_) | exact HO_seg rfl rfl | refine S1 ?_ | (refine S2 ?_; intro _) | (refine S3 ?_; intro _ _) | (refine S4 ?_; intro _ _ _) | (refine HO_g 2 rfl ?_; first | apply HO_a1 rfl | apply HO_o1 rfl) | refine SYScX ?_ | refine S5 ?_ | (intro hb; try replace hb := simB hb; try exact kill hb))
      (refine SR ?_; unfold RetQ; refine ⟨(((none, 0), (none, 0)), (none, 0), []), trivial, rfl, Keeps.add (fun w => arr_nil _ w) (Keeps.add (fun w => arr_nil _ w) (Keeps.add (fun w => arr_nil _ w) (Keeps.add inn_nil Keeps.nil)))⟩)
     ·have hlp : 0 < l'.length := by omega
      have hac : 4096 < acc.length := by omega
      repeat' (first | refine SW ?_ | ((refine HO_g 2 rfl ?_); (refine HO_skip rfl rfl rfl rfl rdA ?_)) | refine SD ?_ | (refine HO_k 12 rfl ?_; refine HO_callq rfl rfl rfl rfl (hLf) (fun _ _ => rfl) (srcsA) rfl rfl sqA ?_) | (refine HO_k 12 rfl ?_; refine HO_callq rfl rfl rfl rfl (hBd) (fun _ _ => rfl) (srcsA) rfl rfl sqA ?_) | (refine HO_k 12 rfl ?_; refine HO_callq rfl rfl rfl rfl (g1) (fun _ _ => rfl) ((AllSrc.at_ 9 rfl (AllSrc.at_ 10 rfl (AllSrc.own 7 rfl rfl (AllSrc.at_ 8 rfl trivial))))) rfl rfl sqA ?_) | exact HO_seg rfl rfl | refine S1 ?_ | (refine S2 ?_; intro _) | (refine S3 ?_; intro _ _) | (refine S4 ?_; intro _ _ _) | (refine HO_g 2 rfl ?_; first | apply HO_a1 rfl | apply HO_o1 rfl) | refine SYScX ?_ | refine S5 ?_ | (intro hb; try replace hb := simB hb; try exact kill hb))
      (refine SR ?_; unfold RetQ; refine ⟨(((none, 0), (none, 0)), (none, 0), []), trivial, rfl, Keeps.add (fun w => arr_nil _ w) (Keeps.add (fun w => arr_nil _ w) (Keeps.add (fun w => arr_nil _ w) (Keeps.add inn_nil Keeps.nil)))⟩)
   ·obtain ⟨hlp, hn0⟩ : 0 < l'.length ∧ n' ≠ 0 := by omega
    obtain ⟨n', rfl⟩ : ∃ k, n' = k + 1 := ⟨n' - 1, by omega⟩
    have hne : l' ≠ [] := fun h => by rw [h] at hlp; exact Nat.lt_irrefl _ hlp
    have hun : rdS (n' + 1) false false l' = ((rdD false false l').1 :: (rdS n' (rdD false false l').2.1 (rdD false false l').2.2.1 (rdD false false l').2.2.2).1, (rdS n' (rdD false false l').2.1 (rdD false false l').2.2.1 (rdD false false l').2.2.2).2) := by
     conv => lhs; unfold rdS
     rw [if_neg (by simp [hne])]
    rw [hun] at i1 i2
    clear hun
    have n5 := rsdo_t br x0.1 xo false false l' i3 i4
    have k5 := rdD_W false false l'
    obtain ⟨⟨d, bd', w', l''⟩, hrD⟩ : ∃ r, rdD false false l' = r := ⟨_, rfl⟩
    rw [hrD] at n5 k5 i1 i2
    dsimp only at k5 i1 i2
    dsimp only [rsP, rdP, mkDo, DoS.e, DoS.ro, lca, lna] at n5
    have hac : acc.length ≤ 4096 := by omega
    dsimp only [rsP, rdP, ScS.e, CfS.e, lca, lna]
    repeat' (first | refine SW ?_ | ((refine HO_g 2 rfl ?_); (refine HO_skip rfl rfl rfl rfl rdA ?_)) | refine SD ?_ | (refine HO_k 12 rfl ?_; refine HO_callq rfl rfl rfl rfl (hLf) (fun _ _ => rfl) (srcsA) rfl rfl sqA ?_) | (refine HO_k 12 rfl ?_; refine HO_call rfl rfl rfl rfl (n5) rfl (trivial) rfl rfl soA ?_; intro y hy; dsimp only [lca, lna]) | (refine HO_k 11 rfl ?_; refine HO_appw rfl rfl rfl rfl rfl rfl rfl rfl ?h1 ?h2 rfl rfl ?h3 ?h4 rfl rfl rfl ?h5 ?_; (case h1 => simp only [List.length_append, List.length_map, List.length_cons, List.length_nil, be_length]); (case h2 => repeat (first | exact WfL.nil | exact WfL.map | apply WfL.append | refine WfL.cons rfl rfl ?_ | assumption)); (case h3 => (try simp only [List.length_append, List.length_map, List.length_cons, List.length_nil, be_length]); (try omega)); (case h4 => (try simp only [List.length_append, List.length_map, List.length_cons, List.length_nil, be_length]); (try omega)); (case h5 => exact soA); intro _ _) | exact HO_seg rfl rfl | refine S1 ?_ | (refine S2 ?_; intro _) | (refine S3 ?_; intro _ _) | (refine S4 ?_; intro _ _ _) | (refine HO_g 2 rfl ?_; first | apply HO_a1 rfl | apply HO_o1 rfl) | refine SYScX ?_ | refine S5 ?_ | (intro hb; try replace hb := simB hb; try exact kill hb))
    rename_i bz A4 c4
    have eL : acc.length + 1 = (acc ++ [mkDo d y.2]).length := by simp
    rw [eL]
    refine HX_keeps (rw' := rsP br x0.1 y.1 bd' w' l'' ++ [cel bs 77 (ScS.e ⟨⟨q, iA, ic, dA, dc⟩, A4, c4, (acc ++ [mkDo d y.2])⟩), own idE TDo 10 A4 (acc ++ [mkDo d y.2]).length c4 ((acc ++ [mkDo d y.2]).map DoS.e), inn (doPs (acc ++ [mkDo d y.2])), arr IfQ.e 5 iA q.ifs, arr iE 1 dA q.deny, cel b2 77 sc0.e]) ?_ ?_
    ·rw [List.map_append]
     exact Keeps.cmp (show Keeps _ (inn (doPs acc) :: ((mkDo d y.2).ro ++ (rsP br x0.1 y.1 bd' w' l'' ++ [cel bs 77 (ScS.e ⟨⟨q, iA, ic, dA, dc⟩, A4, c4, (acc ++ [mkDo d y.2])⟩), own idE TDo 10 A4 (acc ++ [mkDo d y.2]).length c4 (acc.map DoS.e ++ [mkDo d y.2].map DoS.e), arr IfQ.e 5 iA q.ifs, arr iE 1 dA q.deny, cel b2 77 sc0.e]))) from permA) (Keeps.cmp (keeps_do Keeps.refl) permA)
    ·exact HX_at (n', bd', w', l'', (acc ++ [mkDo d y.2]), y.1, (A4, c4)) ⟨⟨by rw [List.map_append, List.append_assoc]; exact i1, i2, by have := k5.2; dsimp only; omega, hy, by simp; omega, fun e he => (by
      rcases List.mem_append.1 he with h | h
      ·exact i6 e h
      ·have := List.mem_singleton.1 h
       subst this
       exact k5.1)⟩, Nat.lt_succ_self n'⟩ ⟨rfl, rfl, rfl, trivial⟩ rfl
end Go.Proofs.YtbhiojedmkcfoaaGreatDoor
