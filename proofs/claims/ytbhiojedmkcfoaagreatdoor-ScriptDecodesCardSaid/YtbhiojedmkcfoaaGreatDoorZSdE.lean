/- Part of a proof of many texts: what the theorem at its end leans on. -/
import Derived.Test.YtbhiojedmkcfoaaGreatDoorZScX
import Derived.Test.YtbhiojedmkcfoaaGreatDoorZScY
import Derived.Test.YtbhiojedmkcfoaaGreatDoorZCgH
import Derived.Test.YtbhiojedmkcfoaaGreatDoorZScE
namespace Go.Proofs.YtbhiojedmkcfoaaGreatDoor
set_option linter.unusedVariables false
set_option linter.unusedSimpArgs false
open Go.RowKit
attribute [local irreducible] HC HX HO Tri eP adr
theorem SYSdE {p q : Prop} (hq : q) (h : q → p := by intro hq; refine HO_k 3 rfl ?_; exact HO_lastG (by decide +kernel) rfl rfl (by decide +kernel) (by decide +kernel) rfl hq) : p := h hq
theorem getA_no {l : List UInt8} (hne : l ≠ []) (h : getD l = none) : getA l = none := by rw [getA_cons hne, h]
def accA (acc : List DoQ) (g : Option (List DoQ)) : Option (List DoQ) := match g with
 | some xs => some (acc ++ xs)
 | none => none
theorem getA_one {l r : List UInt8} {d : DoQ} {acc : List DoQ} (hne : l ≠ []) (h : getD l = some (d, r)) : accA acc (getA l) = accA (acc ++ [d]) (getA r) := by
 rw [getA_cons hne, h]
 simp only
 cases getA r with
 | none => rfl
 | some xs =>
  simp only [accA]
  rw [List.append_assoc]
  rfl
theorem accA_long {acc : List DoQ} {g : Option (List DoQ)} {ds : List DoQ} (h : accA acc g = some ds) : acc.length ≤ ds.length := by
 cases g with
 | none => cases h
 | some xs =>
  injection h with h
  rw [← h]
  simp
theorem decM_A {b r : List UInt8} {q : CfQ} (h : decH b = some (q, r)) : decM b = match getA r with
  | none => none
  | some ds => if ds.length ≤ 4096 then some (q, ds) else none := by
 unfold decM
 rw [h]
 rfl
set_option maxHeartbeats 1000000000 in
theorem rdec27_t (A : Option Addr) (c : Nat) (b : List UInt8) (hb : b.length ≤ 1000000) :
  Tri Tryz.prog 49 [.slice A b.length c] [arr bE 1 A b] [] (decP b) (fun x => .tuple #[.agg (decSc b x).e.toArray, .bool (decM b).isSome]) (fun x => (decSc b x).ro) := by
 have hd := decH_rd b
 have k1 := rdN_lt false b 2 (by decide)
 have n1 := fun br x hx => rnumQ_t br x false b 2 (by decide) (by omega) hx
 obtain ⟨⟨n, bad1, l1⟩, hr1⟩ : ∃ r, rdN false b 2 = r := ⟨_, rfl⟩
 simp only [hr1] at n1 k1 hd
 have n2 := fun br (x : OA) hx => rbytes_t br x.1 x.2 bad1 l1 (n : Int) (by omega) hx
 have k2 := rdB_len bad1 l1 (n : Int)
 obtain ⟨⟨t, bad2, l2⟩, hr2⟩ : ∃ r, rdB bad1 l1 (n : Int) = r := ⟨_, rfl⟩
 simp only [hr2] at n2 k2 hd
 clear hr1 hr2
 have k1' := k1.1
 have ht : t.length ≤ 90000 := by have := k2.1; omega
 have n3 := rparse19_t t ht
 obtain ⟨hd1, hd2⟩ := hd
 dsimp only [rqP] at n1 n2
 refine Tri_of (N := Tryz.f49.ntmps) (c := bodyOf Tryz.f49) Tryz.func49 rfl rfl rfl rfl (fun w0 S0 => ?_)
 repeat' (first | refine SW ?_ | refine SD ?_ | (refine HO_k 11 rfl ?_; refine HO_appr rfl rfl rfl rfl rfl rfl rfl rfl ?h1 ?h2 rfl rfl ?h3 ?h4 rfl rfl rfl ?h5 ?_; (case h1 => simp only [List.length_append, List.length_map, List.length_cons, List.length_nil, be_length]); (case h2 => repeat (first | exact WfL.nil | exact WfL.map | apply WfL.append | refine WfL.cons rfl rfl ?_ | assumption)); (case h3 => (try simp only [List.length_append, List.length_map, List.length_cons, List.length_nil, be_length]); (try omega)); (case h4 => (try simp only [List.length_append, List.length_map, List.length_cons, List.length_nil, be_length]); (try omega)); (case h5 => exact soA); intro _ _) | exact HO_seg rfl rfl | refine S1 ?_ | (refine S2 ?_; intro _) | (refine S3 ?_; intro _ _) | (refine S4 ?_; intro _ _ _) | (refine HO_g 2 rfl ?_; first | apply HO_a1 rfl | apply HO_o1 rfl) | refine SYSdE ?_ | refine S5n ?_ | (intro hb; try replace hb := simB hb; try exact kill hb))
 rename_i b2 b0 A0 c0 br
 refine HO_knowO (C := b.length ≤ c0) (fun w h => by have := own_cap 2 rfl h; omega) (fun hcap => ?_)
 simp only [Nat.zero_add, List.nil_append]
 refine HO_keeps (rw' := rqP br A0 c0 false b ++ [cel b2 77 sc0.e]) (Keeps.cons Ent.rfl_ (Keeps.cons (own_byte (x := (A0, c0))) Keeps.refl)) ?_
 dsimp only [rqP, lca, lna]
 cases hp : parM t with
 | none =>
  have hM := decM_no (hd1 hp)
  unfold decP decSc
  rw [hM]
  simp only [parS_none hp, hp, Option.isSome_none] at n3
  dsimp only [CfS.e] at n3
  cases bad2
  all_goals
   repeat' (first | refine SW ?_ | ((refine HO_g 2 rfl ?_); (refine HO_skip rfl rfl rfl rfl rdA ?_)) | refine SD ?_ | (refine HO_k 12 rfl ?_; refine HO_call rfl rfl rfl rfl (n1 br (A0, c0) hcap) rfl (trivial) rfl rfl soA ?_; intro x1 hx1; dsimp only [lca, lna]) | (refine HO_k 12 rfl ?_; refine HO_call rfl rfl rfl rfl (n2 br x1 hx1) rfl (trivial) rfl rfl soA ?_; intro x2 hx2; dsimp only [lca, lna]) | (refine HO_k 7 rfl ?_; (first | refine HO_b2sk (l := t) 0 rfl rfl rfl rfl rfl rfl rfl rfl rdA ?_ | refine HO_b2sk (l := t) 1 rfl rfl rfl rfl rfl rfl rfl rfl rdA ?_ | refine HO_b2sk (l := t) 2 rfl rfl rfl rfl rfl rfl rfl rfl rdA ?_ | refine HO_b2sk (l := t) 3 rfl rfl rfl rfl rfl rfl rfl rfl rdA ?_ | refine HO_b2sk (l := t) 4 rfl rfl rfl rfl rfl rfl rfl rfl rdA ?_ | refine HO_b2sk (l := t) 5 rfl rfl rfl rfl rfl rfl rfl rfl rdA ?_ | refine HO_b2sk (l := t) 6 rfl rfl rfl rfl rfl rfl rfl rfl rdA ?_ | refine HO_b2sk (l := t) 7 rfl rfl rfl rfl rfl rfl rfl rfl rdA ?_ | refine HO_b2sk (l := t) 8 rfl rfl rfl rfl rfl rfl rfl rfl rdA ?_ | refine HO_b2sk (l := t) 9 rfl rfl rfl rfl rfl rfl rfl rfl rdA ?_)) | (refine HO_k 12 rfl ?_; refine HO_call rfl rfl rfl rfl (n3) rfl (trivial) rfl rfl soA ?_; intro x3 hx3; dsimp only [lca, lna]) | exact HO_seg rfl rfl | refine S1 ?_ | (refine S2 ?_; intro _) | (refine S3 ?_; intro _ _) | (refine S4 ?_; intro _ _ _) | (refine HO_g 2 rfl ?_; first | apply HO_a1 rfl | apply HO_o1 rfl) | refine SYSdE ?_ | refine S5 ?_ | (intro hb; try replace hb := simB hb; try exact kill hb))
   (refine SR ?_; unfold RetQ; refine ⟨(((none, 0), (none, 0)), (none, 0), []), trivial, rfl, Keeps.add (fun w => arr_nil _ w) (Keeps.add (fun w => arr_nil _ w) (Keeps.add (fun w => arr_nil _ w) (Keeps.add inn_nil Keeps.nil)))⟩)
 | some q =>
  obtain ⟨hdH, hbad⟩ := hd2 q hp
  subst hbad
  simp only [parS_some hp, hp, Option.isSome_some] at n3
  dsimp only [CfS.e] at n3
  repeat' (first | refine SW ?_ | ((refine HO_g 2 rfl ?_); (refine HO_skip rfl rfl rfl rfl rdA ?_)) | refine SD ?_ | (refine HO_k 12 rfl ?_; refine HO_call rfl rfl rfl rfl (n1 br (A0, c0) hcap) rfl (trivial) rfl rfl soA ?_; intro x1 hx1; dsimp only [lca, lna]) | (refine HO_k 12 rfl ?_; refine HO_call rfl rfl rfl rfl (n2 br x1 hx1) rfl (trivial) rfl rfl soA ?_; intro x2 hx2; dsimp only [lca, lna]) | (refine HO_k 7 rfl ?_; (first | refine HO_b2sk (l := t) 0 rfl rfl rfl rfl rfl rfl rfl rfl rdA ?_ | refine HO_b2sk (l := t) 1 rfl rfl rfl rfl rfl rfl rfl rfl rdA ?_ | refine HO_b2sk (l := t) 2 rfl rfl rfl rfl rfl rfl rfl rfl rdA ?_ | refine HO_b2sk (l := t) 3 rfl rfl rfl rfl rfl rfl rfl rfl rdA ?_ | refine HO_b2sk (l := t) 4 rfl rfl rfl rfl rfl rfl rfl rfl rdA ?_ | refine HO_b2sk (l := t) 5 rfl rfl rfl rfl rfl rfl rfl rfl rdA ?_ | refine HO_b2sk (l := t) 6 rfl rfl rfl rfl rfl rfl rfl rfl rdA ?_ | refine HO_b2sk (l := t) 7 rfl rfl rfl rfl rfl rfl rfl rfl rdA ?_ | refine HO_b2sk (l := t) 8 rfl rfl rfl rfl rfl rfl rfl rfl rdA ?_ | refine HO_b2sk (l := t) 9 rfl rfl rfl rfl rfl rfl rfl rfl rdA ?_)) | (refine HO_k 12 rfl ?_; refine HO_call rfl rfl rfl rfl (n3) rfl (trivial) rfl rfl soA ?_; intro x3 hx3; dsimp only [lca, lna]) | exact HO_seg rfl rfl | refine S1 ?_ | (refine S2 ?_; intro _) | (refine S3 ?_; intro _ _) | (refine S4 ?_; intro _ _ _) | (refine HO_g 2 rfl ?_; first | apply HO_a1 rfl | apply HO_o1 rfl) | refine SYSdE ?_ | refine S5n ?_ | (intro hb; try replace hb := simB hb; try exact kill hb))
  rename_i b6 bs
  obtain ⟨⟨iA, ic⟩, dA, dc⟩ := x3
  have hMA := decM_A hdH
  obtain ⟨_, hqw, hqok⟩ := decH_some hdH
  dsimp only
  refine HC_keeps (rw' := own idE TDo 10 none 0 0 [] :: inn (doPs []) :: (rqP br x2.2.1 x2.2.2 false l2 ++ [cel bs 77 (ScS.e ⟨⟨q, iA, ic, dA, dc⟩, none, 0, []⟩), arr IfQ.e 5 iA q.ifs, arr iE 1 dA q.deny, cel b2 77 sc0.e])) (Keeps.add (fun w => own_nil w) (Keeps.add inn_nil permA)) ?_
  refine HC_keeps (rw' := rqP br x2.2.1 x2.2.2 false l2 ++ [cel bs 77 (ScS.e ⟨⟨q, iA, ic, dA, dc⟩, ((none, 0) : OA).1, ((none, 0) : OA).2, ([] : List DoS)⟩), own idE TDo 10 ((none, 0) : OA).1 ([] : List DoS).length ((none, 0) : OA).2 (([] : List DoS).map DoS.e), inn (doPs ([] : List DoS)), arr IfQ.e 5 iA q.ifs, arr iE 1 dA q.deny, cel b2 77 sc0.e]) permA ?_
  refine HC_loop (α := List UInt8 × List DoS × OA × OA) (fun y => getA l2 = accA (y.2.1.map (·.q)) (getA y.1) ∧ y.1.length ≤ 1000000 ∧ y.1.length ≤ y.2.2.1.2 ∧ y.2.1.length ≤ 4096 ∧ ∀ d ∈ y.2.1, DoW d.q)
   (fun _ => [(8, pt bs), (4, pt br), (2, pt b2)])
   (fun y => rqP br y.2.2.1.1 y.2.2.1.2 false y.1 ++ [cel bs 77 (ScS.e ⟨⟨q, iA, ic, dA, dc⟩, y.2.2.2.1, y.2.2.2.2, y.2.1⟩), own idE TDo 10 y.2.2.2.1 y.2.1.length y.2.2.2.2 (y.2.1.map DoS.e), inn (doPs y.2.1), arr IfQ.e 5 iA q.ifs, arr iE 1 dA q.deny, cel b2 77 sc0.e]) (fun y => y.1.length) rfl (l2, [], x2.2, (none, 0)) ⟨(by cases getA l2 <;> rfl), by have := k1.2; have := k2.2; dsimp only; omega, hx2.2, Nat.zero_le _, fun d hd => (by cases hd)⟩ ⟨rfl, rfl, rfl, trivial⟩ rfl ?_
  rintro ⟨l', acc, xo, ao⟩ hinv
  obtain ⟨i1, i3, i4, i5, i6⟩ := hinv
  dsimp only at i1 i3 i4 i5 i6
  have hLf := rleft_t br xo.1 l'.length xo.2 false
  simp only [Bool.false_eq_true, if_false] at hLf
  cases l' with
  | nil =>
   have hM : decM b = some (q, acc.map (·.q)) := by
    rw [hMA, i1, getA_nil]
    simp [accA, i5]
   unfold decP decSc
   rw [hM]
   dsimp only [rqP, ScS.e, CfS.e, lca, lna]
   repeat' (first | refine SW ?_ | ((refine HO_g 2 rfl ?_); (refine HO_skip rfl rfl rfl rfl rdA ?_)) | refine SD ?_ | (refine HO_k 12 rfl ?_; refine HO_callq rfl rfl rfl rfl (hLf) (fun _ _ => rfl) (srcsA) rfl rfl sqA ?_) | exact HO_seg rfl rfl | refine S1 ?_ | (refine S2 ?_; intro _) | (refine S3 ?_; intro _ _) | (refine S4 ?_; intro _ _ _) | (refine HO_g 2 rfl ?_; first | apply HO_a1 rfl | apply HO_o1 rfl) | refine SYSdE ?_ | refine S5 ?_ | (intro hb; try replace hb := simB hb; try exact kill hb))
   (refine SR ?_; unfold RetQ; refine ⟨(((iA, ic), (dA, dc)), ao, acc), rfl, rfl, Keeps.cmp (show Keeps _ [arr IfQ.e 5 iA q.ifs, arr iE 1 dA q.deny, own idE TDo 10 ao.1 acc.length ao.2 (acc.map DoS.e), inn (doPs acc)] from permA) (Keeps.cons Ent.rfl_ (Keeps.cons Ent.rfl_ (Keeps.cons own_e (Keeps.cons Ent.rfl_ Keeps.nil))))⟩)
  | cons c1 t1 =>
   have g0 := rget27_t br xo c1 t1 (by omega) i4
   have hlp : 0 < (c1 :: t1).length := by simp
   dsimp only [rqP, ScS.e, CfS.e, lca, lna]
   cases hg : getD (c1 :: t1) with
   | none =>
    have hM : decM b = none := by
     rw [hMA, i1, getA_no (by simp) hg]
     rfl
    unfold decP decSc
    rw [hM]
    rw [hg] at g0
    dsimp only [rqP, getF, getV, getPs, DoS.e, Option.isSome] at g0
    repeat' (first | refine SW ?_ | ((refine HO_g 2 rfl ?_); (refine HO_skip rfl rfl rfl rfl rdA ?_)) | refine SD ?_ | (refine HO_k 12 rfl ?_; refine HO_callq rfl rfl rfl rfl (hLf) (fun _ _ => rfl) (srcsA) rfl rfl sqA ?_) | (refine HO_k 12 rfl ?_; refine HO_call rfl rfl rfl rfl (g0) rfl (trivial) rfl rfl soA ?_; intro y hy; dsimp only [lca, lna]) | exact HO_seg rfl rfl | refine S1 ?_ | (refine S2 ?_; intro _) | (refine S3 ?_; intro _ _) | (refine S4 ?_; intro _ _ _) | (refine HO_g 2 rfl ?_; first | apply HO_a1 rfl | apply HO_o1 rfl) | refine SYSdE ?_ | refine S5 ?_ | (intro hb; try replace hb := simB hb; try exact kill hb))
    (refine SR ?_; unfold RetQ; refine ⟨(((none, 0), (none, 0)), (none, 0), []), trivial, rfl, Keeps.add (fun w => arr_nil _ w) (Keeps.add (fun w => arr_nil _ w) (Keeps.add (fun w => arr_nil _ w) (Keeps.add inn_nil Keeps.nil)))⟩)
   | some dr =>
    obtain ⟨d, r⟩ := dr
    rw [hg] at g0
    dsimp only [rqP, getF, getV, getPs, mkDo, DoS.e, DoS.ro, Option.isSome, lca, lna] at g0
    have hlen := getD_len hg
    obtain ⟨_, ho, hall⟩ := getD_some hg
    by_cases hac : 4096 ≤ acc.length
    ·have hM : decM b = none := by
      rw [hMA, i1, getA_one (by simp) hg]
      cases hx : accA (acc.map (·.q) ++ [d]) (getA r) with
      | none => rfl
      | some ds =>
       have := accA_long hx
       simp only [List.length_append, List.length_map, List.length_cons, List.length_nil] at this
       simp only
       rw [if_neg (by omega)]
     unfold decP decSc
     rw [hM]
     repeat' (first | refine SW ?_ | ((refine HO_g 2 rfl ?_); (refine HO_skip rfl rfl rfl rfl rdA ?_)) | refine SD ?_ | (refine HO_k 12 rfl ?_; refine HO_callq rfl rfl rfl rfl (hLf) (fun _ _ => rfl) (srcsA) rfl rfl sqA ?_) | (refine HO_k 12 rfl ?_; refine HO_call rfl rfl rfl rfl (g0) rfl (trivial) rfl rfl soA ?_; intro y hy; dsimp only [lca, lna]) | exact HO_seg rfl rfl | refine S1 ?_ | (refine S2 ?_; intro _) | (refine S3 ?_; intro _ _) | (refine S4 ?_; intro _ _ _) | (refine HO_g 2 rfl ?_; first | apply HO_a1 rfl | apply HO_o1 rfl) | refine SYSdE ?_ | refine S5 ?_ | (intro hb; try replace hb := simB hb; try exact kill hb))
     (refine SR ?_; unfold RetQ; refine ⟨(((none, 0), (none, 0)), (none, 0), []), trivial, rfl, Keeps.add (fun w => arr_nil _ w) (Keeps.add (fun w => arr_nil _ w) (Keeps.add (fun w => arr_nil _ w) (Keeps.add inn_nil Keeps.nil)))⟩)
    ·have hac' : acc.length < 4096 := by omega
     repeat' (first | refine SW ?_ | ((refine HO_g 2 rfl ?_); (refine HO_skip rfl rfl rfl rfl rdA ?_)) | refine SD ?_ | (refine HO_k 12 rfl ?_; refine HO_callq rfl rfl rfl rfl (hLf) (fun _ _ => rfl) (srcsA) rfl rfl sqA ?_) | (refine HO_k 12 rfl ?_; refine HO_call rfl rfl rfl rfl (g0) rfl (trivial) rfl rfl soA ?_; intro y hy; dsimp only [lca, lna]) | (refine HO_k 11 rfl ?_; refine HO_appw rfl rfl rfl rfl rfl rfl rfl rfl ?h1 ?h2 rfl rfl ?h3 ?h4 rfl rfl rfl ?h5 ?_; (case h1 => simp only [List.length_append, List.length_map, List.length_cons, List.length_nil, be_length]); (case h2 => repeat (first | exact WfL.nil | exact WfL.map | apply WfL.append | refine WfL.cons rfl rfl ?_ | assumption)); (case h3 => (try simp only [List.length_append, List.length_map, List.length_cons, List.length_nil, be_length]); (try omega)); (case h4 => (try simp only [List.length_append, List.length_map, List.length_cons, List.length_nil, be_length]); (try omega)); (case h5 => exact soA); intro _ _) | exact HO_seg rfl rfl | refine S1 ?_ | (refine S2 ?_; intro _) | (refine S3 ?_; intro _ _) | (refine S4 ?_; intro _ _ _) | (refine HO_g 2 rfl ?_; first | apply HO_a1 rfl | apply HO_o1 rfl) | refine SYSdE ?_ | refine S5 ?_ | (intro hb; try replace hb := simB hb; try exact kill hb))
     rename_i b9 bz A4 c4
     have eL : acc.length + 1 = (acc ++ [mkDo d y.2.2]).length := by simp
     rw [eL]
     refine HX_keeps (rw' := rqP br y.2.1.1 y.2.1.2 false r ++ [cel bs 77 (ScS.e ⟨⟨q, iA, ic, dA, dc⟩, A4, c4, (acc ++ [mkDo d y.2.2])⟩), own idE TDo 10 A4 (acc ++ [mkDo d y.2.2]).length c4 ((acc ++ [mkDo d y.2.2]).map DoS.e), inn (doPs (acc ++ [mkDo d y.2.2])), arr IfQ.e 5 iA q.ifs, arr iE 1 dA q.deny, cel b2 77 sc0.e]) ?_ ?_
     ·rw [List.map_append]
      exact Keeps.cmp (show Keeps _ (inn (doPs acc) :: ((mkDo d y.2.2).ro ++ (rqP br y.2.1.1 y.2.1.2 false r ++ [cel bs 77 (ScS.e ⟨⟨q, iA, ic, dA, dc⟩, A4, c4, (acc ++ [mkDo d y.2.2])⟩), own idE TDo 10 A4 (acc ++ [mkDo d y.2.2]).length c4 (acc.map DoS.e ++ [mkDo d y.2.2].map DoS.e), arr IfQ.e 5 iA q.ifs, arr iE 1 dA q.deny, cel b2 77 sc0.e]))) from permA) (Keeps.cmp (keeps_do Keeps.refl) permA)
     ·exact HX_at (r, (acc ++ [mkDo d y.2.2]), y.2.1, (A4, c4)) ⟨⟨by rw [List.map_append]; exact i1.trans (getA_one (by simp) hg), by dsimp only; omega, hy, by simp; omega, fun e he => (by
       rcases List.mem_append.1 he with h | h
       ·exact i6 e h
       ·have := List.mem_singleton.1 h
        subst this
        exact W_one ho hall)⟩, hlen⟩ ⟨rfl, rfl, rfl, trivial⟩ rfl
end Go.Proofs.YtbhiojedmkcfoaaGreatDoor
