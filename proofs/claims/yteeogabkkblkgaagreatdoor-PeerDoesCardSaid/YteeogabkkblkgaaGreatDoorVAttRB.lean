/- Part of a proof of many texts: what the theorem at its end leans on. -/
import Derived.Test.YteeogabkkblkgaaGreatDoorVAttK
import Derived.Test.YteeogabkkblkgaaGreatDoorVAttM
import Derived.Test.YteeogabkkblkgaaGreatDoorVAttQ
namespace Go.Proofs.YteeogabkkblkgaaGreatDoor
set_option maxHeartbeats 1000000000
set_option linter.unusedVariables false
set_option linter.unusedSimpArgs false
open Go.RowKit
attribute [local irreducible] HC HX HO Tri eP adr
theorem ns_stepr {w n : Nat} {l2 : List UInt8} {j : Nat} {bad : Bool} {l : List UInt8} {ns : List Int} (hw : 1 ≤ w ∧ w ≤ 4) (hj : j < n) (h : NsOk w n l2 j bad l ns) {out l' : List UInt8} {bad' : Bool} (hr : rdB bad l w = (out, bad', l')) :
  NsOk w n l2 (j + 1) bad' l' (ns ++ [(ge out : Int)]) ∧ l'.length ≤ l.length := by
 have hmul : (j + 1) * w ≤ n * w := Nat.mul_le_mul_right w hj
 rw [Nat.add_mul, Nat.one_mul] at hmul
 unfold rdB at hr
 split at hr
 ·rename_i hc
  cases hr
  refine ⟨.inr ⟨rfl, ?_⟩, Nat.le_refl _⟩
  rcases h with ⟨rfl, h1, h2, h3⟩ | ⟨_, h1⟩
  ·subst h2
   simp only [List.length_drop] at hc
   have : ¬ ((w : Int) < 0) := by omega
   simp [this] at hc
   omega
  ·exact h1
 ·rename_i hc
  cases hr
  rcases h with ⟨rfl, h1, h2, h3⟩ | ⟨rfl, _⟩
  ·subst h2
   simp only [List.length_drop] at hc
   have hlen : w ≤ l2.length - j * w := by
    have : ¬ ((l2.length - j * w : Nat) : Int) < w := fun hh => hc (.inr (.inr hh))
    omega
   refine ⟨.inl ⟨rfl, by rw [Nat.add_mul, Nat.one_mul]; omega, ?_, ?_⟩, by simp only [List.length_drop]; omega⟩
   ·rw [List.drop_drop, Int.toNat_natCast, Nat.add_mul, Nat.one_mul]
   ·rw [numsG_snoc, h3, Int.toNat_natCast]
  ·exact absurd (.inl rfl) hc
theorem rnum1_t (b : Nat) (A : Option Addr) (c : Nat) (k : UInt8) (l : List UInt8) (hb : l.length ≤ 100000) (hc : l.length + 1 ≤ c) :
  Tri Tryz.prog 162 [pt b, .int .i64 1] [] (rqP b A c false (k :: l)) (fun x : OA => l.length ≤ x.2) (fun _ => .int .i64 k.toNat) (fun x => rqP b x.1 x.2 false l) := by
 have := rnum_t b A c false (k :: l) 1 (by decide) (by simp; omega) (by simpa using hc)
 rw [rd1, ge_one] at this
 exact this
theorem rnum0_t (b : Nat) (A : Option Addr) (c : Nat) :
  Tri Tryz.prog 162 [pt b, .int .i64 1] [] (rqP b A c false []) (fun x : OA => 0 ≤ x.2) (fun _ => .int .i64 0) (fun x => rqP b x.1 x.2 true []) := by
 have := rnum_t b A c false [] 1 (by decide) (by simp) (by simp)
 rw [rd0] at this
 exact this
theorem rleftF_t (b : Nat) (A : Option Addr) (n c : Nat) :
  Tri Tryz.prog 161 [pt b] [cel b TQ [.slice A n c, .bool false]] [] (fun _ : Unit => True) (fun _ => .int .i64 n) (fun _ => []) := rleft_t b A n c false
@[reducible] def segQ (A : Option Addr) (c : Nat) (l : List SegS) : List SL := [ownS A c l, inn (segPs l)]
set_option maxRecDepth 100000 in
theorem rpath_t (four : Bool) (dA : Option Addr) (dc : Nat) (d : List UInt8) (hd : d.length ≤ 100000) (hdc : d.length ≤ dc) :
  Tri Tryz.prog 218 [.slice dA d.length dc, .bool four] [] [arr bE 1 dA d] (fun x : OA × List SegS => ∀ p, segsR (szF four) [] d = some p → spl x.2 = p) (fun x => .tuple #[.slice x.1.1 x.2.length x.1.2, .bool (segsR (szF four) [] d).isSome])
   (fun x => segQ x.1.1 x.1.2 x.2) := by
 have hz := szF_bd four
 obtain ⟨res, hres⟩ : ∃ res, segsR (szF four) [] d = res := ⟨_, rfl⟩
 rw [hres]
 have hnil : ∀ rw, Keeps rw (segQ none 0 []) := fun rw => Keeps.add (fun w => own_nil w) (Keeps.add inn_nil Keeps.nil)
 refine Tri_in Tryz.func218 rfl (fun w0 S0 => ?_)
 repeat' (first | refine SX ?_ | exact HO_seg rfl rfl | refine S1 ?_ | (refine T2 ?_; intros) | (refine HO_g 2 rfl ?_; apply HO_o1 rfl) | refine S5 ?_ | (intro hb; try replace hb := simB hb; try exact kill hb))
 rename_i br
 refine HC_keeps (rw' := ownS none 0 [] :: inn (segPs []) :: rqP br dA dc false d) (Keeps.add (fun w => own_nil w) (Keeps.add inn_nil Keeps.refl)) ?_
 refine HC_keeps (rw' := rqP br dA dc false d ++ segQ none 0 []) permA ?_
 refine HC_loop (α := SgI) (fun x => x.path.length ≤ 8 ∧ x.l.length ≤ d.length ∧ x.l.length ≤ x.rc ∧ segsR (szF four) (spl x.path) x.l = res) (fun x => [(7, pt br), (1, .bool four), (6, .slice x.pA x.path.length x.pc)])
  (fun x => rqP br x.rA x.rc false x.l ++ segQ x.pA x.pc x.path) (fun x => x.l.length) rfl ⟨false, dA, dc, d, none, 0, []⟩ ⟨Nat.zero_le _, Nat.le_refl _, hdc, hres⟩ ⟨rfl, rfl, rfl, trivial⟩ rfl ?_
 intro ⟨bad, rA, rc, l, pA, pc, path⟩ ⟨hp8, hld, hlc, hinv⟩
 dsimp only [rqP, segQ, pt, lca, lna] at hp8 hld hlc hinv ⊢
 clear bad
 rcases l with _ | ⟨k, l1⟩
 ·have hinv : some (spl path) = res := hinv
  subst hinv
  repeat' (first | refine SX ?_ | (refine KC ?_; refine HO_callq rfl rfl rfl rfl (rleftF_t _ _ _ _) (fun _ _ => rfl) (srcsA) rfl rfl sqA ?_) | exact HO_seg rfl rfl | refine S1 ?_ | (refine T2 ?_; intros) | (refine HO_g 2 rfl ?_; apply HO_o1 rfl) | refine S5 ?_ | (intro hb; try replace hb := simB hb; try exact kill hb))
  (refine SRt ?_; unfold RetQ; refine ⟨((pA, pc), path), (fun p hp => by injection hp), rfl, permA⟩)
 simp only [List.length_cons] at hld hlc
 rcases l1 with _ | ⟨n, l2⟩
 ·have hinv : none = res := hinv
  subst hinv
  repeat' (first | refine SX ?_ | (refine KC ?_; refine HO_callq rfl rfl rfl rfl (rleftF_t _ _ _ _) (fun _ _ => rfl) (srcsA) rfl rfl sqA ?_) | (refine KC ?_; refine HO_call rfl rfl rfl rfl (rnum1_t br rA rc k [] (by simp) (by simpa using hlc)) rfl (trivial) rfl rfl soA ?_; intro ⟨xA, xc⟩ hx1; dsimp only [rqP, pt, lca, lna]) | (refine KC ?_; refine HO_call rfl rfl rfl rfl (rnum0_t br xA xc) rfl (trivial) rfl rfl soA ?_; intro ⟨yA, yc⟩ hy1; dsimp only [rqP, pt, lca, lna]) | exact HO_seg rfl rfl | refine S1 ?_ | (refine T2 ?_; intros) | (refine HO_g 2 rfl ?_; apply HO_o1 rfl) | refine S5 ?_ | (intro hb; try replace hb := simB hb; try exact kill hb))
  (refine SRt ?_; unfold RetQ; refine ⟨((none, 0), []), (fun p hp => by cases hp), rfl, hnil _⟩)
 have hk := k.toNat_lt
 have hn := n.toNat_lt
 simp only [List.length_cons] at hld hlc
 rw [segsR_cons] at hinv
 have hlp : 0 < (((k :: n :: l2).length : Nat) : Int) := by simp; omega
 by_cases hC : (k.toNat = 1 ∨ k.toNat = 2) ∧ 1 ≤ n.toNat ∧ n.toNat ≤ 64 ∧ (spl path).length < 8
 rotate_left
 ·rw [if_neg (fun hc => hC ⟨hc.1, hc.2.1, hc.2.2.1, hc.2.2.2.1⟩)] at hinv
  subst hinv
  rw [spl_len] at hC
  repeat' (first | refine SX ?_ | (refine KC ?_; refine HO_callq rfl rfl rfl rfl (rleftF_t _ _ _ _) (fun _ _ => rfl) (srcsA) rfl rfl sqA ?_) | (refine KC ?_; refine HO_call rfl rfl rfl rfl (rnum1_t br rA rc k (n :: l2) (by simp; omega) (by simp; omega)) rfl (trivial) rfl rfl soA ?_; intro ⟨xA, xc⟩ hx1; dsimp only [rqP, pt, lca, lna]) | (refine KC ?_; refine HO_call rfl rfl rfl rfl (rnum1_t br xA xc n l2 (by omega) hx1) rfl (trivial) rfl rfl soA ?_; intro ⟨yA, yc⟩ hy1; dsimp only [rqP, pt, lca, lna]) | (refine HC_cond rfl rfl (fun hb => ?_) (fun hb => by exfalso; simp at hb <;> omega)) | exact HO_seg rfl rfl | refine S1 ?_ | (refine T2 ?_; intros) | (refine HO_g 2 rfl ?_; apply HO_o1 rfl) | refine S5 ?_ | (intro hb; try replace hb := simB hb; try exact kill hb))
  all_goals try exact false
  (refine SRt ?_; unfold RetQ; refine ⟨((none, 0), []), (fun p hp => by cases hp), rfl, hnil _⟩)
 have hp7 : path.length < 8 := by have := hC.2.2.2; rwa [spl_len] at this
 repeat' (first | refine SX ?_ | (refine KC ?_; refine HO_callq rfl rfl rfl rfl (rleftF_t _ _ _ _) (fun _ _ => rfl) (srcsA) rfl rfl sqA ?_) | (refine KC ?_; refine HO_call rfl rfl rfl rfl (rnum1_t br rA rc k (n :: l2) (by simp; omega) (by simp; omega)) rfl (trivial) rfl rfl soA ?_; intro ⟨xA, xc⟩ hx1; dsimp only [rqP, pt, lca, lna]) | (refine KC ?_; refine HO_call rfl rfl rfl rfl (rnum1_t br xA xc n l2 (by omega) hx1) rfl (trivial) rfl rfl soA ?_; intro ⟨yA, yc⟩ hy1; dsimp only [rqP, pt, lca, lna]) | exact HO_seg rfl rfl | refine S1 ?_ | (refine T2 ?_; intros) | (refine HO_g 2 rfl ?_; apply HO_o1 rfl) | refine S5 ?_ | (intro hb; try replace hb := simB hb; try exact kill hb))
 rename_i bs
 refine HC_add (e := ownI none 0 []) (fun w => own_nil w) ?_
 refine HC_keeps (rw' := rqP br yA yc false l2 ++ [ownS pA pc path, inn (segPs path), cel bs TSg [.bool (decide ((k.toNat : Int) = 1)), .slice none 0 0], ownI none 0 []]) permA ?_
 refine HC_loop (α := NsI) (fun x => x.j ≤ n.toNat ∧ x.ns.length = x.j ∧ x.l.length ≤ l2.length ∧ x.l.length ≤ x.rc ∧ NsOk (szF four) n.toNat l2 x.j x.bad x.l x.ns)
  (fun x => [(11, .int .i64 x.j), (9, .int .i64 n.toNat), (10, pt bs), (7, pt br), (1, .bool four), (6, .slice pA path.length pc)])
  (fun x => rqP br x.rA x.rc x.bad x.l ++ [ownS pA pc path, inn (segPs path), cel bs TSg [.bool (decide ((k.toNat : Int) = 1)), .slice x.A x.ns.length x.c], ownI x.A x.c x.ns])
  (fun x => n.toNat - x.j) rfl ⟨0, false, yA, yc, l2, none, 0, []⟩ ⟨Nat.zero_le _, rfl, Nat.le_refl _, hy1, .inl ⟨rfl, by simp, by simp, rfl⟩⟩ ⟨rfl, rfl, rfl, rfl, rfl, rfl, trivial⟩ rfl ?_
 intro ⟨j, bad, zA, zc, l, vA, vc, ns⟩ ⟨hj, hns, hll, hlz, hok⟩
 dsimp only [rqP, pt, lca, lna] at hj hns hll hlz hok ⊢
 rcases Nat.lt_or_ge j n.toNat with hlt | hge
 ·have hnum := rnum_t br zA zc bad l (szF four) (by omega) (by omega) hlz
  obtain ⟨out, bad', l', hr⟩ : ∃ out bad' l', rdB bad l (szF four) = (out, bad', l') := ⟨_, _, _, rfl⟩
  obtain ⟨hok', hl'⟩ := ns_stepr hz hlt hok hr
  rw [hr] at hnum
  repeat' (first | refine SX ?_ | (refine KC ?_; refine HO_callq rfl rfl rfl rfl (rsize_t four) (fun _ _ => rfl) (trivial) rfl rfl sqA ?_) | (refine KC ?_; refine HO_call rfl rfl rfl rfl (hnum) rfl (trivial) rfl rfl soA ?_; intro ⟨uA, uc⟩ hu; dsimp only [rqP, pt, lca, lna]) | exact HO_seg rfl rfl | refine S1 ?_ | (refine T2 ?_; intros) | (refine HO_g 2 rfl ?_; apply HO_o1 rfl) | refine S5 ?_ | (intro hb; try replace hb := simB hb; try exact kill hb))
  rename_i b9 A' c'
  have eL : ns.length + 1 = (ns ++ [(ge out : Int)]).length := by simp
  have eM : List.map iE ns ++ [[Value.int .i64 (ge out : Int)]] = List.map iE (ns ++ [(ge out : Int)]) := by rw [List.map_append]; rfl
  rw [eL, eM]
  refine HX_keeps (rw' := rqP br uA uc bad' l' ++ [ownS pA pc path, inn (segPs path), cel bs TSg [.bool (decide ((k.toNat : Int) = 1)), .slice A' (ns ++ [(ge out : Int)]).length c'], ownI A' c' (ns ++ [(ge out : Int)])]) permA ?_
  exact HX_at ⟨j + 1, bad', uA, uc, l', A', c', ns ++ [(ge out : Int)]⟩ ⟨⟨hlt, by simp [hns], by simp only; omega, hu, hok'⟩, by simp only; omega⟩ ⟨rfl, rfl, rfl, rfl, rfl, rfl, trivial⟩ rfl
 obtain rfl : j = n.toNat := by omega
 cases bad
 rotate_left
 ·rcases hok with ⟨h0, _⟩ | ⟨_, h1⟩
  ·cases h0
  rw [if_neg (fun hc => by omega)] at hinv
  subst hinv
  repeat' (first | refine SX ?_ | exact HO_seg rfl rfl | refine S1 ?_ | (refine T2 ?_; intros) | (refine HO_g 2 rfl ?_; apply HO_o1 rfl) | refine S5 ?_ | (intro hb; try replace hb := simB hb; try exact kill hb))
  (refine SRt ?_; unfold RetQ; refine ⟨((none, 0), []), (fun p hp => by cases hp), rfl, hnil _⟩)
 rcases hok with ⟨_, h1, h2, h3⟩ | ⟨h0, _⟩
 rotate_left
 ·cases h0
 rw [if_pos ⟨hC.1, hC.2.1, hC.2.2.1, hC.2.2.2, h1⟩] at hinv
 obtain ⟨sg, hsg⟩ : ∃ sg : SegS, sg = ⟨decide ((k.toNat : Int) = 1), vA, vc, ns⟩ := ⟨_, rfl⟩
 repeat' (first | refine SX ?_ | exact HO_seg rfl rfl | refine S1 ?_ | (refine T2 ?_; intros) | (refine HO_g 2 rfl ?_; apply HO_o1 rfl) | refine S5 ?_ | (intro hb; try replace hb := simB hb; try exact kill hb))
 rename_i b9 A' c'
 have eL : path.length + 1 = (path ++ [sg]).length := by simp
 have eM : List.map SegS.e path ++ [[Value.bool (decide ((k.toNat : Int) = 1)), .slice vA ns.length vc]] = List.map SegS.e (path ++ [sg]) := by rw [hsg, List.map_append]; rfl
 have eS : segPs path ++ [arr iE 1 vA ns] = segPs (path ++ [sg]) := by rw [hsg]; unfold segPs; rw [List.map_append]; rfl
 have eP : spl (path ++ [sg]) = spl path ++ [(decide (k.toNat = 1), ns)] := by
  rw [hsg]
  unfold spl
  rw [List.map_append]
  have : decide ((k.toNat : Int) = 1) = decide (k.toNat = 1) := decide_eq_decide.2 (by omega)
  simp [this]
 rw [eL, eM]
 refine HX_keeps (rw' := [inn (segPs path), ownI vA vc ns, cel br TQ [.slice zA l.length zc, .bool false], arr bE 1 zA l, ownS A' c' (path ++ [sg])]) permA ?_
 refine HX_keeps (Keeps.cons Ent.rfl_ (Keeps.cons own_e Keeps.refl)) (HX_keeps (Keeps.inn_snoc Keeps.refl) ?_)
 rw [eS]
 refine HX_keeps (rw' := rqP br zA zc false l ++ segQ A' c' (path ++ [sg])) permA ?_
 refine HX_at ⟨false, zA, zc, l, A', c', path ++ [sg]⟩ ⟨⟨by simp; omega, by simp only; omega, hlz, ?_⟩, by simp only [List.length_cons]; omega⟩ ⟨rfl, rfl, rfl, trivial⟩ rfl
 rw [eP, h2, h3]
 exact hinv
end Go.Proofs.YteeogabkkblkgaaGreatDoor
