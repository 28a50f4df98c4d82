/- Part of a proof of many texts: what the theorem at its end leans on. -/
import Derived.Test.YteeogabkkblkgaaGreatDoorVAttE
import Derived.Test.YteeogabkkblkgaaGreatDoorVAttG
namespace Go.Proofs.YteeogabkkblkgaaGreatDoor
set_option maxHeartbeats 1000000000
set_option linter.unusedVariables false
set_option linter.unusedSimpArgs false
open Go.RowKit
attribute [local irreducible] HC HX HO Tri eP adr
@[reducible] def ownS (A : Option Addr) (c : Nat) (l : List SegS) : SL := own idE TSg 2 A l.length c (l.map SegS.e)
@[reducible] def segP (b : Nat) (a : AttS) (four : Bool) (seen : Int) : List SL := [cel b TG (rgC a four seen), ownS a.pA a.pc a.path, inn (segPs a.path)]
structure SgI where
 bad : Bool
 rA : Option Addr
 rc : Nat
 l : List UInt8
 pA : Option Addr
 pc : Nat
 path : List SegS
structure NsI where
 j : Nat
 bad : Bool
 rA : Option Addr
 rc : Nat
 l : List UInt8
 A : Option Addr
 c : Nat
 ns : List Int
theorem rd1 (k : UInt8) (l : List UInt8) : rdB false (k :: l) 1 = ([k], false, l) := by
 unfold rdB
 rw [if_neg (by simp; omega)]
 rfl
theorem rd0 : rdB false [] 1 = ([], true, []) := by simp [rdB]
theorem nget1 (k : UInt8) : (ngetR [k]).1 = (k.toNat : Int) := by simp [ngetR, ge]
theorem num1_t (b : Nat) (A : Option Addr) (c : Nat) (k : UInt8) (l : List UInt8) (hb : l.length ≤ 100000) (hc : l.length + 1 ≤ c) :
  Tri Tryz.prog 140 [pt b, .int .i64 1] [] (rdP b A c false (k :: l)) (fun x : OA => l.length ≤ x.2) (fun _ => .int .i64 k.toNat) (fun x => rdP b x.1 x.2 false l) := by
 have := nnum_t b A c false (k :: l) 1 (by decide) (by simp; omega) (by simpa using hc)
 rw [rd1, nget1] at this
 exact this
theorem num0_t (b : Nat) (A : Option Addr) (c : Nat) :
  Tri Tryz.prog 140 [pt b, .int .i64 1] [] (rdP b A c false []) (fun x : OA => 0 ≤ x.2) (fun _ => .int .i64 0) (fun x => rdP b x.1 x.2 true []) := by
 have := nnum_t b A c false [] 1 (by decide) (by simp) (by simp)
 rw [rd0] at this
 exact this
theorem nleftF_t (b : Nat) (A : Option Addr) (n c : Nat) :
  Tri Tryz.prog 177 [pt b] [cel b TR [.slice A n c, .bool false]] [] (fun _ : Unit => True) (fun _ => .int .i64 n) (fun _ => []) := nleft_t b A n c false
theorem nleftT_t (b : Nat) (A : Option Addr) (n c : Nat) :
  Tri Tryz.prog 177 [pt b] [cel b TR [.slice A n c, .bool true]] [] (fun _ : Unit => True) (fun _ => .int .i64 0) (fun _ => []) := nleft_t b A n c true
def NsOk (w n : Nat) (l2 : List UInt8) (j : Nat) (bad : Bool) (l : List UInt8) (ns : List Int) : Prop := bad = false ∧ j * w ≤ l2.length ∧ l = l2.drop (j * w) ∧ ns = numsG w j l2 ∨ bad = true ∧ l2.length < n * w
theorem ns_step {w n : Nat} {l2 : List UInt8} {j : Nat} {bad : Bool} {l : List UInt8} {ns : List Int} (hw : 1 ≤ w ∧ w ≤ 4) (hj : j < n) (h : NsOk w n l2 j bad l ns) {out l' : List UInt8} {bad' : Bool} (hr : rdB bad l w = (out, bad', l')) :
  NsOk w n l2 (j + 1) bad' l' (ns ++ [(ngetR out).1]) ∧ l'.length ≤ l.length := by
 have hmul : (j + 1) * w ≤ n * w := Nat.mul_le_mul_right w hj
 rw [Nat.add_mul, Nat.one_mul] at hmul
 unfold rdB at hr
 split at hr
 ·rename_i hc
  cases hr
  refine ⟨.inr ⟨rfl, ?_⟩, Nat.le_refl _⟩
  rcases h with ⟨rfl, h1, h2, h3⟩ | ⟨_, h1⟩
  ·subst h2
   simp only [List.length_drop] at hc
   have : ¬ ((w : Int) < 0) := by omega
   simp [this] at hc
   omega
  ·exact h1
 ·rename_i hc
  cases hr
  rcases h with ⟨rfl, h1, h2, h3⟩ | ⟨rfl, _⟩
  ·subst h2
   simp only [List.length_drop] at hc
   have hlen : w ≤ l2.length - j * w := by
    have : ¬ ((l2.length - j * w : Nat) : Int) < w := fun hh => hc (.inr (.inr hh))
    omega
   refine ⟨.inl ⟨rfl, by rw [Nat.add_mul, Nat.one_mul]; omega, ?_, ?_⟩, by simp only [List.length_drop]; omega⟩
   ·rw [List.drop_drop, Int.toNat_natCast, Nat.add_mul, Nat.one_mul]
   ·rw [numsG_snoc, h3, Int.toNat_natCast]
    have hl : ((l2.drop (j * w)).take w).length = w := by simp; omega
    unfold ngetR
    rw [if_neg (by omega)]
  ·exact absurd (.inl rfl) hc
set_option maxRecDepth 100000 in
theorem segs_t (b : Nat) (a : AttS) (four : Bool) (seen : Int) (dA : Option Addr) (dc : Nat) (d : List UInt8) (hd : d.length ≤ 100000) (ha : a.path.length ≤ 8) :
  Tri Tryz.prog 233 [pt b, .slice dA d.length dc] [arr bE 1 dA d] (segP b a four seen) (fun x : OA × List SegS => ∀ p, segsR (szF four) (spl a.path) d = some p → spl x.2 = p) (fun _ => .bool (segsR (szF four) (spl a.path) d).isSome)
   (fun x => segP b { a with pA := x.1.1, pc := x.1.2, path := x.2 } four seen) := by
 have hz := szF_bd four
 obtain ⟨res, hres⟩ : ∃ res, segsR (szF four) (spl a.path) d = res := ⟨_, rfl⟩
 rw [hres]
 refine Tri_in Tryz.func233 rfl (fun w0 S0 => ?_)
 dsimp only [pt, segP]
 repeat' (first | refine SX ?_ | (refine KC ?_; refine HO_call rfl rfl rfl rfl (nfrom_t dA d.length dc d rfl (by omega)) rfl (AllSrc.at_ 0 rfl trivial) rfl rfl soA ?_; intro ⟨br, ⟨rA, rc⟩⟩ hx; dsimp only [rdP, pt, lca, lna]) | exact HO_seg rfl rfl | refine S1 ?_ | (refine T2 ?_; intros) | (refine HO_g 2 rfl ?_; apply HO_o1 rfl) | refine S5 ?_ | (intro hb; try replace hb := simB hb; try exact kill hb))
 refine HC_loop (α := SgI) (fun x => x.path.length ≤ 8 ∧ x.l.length ≤ d.length ∧ x.l.length ≤ x.rc ∧ (x.bad = false ∧ segsR (szF four) (spl x.path) x.l = res ∨ x.bad = true ∧ res = none)) (fun _ => [(5, pt br), (0, pt b)])
  (fun x => rdP br x.rA x.rc x.bad x.l ++ segP b { a with pA := x.pA, pc := x.pc, path := x.path } four seen) (fun x => if x.bad = true then 0 else x.l.length + 1) rfl ⟨false, rA, rc, d, a.pA, a.pc, a.path⟩ ⟨ha, Nat.le_refl _, hx, .inl ⟨rfl, hres⟩⟩ ⟨rfl, rfl, trivial⟩ rfl ?_
 intro ⟨bad, rA, rc, l, pA, pc, path⟩ ⟨hp8, hld, hlc, hinv⟩
 dsimp only [rdP, segP, pt, lca, lna] at hp8 hld hlc hinv ⊢
 rcases hinv with ⟨rfl, hinv⟩ | ⟨rfl, hinv⟩
 rotate_left
 ·subst hinv
  repeat' (first | refine SX ?_ | (refine KC ?_; refine HO_callq rfl rfl rfl rfl (nleftT_t _ _ _ _) (fun _ _ => rfl) (srcsA) rfl rfl sqA ?_) | (refine KC ?_; refine HO_callq rfl rfl rfl rfl (nbad_t _ _ _ _ _) (fun _ _ => rfl) (srcsA) rfl rfl sqA ?_) | exact HO_seg rfl rfl | refine S1 ?_ | (refine T2 ?_; intros) | (refine HO_g 2 rfl ?_; apply HO_o1 rfl) | refine S5 ?_ | (intro hb; try replace hb := simB hb; try exact kill hb))
  (refine SRt ?_; unfold RetQ; refine ⟨((pA, pc), path), (fun p hp => by cases hp), rfl, permA⟩)
 rcases l with _ | ⟨k, l1⟩
 ·have hinv : some (spl path) = res := hinv
  subst hinv
  repeat' (first | refine SX ?_ | (refine KC ?_; refine HO_callq rfl rfl rfl rfl (nleftF_t _ _ _ _) (fun _ _ => rfl) (srcsA) rfl rfl sqA ?_) | (refine KC ?_; refine HO_callq rfl rfl rfl rfl (nbad_t _ _ _ _ _) (fun _ _ => rfl) (srcsA) rfl rfl sqA ?_) | exact HO_seg rfl rfl | refine S1 ?_ | (refine T2 ?_; intros) | (refine HO_g 2 rfl ?_; apply HO_o1 rfl) | refine S5 ?_ | (intro hb; try replace hb := simB hb; try exact kill hb))
  (refine SRt ?_; unfold RetQ; refine ⟨((pA, pc), path), (fun p hp => by injection hp), rfl, permA⟩)
 simp only [List.length_cons] at hld hlc
 rcases l1 with _ | ⟨n, l2⟩
 ·have hinv : none = res := hinv
  subst hinv
  repeat' (first | refine SX ?_ | (refine KC ?_; refine HO_callq rfl rfl rfl rfl (nleftF_t _ _ _ _) (fun _ _ => rfl) (srcsA) rfl rfl sqA ?_) | (refine KC ?_; refine HO_callq rfl rfl rfl rfl (awithin_t _ _ _) (fun _ _ => rfl) (trivial) rfl rfl sqA ?_) | (refine KC ?_; refine HO_call rfl rfl rfl rfl (num1_t br rA rc k [] (by simp) (by simpa using hlc)) rfl (trivial) rfl rfl soA ?_; intro ⟨xA, xc⟩ hx1; dsimp only [rdP, pt, lca, lna]) | (refine KC ?_; refine HO_call rfl rfl rfl rfl (num0_t br xA xc) rfl (trivial) rfl rfl soA ?_; intro ⟨yA, yc⟩ hy1; dsimp only [rdP, pt, lca, lna]) | exact HO_seg rfl rfl | refine S1 ?_ | (refine T2 ?_; intros) | (refine HO_g 2 rfl ?_; apply HO_o1 rfl) | refine S5 ?_ | (intro hb; try replace hb := simB hb; try exact kill hb))
  all_goals try exact false
  refine HC_cond rfl rfl (fun hb => ?_) (fun hb => by simp at hb)
  repeat' (first | refine SX ?_ | exact HO_seg rfl rfl | refine S1 ?_ | (refine T2 ?_; intros) | (refine HO_g 2 rfl ?_; apply HO_o1 rfl) | refine S5 ?_ | (intro hb; try replace hb := simB hb; try exact kill hb))
  (refine SRt ?_; unfold RetQ; refine ⟨((pA, pc), path), (fun p hp => by cases hp), rfl, permA⟩)
 have hk := k.toNat_lt
 have hn := n.toNat_lt
 simp only [List.length_cons] at hld hlc
 rw [segsR_cons] at hinv
 have hlp : 0 < (((k :: n :: l2).length : Nat) : Int) := by simp; omega
 repeat' (first | refine SX ?_ | (refine KC ?_; refine HO_callq rfl rfl rfl rfl (nleftF_t _ _ _ _) (fun _ _ => rfl) (srcsA) rfl rfl sqA ?_) | (refine KC ?_; refine HO_callq rfl rfl rfl rfl (awithin_t _ _ _) (fun _ _ => rfl) (trivial) rfl rfl sqA ?_) | (refine KC ?_; refine HO_call rfl rfl rfl rfl (num1_t br rA rc k (n :: l2) (by simp; omega) (by simp; omega)) rfl (trivial) rfl rfl soA ?_; intro ⟨xA, xc⟩ hx1; dsimp only [rdP, pt, lca, lna]) | (refine KC ?_; refine HO_call rfl rfl rfl rfl (num1_t br xA xc n l2 (by omega) hx1) rfl (trivial) rfl rfl soA ?_; intro ⟨yA, yc⟩ hy1; dsimp only [rdP, pt, lca, lna]) | exact HO_seg rfl rfl | refine S1 ?_ | (refine T2 ?_; intros) | (refine HO_g 2 rfl ?_; apply HO_o1 rfl) | refine S5 ?_ | (intro hb; try replace hb := simB hb; try exact kill hb))
 refine HC_cond rfl rfl (fun hb => ?_) (fun hb => ?_)
 ·rw [if_neg (fun hc => by simp [spl] at hb hc; omega)] at hinv
  subst hinv
  repeat' (first | refine SX ?_ | exact HO_seg rfl rfl | refine S1 ?_ | (refine T2 ?_; intros) | (refine HO_g 2 rfl ?_; apply HO_o1 rfl) | refine S5 ?_ | (intro hb; try replace hb := simB hb; try exact kill hb))
  (refine SRt ?_; unfold RetQ; refine ⟨((pA, pc), path), (fun p hp => by cases hp), rfl, permA⟩)
 have hC : (k.toNat = 1 ∨ k.toNat = 2) ∧ 1 ≤ n.toNat ∧ n.toNat ≤ 64 ∧ (spl path).length < 8 := by simp [spl] at hb ⊢; omega
 have hp7 : path.length < 8 := by have := hC.2.2.2; simp [spl] at this; exact this
 repeat' (first | refine SX ?_ | exact HO_seg rfl rfl | refine S1 ?_ | (refine T2 ?_; intros) | (refine HO_g 2 rfl ?_; apply HO_o1 rfl) | refine S5 ?_ | (intro hb; try replace hb := simB hb; try exact kill hb))
 rename_i bs
 refine HC_add (e := ownI none 0 []) (fun w => own_nil w) ?_
 refine HC_keeps (rw' := rdP br yA yc false l2 ++ [cel b TG (rgC { a with pA := pA, pc := pc, path := path } four seen), ownS pA pc path, inn (segPs path), cel bs TSg [.bool (decide ((k.toNat : Int) = 1)), .slice none 0 0], ownI none 0 []]) permA ?_
 refine HC_loop (α := NsI) (fun x => x.j ≤ n.toNat ∧ x.ns.length = x.j ∧ x.l.length ≤ l2.length ∧ x.l.length ≤ x.rc ∧ NsOk (szF four) n.toNat l2 x.j x.bad x.l x.ns)
  (fun x => [(39, .int .i64 x.j), (38, .int .i64 n.toNat), (8, pt bs), (5, pt br), (0, pt b)])
  (fun x => rdP br x.rA x.rc x.bad x.l ++ [cel b TG (rgC { a with pA := pA, pc := pc, path := path } four seen), ownS pA pc path, inn (segPs path), cel bs TSg [.bool (decide ((k.toNat : Int) = 1)), .slice x.A x.ns.length x.c], ownI x.A x.c x.ns])
  (fun x => n.toNat - x.j) rfl ⟨0, false, yA, yc, l2, none, 0, []⟩ ⟨Nat.zero_le _, rfl, Nat.le_refl _, hy1, .inl ⟨rfl, by simp, by simp, rfl⟩⟩ ⟨rfl, rfl, rfl, rfl, rfl, trivial⟩ rfl ?_
 intro ⟨j, bad, zA, zc, l, vA, vc, ns⟩ ⟨hj, hns, hll, hlz, hok⟩
 dsimp only [rdP, pt, lca, lna] at hj hns hll hlz hok ⊢
 rcases Nat.lt_or_ge j n.toNat with hlt | hge
 ·have hnum := nnum_t br zA zc bad l (szF four) (by omega) (by omega) hlz
  obtain ⟨out, bad', l', hr⟩ : ∃ out bad' l', rdB bad l (szF four) = (out, bad', l') := ⟨_, _, _, rfl⟩
  obtain ⟨hok', hl'⟩ := ns_step hz hlt hok hr
  rw [hr] at hnum
  repeat' (first | refine SX ?_ | (refine KC ?_; refine HO_callq rfl rfl rfl rfl (size_t four) (fun _ _ => rfl) (trivial) rfl rfl sqA ?_) | (refine KC ?_; refine HO_call rfl rfl rfl rfl (hnum) rfl (trivial) rfl rfl soA ?_; intro ⟨uA, uc⟩ hu; dsimp only [rdP, pt, lca, lna]) | exact HO_seg rfl rfl | refine S1 ?_ | (refine T2 ?_; intros) | (refine HO_g 2 rfl ?_; apply HO_o1 rfl) | refine S5 ?_ | (intro hb; try replace hb := simB hb; try exact kill hb))
  rename_i b9 A' c'
  have eL : ns.length + 1 = (ns ++ [(ngetR out).1]).length := by simp
  have eM : List.map iE ns ++ [[Value.int .i64 (ngetR out).1]] = List.map iE (ns ++ [(ngetR out).1]) := by rw [List.map_append]; rfl
  rw [eL, eM]
  refine HX_keeps (rw' := rdP br uA uc bad' l' ++ [cel b TG (rgC { a with pA := pA, pc := pc, path := path } four seen), ownS pA pc path, inn (segPs path), cel bs TSg [.bool (decide ((k.toNat : Int) = 1)), .slice A' (ns ++ [(ngetR out).1]).length c'], ownI A' c' (ns ++ [(ngetR out).1])]) permA ?_
  exact HX_at ⟨j + 1, bad', uA, uc, l', A', c', ns ++ [(ngetR out).1]⟩ ⟨⟨hlt, by simp [hns], by simp only; omega, hu, hok'⟩, by simp only; omega⟩ ⟨rfl, rfl, rfl, rfl, rfl, trivial⟩ rfl
 ·obtain rfl : j = n.toNat := by omega
  obtain ⟨sg, hsg⟩ : ∃ sg : SegS, sg = ⟨decide ((k.toNat : Int) = 1), vA, vc, ns⟩ := ⟨_, rfl⟩
  repeat' (first | refine SX ?_ | exact HO_seg rfl rfl | refine S1 ?_ | (refine T2 ?_; intros) | (refine HO_g 2 rfl ?_; apply HO_o1 rfl) | refine S5 ?_ | (intro hb; try replace hb := simB hb; try exact kill hb))
  rename_i b9 A' c'
  have eL : path.length + 1 = (path ++ [sg]).length := by simp
  have eM : List.map SegS.e path ++ [[Value.bool (decide ((k.toNat : Int) = 1)), .slice vA ns.length vc]] = List.map SegS.e (path ++ [sg]) := by rw [hsg, List.map_append]; rfl
  have eS : segPs path ++ [arr iE 1 vA ns] = segPs (path ++ [sg]) := by rw [hsg]; unfold segPs; rw [List.map_append]; rfl
  have eP : spl (path ++ [sg]) = spl path ++ [(decide (k.toNat = 1), ns)] := by
   rw [hsg]
   unfold spl
   rw [List.map_append]
   have : decide ((k.toNat : Int) = 1) = decide (k.toNat = 1) := decide_eq_decide.2 (by omega)
   simp [this]
  dsimp only
  rw [eL, eM]
  refine HX_keeps (rw' := [inn (segPs path), ownI vA vc ns, cel br TR [.slice zA l.length zc, .bool bad], arr bE 1 zA l, cel b TG (rgC { a with pA := A', pc := c', path := path ++ [sg] } four seen), ownS A' c' (path ++ [sg])]) permA ?_
  refine HX_keeps (Keeps.cons Ent.rfl_ (Keeps.cons own_e Keeps.refl)) (HX_keeps (Keeps.inn_snoc Keeps.refl) ?_)
  rw [eS]
  refine HX_keeps (rw' := rdP br zA zc bad l ++ segP b { a with pA := A', pc := c', path := path ++ [sg] } four seen) permA ?_
  refine HX_at ⟨bad, zA, zc, l, A', c', path ++ [sg]⟩ ⟨⟨by simp; omega, by simp only; omega, hlz, ?_⟩, ?_⟩ ⟨rfl, rfl, trivial⟩ rfl
  ·rw [eP]
   rcases hok with ⟨rfl, h1, h2, h3⟩ | ⟨rfl, h1⟩
   ·refine .inl ⟨rfl, ?_⟩
    rw [if_pos ⟨hC.1, hC.2.1, hC.2.2.1, hC.2.2.2, h1⟩] at hinv
    rw [h2, h3]
    exact hinv
   ·refine .inr ⟨rfl, ?_⟩
    rw [if_neg (fun hc => by omega)] at hinv
    exact hinv.symm
  ·simp only [List.length_cons]
   split <;> simp <;> omega
theorem flagsI_neg {k : Nat} (h : ¬ (k = 1 ∨ k = 2 ∨ k = 3 ∨ k = 4 ∨ k = 5 ∨ k = 8)) : flagsI k = -1 := by
 unfold flagsI
 rw [if_neg (by omega), if_neg (by omega), if_neg (by omega)]
theorem flags_t (k : Nat) : Tri Tryz.prog 230 [.int .i64 k] [] [] (fun _ : Unit => True) (fun _ => .int .i64 (flagsI k)) (fun _ => []) := by
 by_cases h : k = 1 ∨ k = 2 ∨ k = 3 ∨ k = 4 ∨ k = 5 ∨ k = 8
 ·rcases h with rfl | rfl | rfl | rfl | rfl | rfl
  all_goals
   refine Tri_in Tryz.func230 rfl (fun w0 S0 => ?_)
   repeat' (first | refine SD ?_ | refine SB ?_ | fail)
   (refine SRt ?_; refine RU ?_)
   rfl
 ·rw [flagsI_neg h]
  refine Tri_in Tryz.func230 rfl (fun w0 S0 => ?_)
  repeat' (first | refine SD ?_ | refine SB ?_ | fail)
  (refine SRt ?_; refine RU ?_)
  rfl
theorem rflags_t (k : Nat) : Tri Tryz.prog 199 [.int .i64 k] [] [] (fun _ : Unit => True) (fun _ => .int .i64 (flagsI k)) (fun _ => []) := by
 by_cases h : k = 1 ∨ k = 2 ∨ k = 3 ∨ k = 4 ∨ k = 5 ∨ k = 8
 ·rcases h with rfl | rfl | rfl | rfl | rfl | rfl
  all_goals
   refine Tri_in Tryz.func199 rfl (fun w0 S0 => ?_)
   repeat' (first | refine SD ?_ | refine SB ?_ | fail)
   (refine SRt ?_; refine RU ?_)
   rfl
 ·rw [flagsI_neg h]
  refine Tri_in Tryz.func199 rfl (fun w0 S0 => ?_)
  repeat' (first | refine SD ?_ | refine SB ?_ | fail)
  (refine SRt ?_; refine RU ?_)
  rfl
def updN (k : Nat) (a : AttS) (n : Int) : AttS := if k = 3 then { a with nxt := IntKind.u32.wrap n } else if k = 4 then { a with med := n } else { a with pref := n }
theorem number_t (b : Nat) (a : AttS) (four : Bool) (seen : Int) (k : Nat) (hk : k = 3 ∨ k = 4 ∨ k = 5) (dA : Option Addr) (dc : Nat) (d : List UInt8) :
  Tri Tryz.prog 235 [pt b, .int .i64 k, .slice dA d.length dc] [arr bE 1 dA d] [cel b TG (rgC a four seen)] (fun _ : Unit => True) (fun _ => .bool (decide ((d.length : Int) = 4) && (!decide ((k : Int) = 3) || !decide ((ngetR d).1 = 0))))
   (fun _ => [cel b TG (rgC (updN k a (ngetR d).1) four seen)]) := by
 rcases hk with rfl | rfl | rfl
 all_goals
  refine Tri_in Tryz.func235 rfl (fun w0 S0 => ?_)
  dsimp only [pt]
  repeat' (first | refine SD ?_ | (refine KC ?_; refine HO_callq rfl rfl rfl rfl (nget_t dA d.length dc d rfl) (fun _ _ => rfl) (AllSrc.at_ 0 rfl trivial) rfl rfl sqA ?_) | exact HO_seg rfl rfl | refine S1 ?_ | (refine HO_g 2 rfl ?_; apply HO_a1 rfl) | refine S5 ?_ | (intro hb; try replace hb := simB hb; try exact kill hb))
  (refine SRt ?_; unfold RetQ; refine ⟨(), trivial, rfl, Keeps.cons Ent.rfl_ Keeps.nil⟩)
end Go.Proofs.YteeogabkkblkgaaGreatDoor
