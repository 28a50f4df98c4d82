/- The reference's path, comms, set, Get -/
import Derived.Test.YtdeeokkkcfkbjaaGreatAttK
import Derived.Test.YtdeeokkkcfkbjaaGreatAttO
import Derived.Test.YtdeeokkkcfkbjaaGreatAttS
import Derived.Test.YtdeeokkkcfkbjaaGreatAttM
import Derived.Test.YtdeeokkkcfkbjaaGreatAttN
import Derived.Test.YtdeeokkkcfkbjaaGreatAttQ
namespace Go.Proofs.YtdeeokkkcfkbjaaGreat
set_option linter.unusedVariables false
set_option linter.unusedSimpArgs false
open Go.RowKit
attribute [local irreducible] HC HX HO Tri eP adr

theorem ns_stepr {w n : Nat} {l2 : List UInt8} {j : Nat} {bad : Bool} {l : List UInt8} {ns : List Int} (hw : 1 ≤ w ∧ w ≤ 4) (hj : j < n) (h : NsOk w n l2 j bad l ns) {out l' : List UInt8} {bad' : Bool} (hr : rdB bad l w = (out, bad', l')) :
    NsOk w n l2 (j + 1) bad' l' (ns ++ [(ge out : Int)]) ∧ l'.length ≤ l.length := by
  have hmul : (j + 1) * w ≤ n * w := Nat.mul_le_mul_right w hj
  rw [Nat.add_mul, Nat.one_mul] at hmul
  unfold rdB at hr
  split at hr
  · rename_i hc
    cases hr
    refine ⟨.inr ⟨rfl, ?_⟩, Nat.le_refl _⟩
    rcases h with ⟨rfl, h1, h2, h3⟩ | ⟨_, h1⟩
    · subst h2
      simp only [List.length_drop] at hc
      have : ¬ ((w : Int) < 0) := by omega
      simp [this] at hc
      omega
    · exact h1
  · rename_i hc
    cases hr
    rcases h with ⟨rfl, h1, h2, h3⟩ | ⟨rfl, _⟩
    · subst h2
      simp only [List.length_drop] at hc
      have hlen : w ≤ l2.length - j * w := by
        have : ¬ ((l2.length - j * w : Nat) : Int) < w := fun hh => hc (.inr (.inr hh))
        omega
      refine ⟨.inl ⟨rfl, by rw [Nat.add_mul, Nat.one_mul]; omega, ?_, ?_⟩, by simp only [List.length_drop]; omega⟩
      · rw [List.drop_drop, Int.toNat_natCast, Nat.add_mul, Nat.one_mul]
      · rw [numsG_snoc, h3, Int.toNat_natCast]
    · exact absurd (.inl rfl) hc
theorem rnum1_t (b : Nat) (A : Option Addr) (c : Nat) (k : UInt8) (l : List UInt8) (hb : l.length ≤ 100000) (hc : l.length + 1 ≤ c) :
    Tri Tryz.prog 44 [pt b, .int .i64 1] [] (rqP b A c false (k :: l)) (fun x : OA => l.length ≤ x.2) (fun _ => .int .i64 k.toNat) (fun x => rqP b x.1 x.2 false l) := by
  have := rnum_t b A c false (k :: l) 1 (by decide) (by simp; omega) (by simpa using hc)
  rw [rd1, ge_one] at this
  exact this
theorem rnum0_t (b : Nat) (A : Option Addr) (c : Nat) :
    Tri Tryz.prog 44 [pt b, .int .i64 1] [] (rqP b A c false []) (fun x : OA => 0 ≤ x.2) (fun _ => .int .i64 0) (fun x => rqP b x.1 x.2 true []) := by
  have := rnum_t b A c false [] 1 (by decide) (by simp) (by simp)
  rw [rd0] at this
  exact this
theorem rleftF_t (b : Nat) (A : Option Addr) (n c : Nat) :
    Tri Tryz.prog 43 [pt b] [cel b TQ [.slice A n c, .bool false]] [] (fun _ : Unit => True) (fun _ => .int .i64 n) (fun _ => []) := rleft_t b A n c false
@[reducible] def segQ (A : Option Addr) (c : Nat) (l : List SegS) : List SL := [ownS A c l, inn (segPs l)]
set_option maxHeartbeats 16000000 in
set_option maxRecDepth 100000 in
theorem rpath_t (four : Bool) (dA : Option Addr) (dc : Nat) (d : List UInt8) (hd : d.length ≤ 100000) (hdc : d.length ≤ dc) :
    Tri Tryz.prog 108 [.slice dA d.length dc, .bool four] [] [arr bE 1 dA d] (fun x : OA × List SegS => ∀ p, segsR (szF four) [] d = some p → spl x.2 = p) (fun x => .tuple #[.slice x.1.1 x.2.length x.1.2, .bool (segsR (szF four) [] d).isSome])
      (fun x => segQ x.1.1 x.1.2 x.2) := by
  have hz := szF_bd four
  obtain ⟨res, hres⟩ : ∃ res, segsR (szF four) [] d = res := ⟨_, rfl⟩
  rw [hres]
  have hnil : ∀ rw, Keeps rw (segQ none 0 []) := fun rw => Keeps.add (fun w => own_nil w) (Keeps.add inn_nil Keeps.nil)
  refine Tri_of (N := Tryz.f108.ntmps) (c := bodyOf Tryz.f108) Tryz.func108 rfl rfl rfl rfl (fun w0 S0 => ?_)
  repeat' (first | refine SW ?_ | refine SD ?_ | exact HO_seg rfl rfl | refine S1 ?_ | (refine S2 ?_; intro _) | (refine S3 ?_; intro _ _) | (refine S4 ?_; intro _ _ _) | (refine HO_g 2 rfl ?_; (first | apply HO_and rfl rfl rfl rfl rfl rfl rfl rfl rfl | apply HO_or rfl rfl rfl rfl rfl rfl rfl rfl rfl)) | refine S5 ?_ | (intro hb; try replace hb := simB hb; try exact kill hb))
  rename_i br
  refine HC_keeps (rw' := ownS none 0 [] :: inn (segPs []) :: rqP br dA dc false d) (Keeps.add (fun w => own_nil w) (Keeps.add inn_nil Keeps.refl)) ?_
  refine HC_keeps (rw' := rqP br dA dc false d ++ segQ none 0 []) permA ?_
  refine HC_loop (α := SgI) (fun x => x.path.length ≤ 8 ∧ x.l.length ≤ d.length ∧ x.l.length ≤ x.rc ∧ segsR (szF four) (spl x.path) x.l = res) (fun x => [(7, pt br), (1, .bool four), (6, .slice x.pA x.path.length x.pc)])
    (fun x => rqP br x.rA x.rc false x.l ++ segQ x.pA x.pc x.path) (fun x => x.l.length) rfl ⟨false, dA, dc, d, none, 0, []⟩ ⟨Nat.zero_le _, Nat.le_refl _, hdc, hres⟩ ⟨rfl, rfl, rfl, trivial⟩ rfl ?_
  intro ⟨bad, rA, rc, l, pA, pc, path⟩ ⟨hp8, hld, hlc, hinv⟩
  dsimp only [rqP, segQ, pt, List.cons_append, List.nil_append] at hp8 hld hlc hinv ⊢
  clear bad
  rcases l with _ | ⟨k, l1⟩
  · have hinv : some (spl path) = res := hinv
    subst hinv
    repeat' (first | refine SW ?_ | refine SD ?_ | (refine HO_k 12 rfl ?_; refine HO_callq rfl rfl rfl rfl (rleftF_t _ _ _ _) (fun _ _ => rfl) (srcsA) rfl rfl sqA ?_) | exact HO_seg rfl rfl | refine S1 ?_ | (refine S2 ?_; intro _) | (refine S3 ?_; intro _ _) | (refine S4 ?_; intro _ _ _) | (refine HO_g 2 rfl ?_; (first | apply HO_and rfl rfl rfl rfl rfl rfl rfl rfl rfl | apply HO_or rfl rfl rfl rfl rfl rfl rfl rfl rfl)) | refine S5 ?_ | (intro hb; try replace hb := simB hb; try exact kill hb))
    ((first | apply HX_ret | apply HX_retn); (repeat (first | exact Res_nil | apply Res_tmp rfl | apply Res_ce rfl rfl rfl)); unfold RetQ; refine ⟨((pA, pc), path), (fun p hp => by injection hp), rfl, permA⟩)
  simp only [List.length_cons] at hld hlc
  rcases l1 with _ | ⟨n, l2⟩
  · have hinv : none = res := hinv
    subst hinv
    repeat' (first | refine SW ?_ | refine SD ?_ | (refine HO_k 12 rfl ?_; refine HO_callq rfl rfl rfl rfl (rleftF_t _ _ _ _) (fun _ _ => rfl) (srcsA) rfl rfl sqA ?_) | (refine HO_k 12 rfl ?_; refine HO_call rfl rfl rfl rfl (rnum1_t br rA rc k [] (by simp) (by simpa using hlc)) rfl (trivial) rfl rfl soA ?_; intro ⟨xA, xc⟩ hx1; dsimp only [rqP, pt, List.cons_append, List.nil_append]) | (refine HO_k 12 rfl ?_; refine HO_call rfl rfl rfl rfl (rnum0_t br xA xc) rfl (trivial) rfl rfl soA ?_; intro ⟨yA, yc⟩ hy1; dsimp only [rqP, pt, List.cons_append, List.nil_append]) | exact HO_seg rfl rfl | refine S1 ?_ | (refine S2 ?_; intro _) | (refine S3 ?_; intro _ _) | (refine S4 ?_; intro _ _ _) | (refine HO_g 2 rfl ?_; (first | apply HO_and rfl rfl rfl rfl rfl rfl rfl rfl rfl | apply HO_or rfl rfl rfl rfl rfl rfl rfl rfl rfl)) | refine S5 ?_ | (intro hb; try replace hb := simB hb; try exact kill hb))
    ((first | apply HX_ret | apply HX_retn); (repeat (first | exact Res_nil | apply Res_tmp rfl | apply Res_ce rfl rfl rfl)); unfold RetQ; refine ⟨((none, 0), []), (fun p hp => by cases hp), rfl, hnil _⟩)
  have hk := k.toNat_lt
  have hn := n.toNat_lt
  simp only [List.length_cons] at hld hlc
  rw [segsR_cons] at hinv
  have hlp : 0 < (((k :: n :: l2).length : Nat) : Int) := by simp; omega
  by_cases hC : (k.toNat = 1 ∨ k.toNat = 2) ∧ 1 ≤ n.toNat ∧ n.toNat ≤ 64 ∧ (spl path).length < 8
  rotate_left
  · rw [if_neg (fun hc => hC ⟨hc.1, hc.2.1, hc.2.2.1, hc.2.2.2.1⟩)] at hinv
    subst hinv
    rw [spl_len] at hC
    repeat' (first | refine SW ?_ | refine SD ?_ | (refine HO_k 12 rfl ?_; refine HO_callq rfl rfl rfl rfl (rleftF_t _ _ _ _) (fun _ _ => rfl) (srcsA) rfl rfl sqA ?_) | (refine HO_k 12 rfl ?_; refine HO_call rfl rfl rfl rfl (rnum1_t br rA rc k (n :: l2) (by simp; omega) (by simp; omega)) rfl (trivial) rfl rfl soA ?_; intro ⟨xA, xc⟩ hx1; dsimp only [rqP, pt, List.cons_append, List.nil_append]) | (refine HO_k 12 rfl ?_; refine HO_call rfl rfl rfl rfl (rnum1_t br xA xc n l2 (by omega) hx1) rfl (trivial) rfl rfl soA ?_; intro ⟨yA, yc⟩ hy1; dsimp only [rqP, pt, List.cons_append, List.nil_append]) | (refine HC_cond rfl rfl (fun hb => ?_) (fun hb => by exfalso; simp at hb <;> omega)) | exact HO_seg rfl rfl | refine S1 ?_ | (refine S2 ?_; intro _) | (refine S3 ?_; intro _ _) | (refine S4 ?_; intro _ _ _) | (refine HO_g 2 rfl ?_; (first | apply HO_and rfl rfl rfl rfl rfl rfl rfl rfl rfl | apply HO_or rfl rfl rfl rfl rfl rfl rfl rfl rfl)) | refine S5 ?_ | (intro hb; try replace hb := simB hb; try exact kill hb))
    all_goals try exact false
    ((first | apply HX_ret | apply HX_retn); (repeat (first | exact Res_nil | apply Res_tmp rfl | apply Res_ce rfl rfl rfl)); unfold RetQ; refine ⟨((none, 0), []), (fun p hp => by cases hp), rfl, hnil _⟩)
  have hp7 : path.length < 8 := by have := hC.2.2.2; rwa [spl_len] at this
  repeat' (first | refine SW ?_ | refine SD ?_ | (refine HO_k 12 rfl ?_; refine HO_callq rfl rfl rfl rfl (rleftF_t _ _ _ _) (fun _ _ => rfl) (srcsA) rfl rfl sqA ?_) | (refine HO_k 12 rfl ?_; refine HO_call rfl rfl rfl rfl (rnum1_t br rA rc k (n :: l2) (by simp; omega) (by simp; omega)) rfl (trivial) rfl rfl soA ?_; intro ⟨xA, xc⟩ hx1; dsimp only [rqP, pt, List.cons_append, List.nil_append]) | (refine HO_k 12 rfl ?_; refine HO_call rfl rfl rfl rfl (rnum1_t br xA xc n l2 (by omega) hx1) rfl (trivial) rfl rfl soA ?_; intro ⟨yA, yc⟩ hy1; dsimp only [rqP, pt, List.cons_append, List.nil_append]) | exact HO_seg rfl rfl | refine S1 ?_ | (refine S2 ?_; intro _) | (refine S3 ?_; intro _ _) | (refine S4 ?_; intro _ _ _) | (refine HO_g 2 rfl ?_; (first | apply HO_and rfl rfl rfl rfl rfl rfl rfl rfl rfl | apply HO_or rfl rfl rfl rfl rfl rfl rfl rfl rfl)) | refine S5 ?_ | (intro hb; try replace hb := simB hb; try exact kill hb))
  rename_i bs
  refine HC_add (e := ownI none 0 []) (fun w => own_nil w) ?_
  refine HC_keeps (rw' := rqP br yA yc false l2 ++ [ownS pA pc path, inn (segPs path), cel bs TSg [.bool (decide ((k.toNat : Int) = 1)), .slice none 0 0], ownI none 0 []]) permA ?_
  refine HC_loop (α := NsI) (fun x => x.j ≤ n.toNat ∧ x.ns.length = x.j ∧ x.l.length ≤ l2.length ∧ x.l.length ≤ x.rc ∧ NsOk (szF four) n.toNat l2 x.j x.bad x.l x.ns)
    (fun x => [(11, .int .i64 x.j), (9, .int .i64 n.toNat), (10, pt bs), (7, pt br), (1, .bool four), (6, .slice pA path.length pc)])
    (fun x => rqP br x.rA x.rc x.bad x.l ++ [ownS pA pc path, inn (segPs path), cel bs TSg [.bool (decide ((k.toNat : Int) = 1)), .slice x.A x.ns.length x.c], ownI x.A x.c x.ns])
    (fun x => n.toNat - x.j) rfl ⟨0, false, yA, yc, l2, none, 0, []⟩ ⟨Nat.zero_le _, rfl, Nat.le_refl _, hy1, .inl ⟨rfl, by simp, by simp, rfl⟩⟩ ⟨rfl, rfl, rfl, rfl, rfl, rfl, trivial⟩ rfl ?_
  intro ⟨j, bad, zA, zc, l, vA, vc, ns⟩ ⟨hj, hns, hll, hlz, hok⟩
  dsimp only [rqP, pt, List.cons_append, List.nil_append] at hj hns hll hlz hok ⊢
  rcases Nat.lt_or_ge j n.toNat with hlt | hge
  · have hnum := rnum_t br zA zc bad l (szF four) (by omega) (by omega) hlz
    obtain ⟨out, bad', l', hr⟩ : ∃ out bad' l', rdB bad l (szF four) = (out, bad', l') := ⟨_, _, _, rfl⟩
    obtain ⟨hok', hl'⟩ := ns_stepr hz hlt hok hr
    rw [hr] at hnum
    repeat' (first | refine SW ?_ | refine SD ?_ | (refine HO_k 12 rfl ?_; refine HO_callq rfl rfl rfl rfl (rsize_t four) (fun _ _ => rfl) (trivial) rfl rfl sqA ?_) | (refine HO_k 12 rfl ?_; refine HO_call rfl rfl rfl rfl (hnum) rfl (trivial) rfl rfl soA ?_; intro ⟨uA, uc⟩ hu; dsimp only [rqP, pt, List.cons_append, List.nil_append]) | exact HO_seg rfl rfl | refine S1 ?_ | (refine S2 ?_; intro _) | (refine S3 ?_; intro _ _) | (refine S4 ?_; intro _ _ _) | (refine HO_g 2 rfl ?_; (first | apply HO_and rfl rfl rfl rfl rfl rfl rfl rfl rfl | apply HO_or rfl rfl rfl rfl rfl rfl rfl rfl rfl)) | refine S5 ?_ | (intro hb; try replace hb := simB hb; try exact kill hb))
    rename_i b9 A' c'
    have eL : ns.length + 1 = (ns ++ [(ge out : Int)]).length := by simp
    have eM : List.map iE ns ++ [[Value.int .i64 (ge out : Int)]] = List.map iE (ns ++ [(ge out : Int)]) := by rw [List.map_append]; rfl
    rw [eL, eM]
    refine HX_keeps (rw' := rqP br uA uc bad' l' ++ [ownS pA pc path, inn (segPs path), cel bs TSg [.bool (decide ((k.toNat : Int) = 1)), .slice A' (ns ++ [(ge out : Int)]).length c'], ownI A' c' (ns ++ [(ge out : Int)])]) permA ?_
    exact HX_at ⟨j + 1, bad', uA, uc, l', A', c', ns ++ [(ge out : Int)]⟩ ⟨⟨hlt, by simp [hns], by simp only; omega, hu, hok'⟩, by simp only; omega⟩ ⟨rfl, rfl, rfl, rfl, rfl, rfl, trivial⟩ rfl
  obtain rfl : j = n.toNat := by omega
  cases bad
  rotate_left
  · rcases hok with ⟨h0, _⟩ | ⟨_, h1⟩
    · cases h0
    rw [if_neg (fun hc => by omega)] at hinv
    subst hinv
    repeat' (first | refine SW ?_ | refine SD ?_ | exact HO_seg rfl rfl | refine S1 ?_ | (refine S2 ?_; intro _) | (refine S3 ?_; intro _ _) | (refine S4 ?_; intro _ _ _) | (refine HO_g 2 rfl ?_; (first | apply HO_and rfl rfl rfl rfl rfl rfl rfl rfl rfl | apply HO_or rfl rfl rfl rfl rfl rfl rfl rfl rfl)) | refine S5 ?_ | (intro hb; try replace hb := simB hb; try exact kill hb))
    ((first | apply HX_ret | apply HX_retn); (repeat (first | exact Res_nil | apply Res_tmp rfl | apply Res_ce rfl rfl rfl)); unfold RetQ; refine ⟨((none, 0), []), (fun p hp => by cases hp), rfl, hnil _⟩)
  rcases hok with ⟨_, h1, h2, h3⟩ | ⟨h0, _⟩
  rotate_left
  · cases h0
  rw [if_pos ⟨hC.1, hC.2.1, hC.2.2.1, hC.2.2.2, h1⟩] at hinv
  obtain ⟨sg, hsg⟩ : ∃ sg : SegS, sg = ⟨decide ((k.toNat : Int) = 1), vA, vc, ns⟩ := ⟨_, rfl⟩
  repeat' (first | refine SW ?_ | refine SD ?_ | exact HO_seg rfl rfl | refine S1 ?_ | (refine S2 ?_; intro _) | (refine S3 ?_; intro _ _) | (refine S4 ?_; intro _ _ _) | (refine HO_g 2 rfl ?_; (first | apply HO_and rfl rfl rfl rfl rfl rfl rfl rfl rfl | apply HO_or rfl rfl rfl rfl rfl rfl rfl rfl rfl)) | refine S5 ?_ | (intro hb; try replace hb := simB hb; try exact kill hb))
  rename_i b9 A' c'
  have eL : path.length + 1 = (path ++ [sg]).length := by simp
  have eM : List.map SegS.e path ++ [[Value.bool (decide ((k.toNat : Int) = 1)), .slice vA ns.length vc]] = List.map SegS.e (path ++ [sg]) := by rw [hsg, List.map_append]; rfl
  have eS : segPs path ++ [arr iE 1 vA ns] = segPs (path ++ [sg]) := by rw [hsg]; unfold segPs; rw [List.map_append]; rfl
  have eP : spl (path ++ [sg]) = spl path ++ [(decide (k.toNat = 1), ns)] := by
    rw [hsg]
    unfold spl
    rw [List.map_append]
    have : decide ((k.toNat : Int) = 1) = decide (k.toNat = 1) := decide_eq_decide.2 (by omega)
    simp [this]
  rw [eL, eM]
  refine HX_keeps (rw' := [inn (segPs path), ownI vA vc ns, cel br TQ [.slice zA l.length zc, .bool false], arr bE 1 zA l, ownS A' c' (path ++ [sg])]) permA ?_
  refine HX_keeps (Keeps.cons Ent.rfl_ (Keeps.cons own_e Keeps.refl)) (HX_keeps (Keeps.inn_snoc Keeps.refl) ?_)
  rw [eS]
  refine HX_keeps (rw' := rqP br zA zc false l ++ segQ A' c' (path ++ [sg])) permA ?_
  refine HX_at ⟨false, zA, zc, l, A', c', path ++ [sg]⟩ ⟨⟨by simp; omega, by simp only; omega, hlz, ?_⟩, by simp only [List.length_cons]; omega⟩ ⟨rfl, rfl, rfl, trivial⟩ rfl
  rw [eP, h2, h3]
  exact hinv
theorem rcomms_bad (dA : Option Addr) (dc : Nat) (d : List UInt8) (hb : d.length = 0 ∨ d.length % 4 ≠ 0 ∨ 128 < d.length) :
    Tri Tryz.prog 109 [.slice dA d.length dc] [] [] (fun _ : Unit => True) (fun _ => .tuple #[.slice none 0 0, .bool false]) (fun _ => []) := by
  have hrem : bRem (d.length : Int) 4 = ((d.length % 4 : Nat) : Int) := by unfold bRem; rw [Int.tmod_eq_emod_of_nonneg (by omega)]; rfl
  refine Tri_of (N := Tryz.f109.ntmps) (c := bodyOf Tryz.f109) Tryz.func109 rfl rfl rfl rfl (fun w0 S0 => ?_)
  repeat' (first | refine SW ?_ | (with_reducible refine HO_rw (congrArg (Value.int .i64) hrem) ?_) | exact HO_seg rfl rfl | refine S1 ?_ | (refine S2 ?_; intro _) | (refine S3 ?_; intro _ _) | (refine S4 ?_; intro _ _ _) | (refine HO_g 2 rfl ?_; (first | apply HO_and rfl rfl rfl rfl rfl rfl rfl rfl rfl | apply HO_or rfl rfl rfl rfl rfl rfl rfl rfl rfl)) | refine S5 ?_ | (intro hb; try replace hb := simB hb; try exact kill hb))
  all_goals try exact false
  refine HC_cond rfl rfl (fun hc => ?_) (fun hc => by exfalso; simp only [Bool.or_eq_false_iff, decide_eq_false_iff_not, Bool.not_eq_false', decide_eq_true_eq] at hc; omega)
  repeat' (first | refine SW ?_ | exact HO_seg rfl rfl | refine S1 ?_ | (refine S2 ?_; intro _) | (refine S3 ?_; intro _ _) | (refine S4 ?_; intro _ _ _) | (refine HO_g 2 rfl ?_; (first | apply HO_and rfl rfl rfl rfl rfl rfl rfl rfl rfl | apply HO_or rfl rfl rfl rfl rfl rfl rfl rfl rfl)) | refine S5 ?_ | (intro hb; try replace hb := simB hb; try exact kill hb))
  ((first | apply HX_ret | apply HX_retn); (repeat (first | exact Res_nil | apply Res_tmp rfl | apply Res_ce rfl rfl rfl)); unfold RetQ; refine ⟨(), trivial, ?_, Keeps.nil⟩)
  rfl
set_option maxHeartbeats 8000000 in
theorem rcomms_ok (dA : Option Addr) (dc : Nat) (d : List UInt8) (hc : d.length ≤ dc) (m : Nat) (hm : d.length = 4 * m) (h1 : 1 ≤ m) (h32 : m ≤ 32) :
    Tri Tryz.prog 109 [.slice dA d.length dc] [arr bE 1 dA d] [] (fun _ : OA => True) (fun x => .tuple #[.slice x.1 (numsG 4 m d).length x.2, .bool true]) (fun x => [ownI x.1 x.2 (numsG 4 m d)]) := by
  have hrem : bRem (d.length : Int) 4 = 0 := by unfold bRem; rw [hm, Int.tmod_eq_emod_of_nonneg (by omega)]; omega
  refine Tri_of (N := Tryz.f109.ntmps) (c := bodyOf Tryz.f109) Tryz.func109 rfl rfl rfl rfl (fun w0 S0 => ?_)
  repeat' (first | refine SW ?_ | refine SD ?_ | exact HO_seg rfl rfl | refine S1 ?_ | (refine S2 ?_; intro _) | (refine S3 ?_; intro _ _) | (refine S4 ?_; intro _ _ _) | (refine HO_g 2 rfl ?_; (first | apply HO_and rfl rfl rfl rfl rfl rfl rfl rfl rfl | apply HO_or rfl rfl rfl rfl rfl rfl rfl rfl rfl)) | refine S5 ?_ | (intro hb; try replace hb := simB hb; try exact kill hb))
  refine HC_add (e := ownI none 0 []) (fun w => own_nil w) ?_
  refine HC_loop (α := Nat × OA) (fun x => x.1 ≤ m) (fun x => [(5, .int .i64 ((4 * x.1 : Nat) : Int)), (4, .slice x.2.1 (numsG 4 x.1 d).length x.2.2), (0, .slice dA d.length dc)]) (fun x => [ownI x.2.1 x.2.2 (numsG 4 x.1 d)]) (fun x => m - x.1) rfl (0, (none, 0)) (Nat.zero_le _) ⟨rfl, rfl, rfl, trivial⟩ rfl ?_
  intro ⟨j, ⟨xA, xc⟩⟩ hj
  dsimp only at hj ⊢
  have hnl := numsG_length 4 j d
  rcases Nat.lt_or_ge j m with hlt | hge
  · have h4 : 4 = ((d.drop (4 * j)).take 4).length := by simp; omega
    repeat' (first | refine SW ?_ | refine SD ?_ | (refine HO_k 12 rfl ?_; refine HO_callq rfl rfl rfl rfl (rget_t (cutA dA 1 dc (4 * j)) _ _ ((d.drop (4 * j)).take 4) (by simp; omega) (by omega)) (fun _ _ => rfl) (AllSrc.via 0 rfl (arr_cut _ _ _ (fun h => by omega)) trivial) rfl rfl sqA ?_) | exact HO_seg rfl rfl | refine S1 ?_ | (refine S2 ?_; intro _) | (refine S3 ?_; intro _ _) | (refine S4 ?_; intro _ _ _) | (refine HO_g 2 rfl ?_; (first | apply HO_and rfl rfl rfl rfl rfl rfl rfl rfl rfl | apply HO_or rfl rfl rfl rfl rfl rfl rfl rfl rfl)) | refine S5 ?_ | (intro hb; try replace hb := simB hb; try exact kill hb))
    rename_i b9 A' c'
    have eL : (numsG 4 j d).length + 1 = (numsG 4 (j + 1) d).length := by rw [numsG_length, numsG_length]
    have eM : List.map iE (numsG 4 j d) ++ [[Value.int .i64 (ge (List.take 4 (List.drop (4 * j) d)))]] = List.map iE (numsG 4 (j + 1) d) := by
      rw [numsG_snoc, List.map_append, Nat.mul_comm j 4]
      rfl
    have eJ : ((4 * j : Nat) : Int) + 4 = ((4 * (j + 1) : Nat) : Int) := by omega
    rw [eL, eM, eJ]
    refine HX_keeps (rw' := [ownI A' c' (numsG 4 (j + 1) d)]) permA ?_
    exact HX_at (j + 1, (A', c')) ⟨hlt, by simp only; omega⟩ ⟨rfl, rfl, rfl, trivial⟩ rfl
  · obtain rfl : j = m := by omega
    repeat' (first | refine SW ?_ | refine SD ?_ | exact HO_seg rfl rfl | refine S1 ?_ | (refine S2 ?_; intro _) | (refine S3 ?_; intro _ _) | (refine S4 ?_; intro _ _ _) | (refine HO_g 2 rfl ?_; (first | apply HO_and rfl rfl rfl rfl rfl rfl rfl rfl rfl | apply HO_or rfl rfl rfl rfl rfl rfl rfl rfl rfl)) | refine S5 ?_ | (intro hb; try replace hb := simB hb; try exact kill hb))
    ((first | apply HX_ret | apply HX_retn); (repeat (first | exact Res_nil | apply Res_tmp rfl | apply Res_ce rfl rfl rfl)); unfold RetQ; refine ⟨(xA, xc), trivial, rfl, permA⟩)
/-- all pieces of the reference's attributes under way -/
@[reducible] def attQ (b : Nat) (a : AttS) : List SL := [cel b 49 a.e, ownS a.pA a.pc a.path, inn (segPs a.path), ownI a.cA a.cc a.comms]
set_option maxHeartbeats 16000000 in
theorem rset_t (b : Nat) (a : AttS) (four : Bool) (k : Nat) (hk : k = 1 ∨ k = 2 ∨ k = 3 ∨ k = 4 ∨ k = 5 ∨ k = 8) (dA : Option Addr) (dc : Nat) (d : List UInt8) (hd : d.length ≤ 100000) (hdc : d.length ≤ dc) :
    Tri Tryz.prog 95 [pt b, .int .i64 k, .slice dA d.length dc, .bool four] [] (arr bE 1 dA d :: attQ b a) (fun a' : AttS => ∀ p, setG (szF four) a.pa k d = some p → a'.pa = p) (fun _ => .bool (setG (szF four) a.pa k d).isSome)
      (fun a' => attQ b a') := by
  rcases hk with rfl | rfl | hk | hk | hk | rfl
  · rcases d with _ | ⟨x, _ | ⟨y, d⟩⟩
    · have e : setG (szF four) a.pa 1 [] = none := by unfold setG; rw [if_pos rfl, if_pos (by simp)]
      rw [e]
      refine Tri_of (N := Tryz.f95.ntmps) (c := bodyOf Tryz.f95) Tryz.func95 rfl rfl rfl rfl (fun w0 S0 => ?_)
      dsimp only [pt, attQ, AttS.e]
      repeat' (first | refine SW ?_ | refine SD ?_ | exact HO_seg rfl rfl | refine S1 ?_ | (refine S2 ?_; intro _) | (refine S3 ?_; intro _ _) | (refine S4 ?_; intro _ _ _) | (refine HO_g 2 rfl ?_; (first | apply HO_and rfl rfl rfl rfl rfl rfl rfl rfl rfl | apply HO_or rfl rfl rfl rfl rfl rfl rfl rfl rfl)) | refine S5 ?_ | (intro hb; try replace hb := simB hb; try exact kill hb))
      ((first | apply HX_ret | apply HX_retn); (repeat (first | exact Res_nil | apply Res_tmp rfl | apply Res_ce rfl rfl rfl)); unfold RetQ; refine ⟨a, (fun p hp => by cases hp), rfl, permA⟩)
    · have hx := x.toNat_lt
      by_cases h2x : x.toNat ≤ 2
      · have e : setG (szF four) a.pa 1 [x] = some { a.pa with org := x.toNat } := by unfold setG; rw [if_pos rfl, if_neg (by simp [ge_one]; omega), ge_one]
        rw [e]
        refine Tri_of (N := Tryz.f95.ntmps) (c := bodyOf Tryz.f95) Tryz.func95 rfl rfl rfl rfl (fun w0 S0 => ?_)
        dsimp only [pt, attQ, AttS.e]
        repeat' (first | refine SW ?_ | refine SD ?_ | exact HO_seg rfl rfl | refine S1 ?_ | (refine S2 ?_; intro _) | (refine S3 ?_; intro _ _) | (refine S4 ?_; intro _ _ _) | (refine HO_g 2 rfl ?_; (first | apply HO_and rfl rfl rfl rfl rfl rfl rfl rfl rfl | apply HO_or rfl rfl rfl rfl rfl rfl rfl rfl rfl)) | refine S5 ?_ | (intro hb; try replace hb := simB hb; try exact kill hb))
        ((first | apply HX_ret | apply HX_retn); (repeat (first | exact Res_nil | apply Res_tmp rfl | apply Res_ce rfl rfl rfl)); unfold RetQ; refine ⟨{ a with org := x.toNat }, (fun p hp => by injection hp), rfl, permA⟩)
      · have e : setG (szF four) a.pa 1 [x] = none := by unfold setG; rw [if_pos rfl, if_pos (by simp [ge_one]; omega)]
        rw [e]
        refine Tri_of (N := Tryz.f95.ntmps) (c := bodyOf Tryz.f95) Tryz.func95 rfl rfl rfl rfl (fun w0 S0 => ?_)
        dsimp only [pt, attQ, AttS.e]
        repeat' (first | refine SW ?_ | refine SD ?_ | exact HO_seg rfl rfl | refine S1 ?_ | (refine S2 ?_; intro _) | (refine S3 ?_; intro _ _) | (refine S4 ?_; intro _ _ _) | (refine HO_g 2 rfl ?_; (first | apply HO_and rfl rfl rfl rfl rfl rfl rfl rfl rfl | apply HO_or rfl rfl rfl rfl rfl rfl rfl rfl rfl)) | refine S5 ?_ | (intro hb; try replace hb := simB hb; try exact kill hb))
        ((first | apply HX_ret | apply HX_retn); (repeat (first | exact Res_nil | apply Res_tmp rfl | apply Res_ce rfl rfl rfl)); unfold RetQ; refine ⟨a, (fun p hp => by cases hp), rfl, permA⟩)
    · have e : setG (szF four) a.pa 1 (x :: y :: d) = none := by unfold setG; rw [if_pos rfl, if_pos (by simp)]
      have hne : ¬ (((x :: y :: d).length : Nat) : Int) = 1 := by simp; omega
      rw [e]
      refine Tri_of (N := Tryz.f95.ntmps) (c := bodyOf Tryz.f95) Tryz.func95 rfl rfl rfl rfl (fun w0 S0 => ?_)
      dsimp only [pt, attQ, AttS.e]
      repeat' (first | refine SW ?_ | refine SD ?_ | exact HO_seg rfl rfl | refine S1 ?_ | (refine S2 ?_; intro _) | (refine S3 ?_; intro _ _) | (refine S4 ?_; intro _ _ _) | (refine HO_g 2 rfl ?_; (first | apply HO_and rfl rfl rfl rfl rfl rfl rfl rfl rfl | apply HO_or rfl rfl rfl rfl rfl rfl rfl rfl rfl)) | refine S5 ?_ | (intro hb; try replace hb := simB hb; try exact kill hb))
      ((first | apply HX_ret | apply HX_retn); (repeat (first | exact Res_nil | apply Res_tmp rfl | apply Res_ce rfl rfl rfl)); unfold RetQ; refine ⟨a, (fun p hp => by cases hp), rfl, permA⟩)
  · have hs := rpath_t four dA dc d hd hdc
    have e1 : setG (szF four) a.pa 2 d = match segsR (szF four) [] d with
        | none => none
        | some p => some { a.pa with path := p } := by
      unfold setG segsR
      rw [if_neg (by decide), if_pos rfl]
      rfl
    obtain ⟨res, hres⟩ : ∃ res, segsR (szF four) [] d = res := ⟨_, rfl⟩
    rw [hres] at hs e1
    have e2 : (setG (szF four) a.pa 2 d).isSome = res.isSome := by rw [e1]; cases res <;> rfl
    rw [e2]
    refine Tri_of (N := Tryz.f95.ntmps) (c := bodyOf Tryz.f95) Tryz.func95 rfl rfl rfl rfl (fun w0 S0 => ?_)
    dsimp only [pt, attQ, AttS.e]
    repeat' (first | refine SW ?_ | refine SD ?_ | (refine HO_k 12 rfl ?_; refine HO_call rfl rfl rfl rfl (hs) rfl (trivial) rfl rfl soA ?_; intro ⟨⟨xA, xc⟩, xl⟩ hx; dsimp only [segQ, List.cons_append, List.nil_append]) | exact HO_seg rfl rfl | refine S1 ?_ | (refine S2 ?_; intro _) | (refine S3 ?_; intro _ _) | (refine S4 ?_; intro _ _ _) | (refine HO_g 2 rfl ?_; (first | apply HO_and rfl rfl rfl rfl rfl rfl rfl rfl rfl | apply HO_or rfl rfl rfl rfl rfl rfl rfl rfl rfl)) | refine S5 ?_ | (intro hb; try replace hb := simB hb; try exact kill hb))
    ((first | apply HX_ret | apply HX_retn); (repeat (first | exact Res_nil | apply Res_tmp rfl | apply Res_ce rfl rfl rfl)); unfold RetQ; refine ⟨{ a with pA := xA, pc := xc, path := xl }, (fun p hq => by
      rw [e1] at hq
      cases res with
      | none => cases hq
      | some q =>
        injection hq with hq
        rw [← hq]
        unfold AttS.pa
        rw [hx q rfl]), rfl, permA⟩)
  · by_cases hl : d.length = 4
    · have h4 := ge_four hl
      by_cases h0 : ge d = 0
      · have e : setG (szF four) a.pa k d = none := by
          unfold setG
          rw [if_neg (by omega), if_neg (by omega), if_neg (by omega), if_neg (by omega), if_pos hk, if_pos h0]
        rw [e]
        subst hk
        have hz : (ge d : Int) = 0 := by omega
        refine Tri_of (N := Tryz.f95.ntmps) (c := bodyOf Tryz.f95) Tryz.func95 rfl rfl rfl rfl (fun w0 S0 => ?_)
        dsimp only [pt, attQ, AttS.e]
        repeat' (first | refine SW ?_ | refine SD ?_ | (refine HO_k 12 rfl ?_; refine HO_callq rfl rfl rfl rfl (rget_t dA d.length dc d rfl (by omega)) (fun _ _ => rfl) (srcsA) rfl rfl sqA ?_) | exact HO_seg rfl rfl | refine S1 ?_ | (refine S2 ?_; intro _) | (refine S3 ?_; intro _ _) | (refine S4 ?_; intro _ _ _) | (refine HO_g 2 rfl ?_; (first | apply HO_and rfl rfl rfl rfl rfl rfl rfl rfl rfl | apply HO_or rfl rfl rfl rfl rfl rfl rfl rfl rfl)) | refine S5 ?_ | (intro hb; try replace hb := simB hb; try exact kill hb))
        ((first | apply HX_ret | apply HX_retn); (repeat (first | exact Res_nil | apply Res_tmp rfl | apply Res_ce rfl rfl rfl)); unfold RetQ; refine ⟨{ a with nxt := ge d }, (fun p hp => by cases hp), rfl, permA⟩)
      · have e : setG (szF four) a.pa k d = some { a.pa with nxt := ge d } := by
          unfold setG
          rw [if_neg (by omega), if_neg (by omega), if_neg (by omega), if_neg (by omega), if_pos hk, if_neg h0]
        rw [e]
        subst hk
        have hz : ¬ (ge d : Int) = 0 := by omega
        refine Tri_of (N := Tryz.f95.ntmps) (c := bodyOf Tryz.f95) Tryz.func95 rfl rfl rfl rfl (fun w0 S0 => ?_)
        dsimp only [pt, attQ, AttS.e]
        repeat' (first | refine SW ?_ | refine SD ?_ | (refine HO_k 12 rfl ?_; refine HO_callq rfl rfl rfl rfl (rget_t dA d.length dc d rfl (by omega)) (fun _ _ => rfl) (srcsA) rfl rfl sqA ?_) | exact HO_seg rfl rfl | refine S1 ?_ | (refine S2 ?_; intro _) | (refine S3 ?_; intro _ _) | (refine S4 ?_; intro _ _ _) | (refine HO_g 2 rfl ?_; (first | apply HO_and rfl rfl rfl rfl rfl rfl rfl rfl rfl | apply HO_or rfl rfl rfl rfl rfl rfl rfl rfl rfl)) | refine S5 ?_ | (intro hb; try replace hb := simB hb; try exact kill hb))
        ((first | apply HX_ret | apply HX_retn); (repeat (first | exact Res_nil | apply Res_tmp rfl | apply Res_ce rfl rfl rfl)); unfold RetQ; refine ⟨{ a with nxt := ge d }, (fun p hp => by injection hp), rfl, permA⟩)
    · have e : setG (szF four) a.pa k d = none := by
        unfold setG
        rw [if_neg (by omega), if_neg (by omega), if_neg (by omega), if_pos hl]
      rw [e]
      subst hk
      refine Tri_of (N := Tryz.f95.ntmps) (c := bodyOf Tryz.f95) Tryz.func95 rfl rfl rfl rfl (fun w0 S0 => ?_)
      dsimp only [pt, attQ, AttS.e]
      repeat' (first | refine SW ?_ | refine SD ?_ | exact HO_seg rfl rfl | refine S1 ?_ | (refine S2 ?_; intro _) | (refine S3 ?_; intro _ _) | (refine S4 ?_; intro _ _ _) | (refine HO_g 2 rfl ?_; (first | apply HO_and rfl rfl rfl rfl rfl rfl rfl rfl rfl | apply HO_or rfl rfl rfl rfl rfl rfl rfl rfl rfl)) | refine S5 ?_ | (intro hb; try replace hb := simB hb; try exact kill hb))
      ((first | apply HX_ret | apply HX_retn); (repeat (first | exact Res_nil | apply Res_tmp rfl | apply Res_ce rfl rfl rfl)); unfold RetQ; refine ⟨a, (fun p hp => by cases hp), rfl, permA⟩)
  · by_cases hl : d.length = 4
    · have h4 := ge_four hl
      have e : setG (szF four) a.pa k d = some { a.pa with med := ge d } := by
        unfold setG
        rw [if_neg (by omega), if_neg (by omega), if_neg (by omega), if_neg (by omega), if_neg (by omega), if_pos hk]
      rw [e]
      subst hk
      refine Tri_of (N := Tryz.f95.ntmps) (c := bodyOf Tryz.f95) Tryz.func95 rfl rfl rfl rfl (fun w0 S0 => ?_)
      dsimp only [pt, attQ, AttS.e]
      repeat' (first | refine SW ?_ | refine SD ?_ | (refine HO_k 12 rfl ?_; refine HO_callq rfl rfl rfl rfl (rget_t dA d.length dc d rfl (by omega)) (fun _ _ => rfl) (srcsA) rfl rfl sqA ?_) | exact HO_seg rfl rfl | refine S1 ?_ | (refine S2 ?_; intro _) | (refine S3 ?_; intro _ _) | (refine S4 ?_; intro _ _ _) | (refine HO_g 2 rfl ?_; (first | apply HO_and rfl rfl rfl rfl rfl rfl rfl rfl rfl | apply HO_or rfl rfl rfl rfl rfl rfl rfl rfl rfl)) | refine S5 ?_ | (intro hb; try replace hb := simB hb; try exact kill hb))
      ((first | apply HX_ret | apply HX_retn); (repeat (first | exact Res_nil | apply Res_tmp rfl | apply Res_ce rfl rfl rfl)); unfold RetQ; refine ⟨{ a with med := ge d }, (fun p hp => by injection hp), rfl, permA⟩)
    · have e : setG (szF four) a.pa k d = none := by
        unfold setG
        rw [if_neg (by omega), if_neg (by omega), if_neg (by omega), if_pos hl]
      rw [e]
      subst hk
      refine Tri_of (N := Tryz.f95.ntmps) (c := bodyOf Tryz.f95) Tryz.func95 rfl rfl rfl rfl (fun w0 S0 => ?_)
      dsimp only [pt, attQ, AttS.e]
      repeat' (first | refine SW ?_ | refine SD ?_ | exact HO_seg rfl rfl | refine S1 ?_ | (refine S2 ?_; intro _) | (refine S3 ?_; intro _ _) | (refine S4 ?_; intro _ _ _) | (refine HO_g 2 rfl ?_; (first | apply HO_and rfl rfl rfl rfl rfl rfl rfl rfl rfl | apply HO_or rfl rfl rfl rfl rfl rfl rfl rfl rfl)) | refine S5 ?_ | (intro hb; try replace hb := simB hb; try exact kill hb))
      ((first | apply HX_ret | apply HX_retn); (repeat (first | exact Res_nil | apply Res_tmp rfl | apply Res_ce rfl rfl rfl)); unfold RetQ; refine ⟨a, (fun p hp => by cases hp), rfl, permA⟩)
  · by_cases hl : d.length = 4
    · have h4 := ge_four hl
      have e : setG (szF four) a.pa k d = some { a.pa with pref := ge d } := by
        unfold setG
        rw [if_neg (by omega), if_neg (by omega), if_neg (by omega), if_neg (by omega), if_neg (by omega), if_neg (by omega)]
      rw [e]
      subst hk
      refine Tri_of (N := Tryz.f95.ntmps) (c := bodyOf Tryz.f95) Tryz.func95 rfl rfl rfl rfl (fun w0 S0 => ?_)
      dsimp only [pt, attQ, AttS.e]
      repeat' (first | refine SW ?_ | refine SD ?_ | (refine HO_k 12 rfl ?_; refine HO_callq rfl rfl rfl rfl (rget_t dA d.length dc d rfl (by omega)) (fun _ _ => rfl) (srcsA) rfl rfl sqA ?_) | exact HO_seg rfl rfl | refine S1 ?_ | (refine S2 ?_; intro _) | (refine S3 ?_; intro _ _) | (refine S4 ?_; intro _ _ _) | (refine HO_g 2 rfl ?_; (first | apply HO_and rfl rfl rfl rfl rfl rfl rfl rfl rfl | apply HO_or rfl rfl rfl rfl rfl rfl rfl rfl rfl)) | refine S5 ?_ | (intro hb; try replace hb := simB hb; try exact kill hb))
      ((first | apply HX_ret | apply HX_retn); (repeat (first | exact Res_nil | apply Res_tmp rfl | apply Res_ce rfl rfl rfl)); unfold RetQ; refine ⟨{ a with pref := ge d }, (fun p hp => by injection hp), rfl, permA⟩)
    · have e : setG (szF four) a.pa k d = none := by
        unfold setG
        rw [if_neg (by omega), if_neg (by omega), if_neg (by omega), if_pos hl]
      rw [e]
      subst hk
      refine Tri_of (N := Tryz.f95.ntmps) (c := bodyOf Tryz.f95) Tryz.func95 rfl rfl rfl rfl (fun w0 S0 => ?_)
      dsimp only [pt, attQ, AttS.e]
      repeat' (first | refine SW ?_ | refine SD ?_ | exact HO_seg rfl rfl | refine S1 ?_ | (refine S2 ?_; intro _) | (refine S3 ?_; intro _ _) | (refine S4 ?_; intro _ _ _) | (refine HO_g 2 rfl ?_; (first | apply HO_and rfl rfl rfl rfl rfl rfl rfl rfl rfl | apply HO_or rfl rfl rfl rfl rfl rfl rfl rfl rfl)) | refine S5 ?_ | (intro hb; try replace hb := simB hb; try exact kill hb))
      ((first | apply HX_ret | apply HX_retn); (repeat (first | exact Res_nil | apply Res_tmp rfl | apply Res_ce rfl rfl rfl)); unfold RetQ; refine ⟨a, (fun p hp => by cases hp), rfl, permA⟩)
  · by_cases hb : d.length = 0 ∨ d.length % 4 ≠ 0 ∨ 128 < d.length
    · have e : setG (szF four) a.pa 8 d = none := by unfold setG; rw [if_neg (by decide), if_neg (by decide), if_pos rfl, if_pos hb]
      rw [e]
      refine Tri_of (N := Tryz.f95.ntmps) (c := bodyOf Tryz.f95) Tryz.func95 rfl rfl rfl rfl (fun w0 S0 => ?_)
      dsimp only [pt, attQ, AttS.e]
      repeat' (first | refine SW ?_ | refine SD ?_ | (refine HO_k 12 rfl ?_; refine HO_callq rfl rfl rfl rfl (rcomms_bad dA dc d hb) (fun _ _ => rfl) (trivial) rfl rfl sqA ?_) | exact HO_seg rfl rfl | refine S1 ?_ | (refine S2 ?_; intro _) | (refine S3 ?_; intro _ _) | (refine S4 ?_; intro _ _ _) | (refine HO_g 2 rfl ?_; (first | apply HO_and rfl rfl rfl rfl rfl rfl rfl rfl rfl | apply HO_or rfl rfl rfl rfl rfl rfl rfl rfl rfl)) | refine S5 ?_ | (intro hb; try replace hb := simB hb; try exact kill hb))
      refine HX_keeps (Keeps.add (e := ownI none 0 []) (fun w => own_nil w) Keeps.refl) ?_
      ((first | apply HX_ret | apply HX_retn); (repeat (first | exact Res_nil | apply Res_tmp rfl | apply Res_ce rfl rfl rfl)); unfold RetQ; refine ⟨{ a with cA := none, cc := 0, comms := [] }, (fun p hp => by cases hp), rfl, permA⟩)
    · have e : setG (szF four) a.pa 8 d = some { a.pa with comms := numsG 4 (d.length / 4) d } := by unfold setG; rw [if_neg (by decide), if_neg (by decide), if_pos rfl, if_neg hb]
      have hcm := rcomms_ok dA dc d hdc (d.length / 4) (by omega) (by omega) (by omega)
      rw [e]
      refine Tri_of (N := Tryz.f95.ntmps) (c := bodyOf Tryz.f95) Tryz.func95 rfl rfl rfl rfl (fun w0 S0 => ?_)
      dsimp only [pt, attQ, AttS.e]
      repeat' (first | refine SW ?_ | refine SD ?_ | (refine HO_k 12 rfl ?_; refine HO_call rfl rfl rfl rfl (hcm) rfl (srcsA) rfl rfl soA ?_; intro ⟨xA, xc⟩ hx; dsimp only [List.cons_append, List.nil_append]) | exact HO_seg rfl rfl | refine S1 ?_ | (refine S2 ?_; intro _) | (refine S3 ?_; intro _ _) | (refine S4 ?_; intro _ _ _) | (refine HO_g 2 rfl ?_; (first | apply HO_and rfl rfl rfl rfl rfl rfl rfl rfl rfl | apply HO_or rfl rfl rfl rfl rfl rfl rfl rfl rfl)) | refine S5 ?_ | (intro hb; try replace hb := simB hb; try exact kill hb))
      ((first | apply HX_ret | apply HX_retn); (repeat (first | exact Res_nil | apply Res_tmp rfl | apply Res_ce rfl rfl rfl)); unfold RetQ; refine ⟨{ a with cA := xA, cc := xc, comms := numsG 4 (d.length / 4) d }, (fun p hp => by injection hp), rfl, permA⟩)
theorem rnumS_t (b : Nat) (A : Option Addr) (c : Nat) (l : List UInt8) (q : Nat) (hq : 1 ≤ q ∧ q ≤ 4) (h : l.length < q) (hc : l.length ≤ c) :
    Tri Tryz.prog 44 [pt b, .int .i64 q] [] (rqP b A c false l) (fun x : OA => l.length ≤ x.2) (fun _ => .int .i64 0) (fun x => rqP b x.1 x.2 true l) := by
  have := rnum_t b A c false l q (by omega) (by omega) hc
  rw [rdB_short h] at this
  exact this
theorem rnumL_t (b : Nat) (A : Option Addr) (c : Nat) (l : List UInt8) (q : Nat) (hq : 1 ≤ q ∧ q ≤ 4) (h : q ≤ l.length) (hb : l.length ≤ 100000) (hc : l.length ≤ c) :
    Tri Tryz.prog 44 [pt b, .int .i64 q] [] (rqP b A c false l) (fun x : OA => (l.drop q).length ≤ x.2) (fun _ => .int .i64 (ge (l.take q))) (fun x => rqP b x.1 x.2 false (l.drop q)) := by
  have := rnum_t b A c false l q (by omega) (by omega) hc
  rw [rdB_long h] at this
  exact this
theorem rnumB_t (b : Nat) (A : Option Addr) (c : Nat) (l : List UInt8) (q : Nat) (hq : 1 ≤ q ∧ q ≤ 4) (hb : l.length ≤ 100000) (hc : l.length ≤ c) :
    Tri Tryz.prog 44 [pt b, .int .i64 q] [] (rqP b A c true l) (fun x : OA => l.length ≤ x.2) (fun _ => .int .i64 0) (fun x => rqP b x.1 x.2 true l) := by
  have := rnum_t b A c true l q (by omega) (by omega) hc
  rw [rdB_bad] at this
  exact this
theorem rbytesB_t (b : Nat) (A : Option Addr) (c : Nat) (l : List UInt8) (n : Int) (hb : l.length ≤ 100000) (hc : l.length ≤ c) :
    Tri Tryz.prog 45 [pt b, .int .i64 n] [] (rqP b A c true l) (fun x : OA × OA => 0 ≤ x.1.2 ∧ l.length ≤ x.2.2) (fun x => .slice x.1.1 0 x.1.2) (fun x => ownB x.1 [] :: rqP b x.2.1 x.2.2 true l) := by
  have := rbytes_t b A c true l n (by omega) hc
  rw [rdB_bad] at this
  exact this
theorem rbytesS_t (b : Nat) (A : Option Addr) (c : Nat) (l : List UInt8) (n : Nat) (h : l.length < n) (hb : l.length ≤ 100000) (hc : l.length ≤ c) :
    Tri Tryz.prog 45 [pt b, .int .i64 n] [] (rqP b A c false l) (fun x : OA × OA => 0 ≤ x.1.2 ∧ l.length ≤ x.2.2) (fun x => .slice x.1.1 0 x.1.2) (fun x => ownB x.1 [] :: rqP b x.2.1 x.2.2 true l) := by
  have := rbytes_t b A c false l n (by omega) hc
  rw [rdB_short h] at this
  exact this
theorem rbytesL_t (b : Nat) (A : Option Addr) (c : Nat) (l : List UInt8) (n : Nat) (h : n ≤ l.length) (hb : l.length ≤ 100000) (hc : l.length ≤ c) :
    Tri Tryz.prog 45 [pt b, .int .i64 n] [] (rqP b A c false l) (fun x : OA × OA => (l.take n).length ≤ x.1.2 ∧ (l.drop n).length ≤ x.2.2) (fun x => .slice x.1.1 (l.take n).length x.1.2) (fun x => ownB x.1 (l.take n) :: rqP b x.2.1 x.2.2 false (l.drop n)) := by
  have := rbytes_t b A c false l n (by omega) hc
  rw [rdB_long h] at this
  exact this
theorem rquo16 : ∀ f, f < 256 → bQuo .i64 (f : Nat) 16 = ((f / 16 : Nat) : Int) := by decide +kernel
theorem rquo32 : ∀ f, f < 256 → bQuo .i64 (f : Nat) 32 = ((f / 32 : Nat) : Int) := by decide +kernel
theorem rrem2 (n : Nat) : bRem ((n / 16 : Nat) : Int) 2 = ((n / 16 % 2 : Nat) : Int) := by
  unfold bRem
  rw [Int.tmod_eq_emod_of_nonneg (by omega)]
  rfl
def bL (b : Bool) : List Value := [.bool b]
instance : EncOk bL 1 := ⟨fun _ => ⟨rfl, rfl⟩⟩
@[irreducible] def bitsL (s : Nat) : List Bool := (List.range 256).map s.testBit
theorem bits_len (s : Nat) : (bitsL s).length = 256 := by unfold bitsL; simp
theorem bits_at (s k : Nat) (h : k < 256) : (bitsL s)[k]? = some (s.testBit k) := by
  unfold bitsL
  rw [List.getElem?_map, List.getElem?_range h]
  rfl
theorem bits_set (s k : Nat) (h : k < 256) : (List.map bL (bitsL s)).set k [Value.bool true] = List.map bL (bitsL (s ||| 2 ^ k)) := by
  refine List.ext_getElem? fun i => ?_
  rw [List.getElem?_set, List.getElem?_map, List.length_map, bits_len]
  by_cases hi : k = i
  · subst hi
    rw [if_pos rfl, if_pos h, List.getElem?_map, bits_at _ _ h, Nat.testBit_or, Nat.testBit_two_pow_self, Bool.or_true]
    rfl
  · rw [if_neg hi, List.getElem?_map]
    by_cases h2 : i < 256
    · rw [bits_at _ _ h2, bits_at _ _ h2, Nat.testBit_or, Nat.testBit_two_pow_of_ne hi, Bool.or_false]
    · rw [List.getElem?_eq_none (by rw [bits_len]; omega), List.getElem?_eq_none (by rw [bits_len]; omega)]
theorem bits_zero : List.replicate 256 [Value.bool false] = List.map bL (bitsL 0) := by
  refine List.ext_getElem? fun i => ?_
  rw [List.getElem?_map, List.getElem?_replicate]
  by_cases h2 : i < 256
  · rw [bits_at _ _ h2, if_pos h2, Nat.zero_testBit]
    rfl
  · rw [List.getElem?_eq_none (by rw [bits_len]; omega), if_neg h2]
    rfl
theorem HC_know {P : Program} {N : Nat} {w0 : World} {S0 : Foot} {c : Code} {env : Env} {ro rw : List SL} {C : Prop} {Q : Exit → Act → World → Prop} (hC : ∀ w, RoOk (ro ++ rw) w → C) (h : C → HC P N w0 S0 c env ro rw Q) : HC P N w0 S0 c env ro rw Q := by
  unfold HC at h ⊢
  exact fun a S w ha hf => h (hC w hf.roOk) a S w ha hf
def finG : Option GS → PA × Int
  | none => (pz, 3)
  | some s => if mustB s.seen = true then (s.a, 1) else (pz, 2)
set_option maxHeartbeats 16000000 in
set_option maxRecDepth 100000 in
theorem rget5_t (four : Bool) (dA : Option Addr) (dc : Nat) (d : List UInt8) (hd : d.length ≤ 100000) :
    Tri Tryz.prog 73 [.slice dA d.length dc, .bool four] [arr bE 1 dA d] [] (fun a : AttS => a.pa = (getG (szF four) d).1) (fun a => .tuple #[.agg a.e.toArray, .int .i64 (getG (szF four) d).2]) (fun a => a.ro) := by
  obtain ⟨res, hres⟩ : ∃ res, allR (szF four) ⟨a0.pa, 0⟩ d = res := ⟨_, rfl⟩
  have hg : getG (szF four) d = finG res := by
    have h : allR (szF four) ⟨p0, 0⟩ d = res := hres
    rw [getG_eq, h]
    cases res <;> rfl
  rw [hg]
  clear hg
  have bz := bits_zero
  refine Tri_of (N := Tryz.f73.ntmps) (c := bodyOf Tryz.f73) Tryz.func73 rfl rfl rfl rfl (fun w0 S0 => ?_)
  repeat' (first | refine SW ?_ | refine SD ?_ | exact HO_seg rfl rfl | refine S1 ?_ | (refine S2 ?_; intro _) | (refine S3 ?_; intro _ _) | (refine S4 ?_; intro _ _ _) | (refine HO_g 2 rfl ?_; (first | apply HO_and rfl rfl rfl rfl rfl rfl rfl rfl rfl | apply HO_or rfl rfl rfl rfl rfl rfl rfl rfl rfl)) | refine S5 ?_ | (intro hb; try replace hb := simB hb; try exact kill hb))
  rename_i b4 b6 b7 bs A' c' br
  rw [show 0 + d.length = d.length from Nat.zero_add _, List.nil_append, show Int.toNat 256 = 256 from rfl, bits_zero]
  refine HC_know (C := d.length ≤ c') (fun w h => own_cap 2 rfl h) (fun hc' => ?_)
  refine HC_keeps (Keeps.cons Ent.rfl_ (Keeps.cons own_e Keeps.refl)) (HC_keeps (Keeps.add (e := ownI none 0 []) (fun w => own_nil w) (Keeps.add (e := inn []) inn_nil (Keeps.add (e := ownS none 0 []) (fun w => own_nil w) Keeps.refl))) ?_)
  refine HC_keeps (rw' := rqP br A' c' false d ++ [own idE 4 1 (some ⟨b7, 0, none⟩) 256 256 (List.map bL (bitsL (0))), cel b4 49 az.e] ++ attQ b6 a0) permA ?_
  refine HC_loop (α := AlI) (fun x => x.l.length ≤ d.length ∧ x.l.length ≤ x.rc ∧ allR (szF four) ⟨x.a.pa, x.seen⟩ x.l = res) (fun _ => [(8, pt br), (7, .slice (some ⟨b7, 0, none⟩) 256 256), (6, pt b6), (4, pt b4), (1, .bool four)])
    (fun x => rqP br x.rA x.rc false x.l ++ [own idE 4 1 (some ⟨b7, 0, none⟩) 256 256 (List.map bL (bitsL (x.seen))), cel b4 49 az.e] ++ attQ b6 x.a) (fun x => x.l.length) rfl ⟨A', c', d, a0, 0⟩ ⟨Nat.le_refl _, hc', hres⟩ ⟨rfl, rfl, rfl, rfl, rfl, trivial⟩ rfl ?_
  clear hres
  intro ⟨rA, rc, l, a, seen⟩ ⟨hld, hlc, hres⟩
  dsimp only [rqP, attQ, pt, AttS.e, az, List.cons_append, List.nil_append] at hld hlc hres ⊢
  have hlen : 256 = (List.map bL (bitsL seen)).length := by rw [List.length_map, bits_len]
  rcases l with _ | ⟨f, l1⟩
  · rw [allR_nil] at hres
    subst hres
    have hb1 := bits_at seen 1 (by decide)
    have hb2 := bits_at seen 2 (by decide)
    have hb3 := bits_at seen 3 (by decide)
    cases h1 : seen.testBit 1
    · have hfin : finG (some ⟨a.pa, seen⟩) = (pz, 2) := by simp [finG, mustB, h1]
      rw [hfin]
      rw [h1] at hb1
      repeat' (first | refine SW ?_ | refine SD ?_ | (refine HO_k 12 rfl ?_; refine HO_callq rfl rfl rfl rfl (rleftF_t _ _ _ _) (fun _ _ => rfl) (srcsA) rfl rfl sqA ?_) | exact HO_seg rfl rfl | refine S1 ?_ | (refine S2 ?_; intro _) | (refine S3 ?_; intro _ _) | (refine S4 ?_; intro _ _ _) | (refine HO_g 2 rfl ?_; (first | apply HO_and rfl rfl rfl rfl rfl rfl rfl rfl rfl | apply HO_or rfl rfl rfl rfl rfl rfl rfl rfl rfl)) | refine S5 ?_ | (intro hb; try replace hb := simB hb; try exact kill hb))
      ((first | apply HX_ret | apply HX_retn); (repeat (first | exact Res_nil | apply Res_tmp rfl | apply Res_ce rfl rfl rfl)); unfold RetQ; refine ⟨az, rfl, rfl, az_keeps⟩)
    cases h2 : seen.testBit 2
    · have hfin : finG (some ⟨a.pa, seen⟩) = (pz, 2) := by simp [finG, mustB, h1, h2]
      rw [hfin]
      rw [h1] at hb1
      rw [h2] at hb2
      repeat' (first | refine SW ?_ | refine SD ?_ | (refine HO_k 12 rfl ?_; refine HO_callq rfl rfl rfl rfl (rleftF_t _ _ _ _) (fun _ _ => rfl) (srcsA) rfl rfl sqA ?_) | exact HO_seg rfl rfl | refine S1 ?_ | (refine S2 ?_; intro _) | (refine S3 ?_; intro _ _) | (refine S4 ?_; intro _ _ _) | (refine HO_g 2 rfl ?_; (first | apply HO_and rfl rfl rfl rfl rfl rfl rfl rfl rfl | apply HO_or rfl rfl rfl rfl rfl rfl rfl rfl rfl)) | refine S5 ?_ | (intro hb; try replace hb := simB hb; try exact kill hb))
      ((first | apply HX_ret | apply HX_retn); (repeat (first | exact Res_nil | apply Res_tmp rfl | apply Res_ce rfl rfl rfl)); unfold RetQ; refine ⟨az, rfl, rfl, az_keeps⟩)
    cases h3 : seen.testBit 3
    · have hfin : finG (some ⟨a.pa, seen⟩) = (pz, 2) := by simp [finG, mustB, h1, h2, h3]
      rw [hfin]
      rw [h1] at hb1
      rw [h2] at hb2
      rw [h3] at hb3
      repeat' (first | refine SW ?_ | refine SD ?_ | (refine HO_k 12 rfl ?_; refine HO_callq rfl rfl rfl rfl (rleftF_t _ _ _ _) (fun _ _ => rfl) (srcsA) rfl rfl sqA ?_) | exact HO_seg rfl rfl | refine S1 ?_ | (refine S2 ?_; intro _) | (refine S3 ?_; intro _ _) | (refine S4 ?_; intro _ _ _) | (refine HO_g 2 rfl ?_; (first | apply HO_and rfl rfl rfl rfl rfl rfl rfl rfl rfl | apply HO_or rfl rfl rfl rfl rfl rfl rfl rfl rfl)) | refine S5 ?_ | (intro hb; try replace hb := simB hb; try exact kill hb))
      ((first | apply HX_ret | apply HX_retn); (repeat (first | exact Res_nil | apply Res_tmp rfl | apply Res_ce rfl rfl rfl)); unfold RetQ; refine ⟨az, rfl, rfl, az_keeps⟩)
    have hfin : finG (some ⟨a.pa, seen⟩) = (a.pa, 1) := by simp [finG, mustB, h1, h2, h3]
    rw [hfin]
    rw [h1] at hb1
    rw [h2] at hb2
    rw [h3] at hb3
    repeat' (first | refine SW ?_ | refine SD ?_ | (refine HO_k 12 rfl ?_; refine HO_callq rfl rfl rfl rfl (rleftF_t _ _ _ _) (fun _ _ => rfl) (srcsA) rfl rfl sqA ?_) | exact HO_seg rfl rfl | refine S1 ?_ | (refine S2 ?_; intro _) | (refine S3 ?_; intro _ _) | (refine S4 ?_; intro _ _ _) | (refine HO_g 2 rfl ?_; (first | apply HO_and rfl rfl rfl rfl rfl rfl rfl rfl rfl | apply HO_or rfl rfl rfl rfl rfl rfl rfl rfl rfl)) | refine S5 ?_ | (intro hb; try replace hb := simB hb; try exact kill hb))
    ((first | apply HX_ret | apply HX_retn); (repeat (first | exact Res_nil | apply Res_tmp rfl | apply Res_ce rfl rfl rfl)); unfold RetQ; refine ⟨a, rfl, rfl, Keeps.skip (Keeps.skip (Keeps.skip (Keeps.skip (Keeps.skip (Keeps.swap (Keeps.cons Ent.rfl_ (Keeps.cons own_e (Keeps.cons own_e Keeps.nil))))))))⟩)
  have hf := f.toNat_lt
  simp only [List.length_cons] at hld hlc
  have hlp : 0 < (((f :: l1).length : Nat) : Int) := by simp only [List.length_cons]; omega
  rw [allR_cons _ _ _ (by simp)] at hres
  have h16 := rquo16 f.toNat hf
  have hr2 := rrem2 f.toNat
  have h32 := rquo32 f.toNat hf
  have hq : 1 ≤ 1 + f.toNat / 16 % 2 ∧ 1 + f.toNat / 16 % 2 ≤ 4 := by omega
  have e16 : (1 + ((f.toNat / 16 % 2 : Nat) : Int)) = ((1 + f.toNat / 16 % 2 : Nat) : Int) := by omega
  rcases l1 with _ | ⟨k, l2⟩
  · have hres : none = res := hres
    subst hres
    repeat' (first | refine SW ?_ | refine SD ?_ | (with_reducible refine HO_rw (congrArg (Value.int .i64) h16) ?_) | (with_reducible refine HO_rw (congrArg (Value.int .i64) hr2) ?_) | (with_reducible refine HO_rw (congrArg (Value.int .i64) e16) ?_) | (with_reducible refine HO_rw (congrArg (Value.int .i64) h32) ?_) | (refine HO_k 12 rfl ?_; refine HO_callq rfl rfl rfl rfl (rleftF_t _ _ _ _) (fun _ _ => rfl) (srcsA) rfl rfl sqA ?_) | (refine HO_k 12 rfl ?_; refine HO_call rfl rfl rfl rfl (rnum1_t br rA rc f [] (by simp) (by simpa using hlc)) rfl (trivial) rfl rfl soA ?_; intro ⟨xA, xc⟩ hx1; dsimp only [rqP, pt, List.cons_append, List.nil_append]) | (refine HO_k 12 rfl ?_; refine HO_call rfl rfl rfl rfl (rnum0_t br xA xc) rfl (trivial) rfl rfl soA ?_; intro ⟨yA, yc⟩ hy1; dsimp only [rqP, pt, List.cons_append, List.nil_append]) | (refine HO_k 12 rfl ?_; refine HO_call rfl rfl rfl rfl (rnumB_t br yA yc [] _ hq (by simp) hy1) rfl (trivial) rfl rfl soA ?_; intro ⟨zA, zc⟩ hz1; dsimp only [rqP, pt, List.cons_append, List.nil_append]) | (refine HO_k 12 rfl ?_; refine HO_call rfl rfl rfl rfl (rbytesB_t br zA zc [] 0 (by simp) hz1) rfl (trivial) rfl rfl soA ?_; intro ⟨⟨uA, uc⟩, ⟨vA, vc⟩⟩ hu1; dsimp only [rqP, pt, List.cons_append, List.nil_append]) | exact HO_seg rfl rfl | refine S1 ?_ | (refine S2 ?_; intro _) | (refine S3 ?_; intro _ _) | (refine S4 ?_; intro _ _ _) | (refine HO_g 2 rfl ?_; (first | apply HO_and rfl rfl rfl rfl rfl rfl rfl rfl rfl | apply HO_or rfl rfl rfl rfl rfl rfl rfl rfl rfl)) | refine S5 ?_ | (intro hb; try replace hb := simB hb; try exact kill hb))
    ((first | apply HX_ret | apply HX_retn); (repeat (first | exact Res_nil | apply Res_tmp rfl | apply Res_ce rfl rfl rfl)); unfold RetQ; refine ⟨az, rfl, rfl, az_keeps⟩)
  have hk := k.toNat_lt
  simp only [List.length_cons] at hld hlc
  by_cases hs : 1 + f.toNat / 16 % 2 ≤ l2.length ∧ ge (l2.take (1 + f.toNat / 16 % 2)) ≤ l2.length - (1 + f.toNat / 16 % 2)
  rotate_left
  · rw [hdG_short hs] at hres
    have hres : none = res := hres
    subst hres
    obtain ⟨q, hqe⟩ : ∃ q, 1 + f.toNat / 16 % 2 = q := ⟨_, rfl⟩
    rw [hqe] at hs hq e16
    by_cases hs1 : q ≤ l2.length
    · have hs2 : (l2.drop q).length < ge (l2.take q) := by
        rw [List.length_drop]
        exact Nat.lt_of_not_le fun h => hs ⟨hs1, h⟩
      have hd3 : (l2.drop q).length ≤ 100000 := by rw [List.length_drop]; omega
      repeat' (first | refine SW ?_ | refine SD ?_ | (with_reducible refine HO_rw (congrArg (Value.int .i64) h16) ?_) | (with_reducible refine HO_rw (congrArg (Value.int .i64) hr2) ?_) | (with_reducible refine HO_rw (congrArg (Value.int .i64) e16) ?_) | (with_reducible refine HO_rw (congrArg (Value.int .i64) h32) ?_) | (refine HO_k 12 rfl ?_; refine HO_callq rfl rfl rfl rfl (rleftF_t _ _ _ _) (fun _ _ => rfl) (srcsA) rfl rfl sqA ?_) | (refine HO_k 12 rfl ?_; refine HO_call rfl rfl rfl rfl (rnum1_t br rA rc f (k :: l2) (by simp only [List.length_cons]; omega) (by simp only [List.length_cons]; omega)) rfl (trivial) rfl rfl soA ?_; intro ⟨xA, xc⟩ hx1; dsimp only [rqP, pt, List.cons_append, List.nil_append]) | (refine HO_k 12 rfl ?_; refine HO_call rfl rfl rfl rfl (rnum1_t br xA xc k l2 (by omega) hx1) rfl (trivial) rfl rfl soA ?_; intro ⟨yA, yc⟩ hy1; dsimp only [rqP, pt, List.cons_append, List.nil_append]) | (refine HO_k 12 rfl ?_; refine HO_call rfl rfl rfl rfl (rnumL_t br yA yc l2 q hq hs1 (by omega) hy1) rfl (trivial) rfl rfl soA ?_; intro ⟨zA, zc⟩ hz1; dsimp only [rqP, pt, List.cons_append, List.nil_append]) | (refine HO_k 12 rfl ?_; refine HO_call rfl rfl rfl rfl (rbytesS_t br zA zc (l2.drop q) _ hs2 hd3 hz1) rfl (trivial) rfl rfl soA ?_; intro ⟨⟨uA, uc⟩, ⟨vA, vc⟩⟩ hu1; dsimp only [rqP, pt, List.cons_append, List.nil_append]) | exact HO_seg rfl rfl | refine S1 ?_ | (refine S2 ?_; intro _) | (refine S3 ?_; intro _ _) | (refine S4 ?_; intro _ _ _) | (refine HO_g 2 rfl ?_; (first | apply HO_and rfl rfl rfl rfl rfl rfl rfl rfl rfl | apply HO_or rfl rfl rfl rfl rfl rfl rfl rfl rfl)) | refine S5 ?_ | (intro hb; try replace hb := simB hb; try exact kill hb))
      ((first | apply HX_ret | apply HX_retn); (repeat (first | exact Res_nil | apply Res_tmp rfl | apply Res_ce rfl rfl rfl)); unfold RetQ; refine ⟨az, rfl, rfl, az_keeps⟩)
    · repeat' (first | refine SW ?_ | refine SD ?_ | (with_reducible refine HO_rw (congrArg (Value.int .i64) h16) ?_) | (with_reducible refine HO_rw (congrArg (Value.int .i64) hr2) ?_) | (with_reducible refine HO_rw (congrArg (Value.int .i64) e16) ?_) | (with_reducible refine HO_rw (congrArg (Value.int .i64) h32) ?_) | (refine HO_k 12 rfl ?_; refine HO_callq rfl rfl rfl rfl (rleftF_t _ _ _ _) (fun _ _ => rfl) (srcsA) rfl rfl sqA ?_) | (refine HO_k 12 rfl ?_; refine HO_call rfl rfl rfl rfl (rnum1_t br rA rc f (k :: l2) (by simp only [List.length_cons]; omega) (by simp only [List.length_cons]; omega)) rfl (trivial) rfl rfl soA ?_; intro ⟨xA, xc⟩ hx1; dsimp only [rqP, pt, List.cons_append, List.nil_append]) | (refine HO_k 12 rfl ?_; refine HO_call rfl rfl rfl rfl (rnum1_t br xA xc k l2 (by omega) hx1) rfl (trivial) rfl rfl soA ?_; intro ⟨yA, yc⟩ hy1; dsimp only [rqP, pt, List.cons_append, List.nil_append]) | (refine HO_k 12 rfl ?_; refine HO_call rfl rfl rfl rfl (rnumS_t br yA yc l2 q hq (by omega) hy1) rfl (trivial) rfl rfl soA ?_; intro ⟨zA, zc⟩ hz1; dsimp only [rqP, pt, List.cons_append, List.nil_append]) | (refine HO_k 12 rfl ?_; refine HO_call rfl rfl rfl rfl (rbytesB_t br zA zc l2 0 (by omega) hz1) rfl (trivial) rfl rfl soA ?_; intro ⟨⟨uA, uc⟩, ⟨vA, vc⟩⟩ hu1; dsimp only [rqP, pt, List.cons_append, List.nil_append]) | exact HO_seg rfl rfl | refine S1 ?_ | (refine S2 ?_; intro _) | (refine S3 ?_; intro _ _) | (refine S4 ?_; intro _ _ _) | (refine HO_g 2 rfl ?_; (first | apply HO_and rfl rfl rfl rfl rfl rfl rfl rfl rfl | apply HO_or rfl rfl rfl rfl rfl rfl rfl rfl rfl)) | refine S5 ?_ | (intro hb; try replace hb := simB hb; try exact kill hb))
      ((first | apply HX_ret | apply HX_retn); (repeat (first | exact Res_nil | apply Res_tmp rfl | apply Res_ce rfl rfl rfl)); unfold RetQ; refine ⟨az, rfl, rfl, az_keeps⟩)
  rw [hdG_long hs] at hres
  obtain ⟨q, hqe⟩ : ∃ q, 1 + f.toNat / 16 % 2 = q := ⟨_, rfl⟩
  rw [hqe] at hs hq e16 hres
  obtain ⟨hs1, hs2⟩ := hs
  obtain ⟨n, hn⟩ : ∃ n, ge (l2.take q) = n := ⟨_, rfl⟩
  have hnum := fun A c hc => rnumL_t br A c l2 q hq hs1 (by omega) hc
  rw [hn] at hs2 hres hnum
  have hd3 : (l2.drop q).length ≤ 100000 := by rw [List.length_drop]; omega
  have hn3 : n ≤ (l2.drop q).length := by rw [List.length_drop]; omega
  obtain ⟨dt, hdt⟩ : ∃ dt, (l2.drop q).take n = dt := ⟨_, rfl⟩
  obtain ⟨l4, hl4⟩ : ∃ l4, (l2.drop q).drop n = l4 := ⟨_, rfl⟩
  have hdl : dt.length ≤ 100000 := by rw [← hdt, List.length_take]; omega
  have hll4 : l4.length ≤ l2.length := by rw [← hl4, List.length_drop, List.length_drop]; omega
  have hbyt := fun A c hc => rbytesL_t br A c (l2.drop q) n hn3 hd3 hc
  rw [hdt, hl4] at hres hbyt
  have hfl := rflags_t k.toNat
  have hbk := bits_at seen k.toNat hk
  by_cases hw : flagsI k.toNat < 0
  · by_cases h128 : f.toNat < 128
    · have e : takeG (szF four) f.toNat k.toNat dt ⟨a.pa, seen⟩ = none := by unfold takeG; rw [if_pos hw, if_neg (by omega)]
      simp only [e] at hres
      have hres : none = res := hres
      subst hres
      obtain ⟨wt, hwt⟩ : ∃ wt, flagsI k.toNat = wt := ⟨_, rfl⟩
      rw [hwt] at hw hfl
      repeat' (first | refine SW ?_ | refine SD ?_ | (with_reducible refine HO_rw (congrArg (Value.int .i64) h16) ?_) | (with_reducible refine HO_rw (congrArg (Value.int .i64) hr2) ?_) | (with_reducible refine HO_rw (congrArg (Value.int .i64) e16) ?_) | (with_reducible refine HO_rw (congrArg (Value.int .i64) h32) ?_) | (refine HO_k 12 rfl ?_; refine HO_callq rfl rfl rfl rfl (rleftF_t _ _ _ _) (fun _ _ => rfl) (srcsA) rfl rfl sqA ?_) | (refine HO_k 12 rfl ?_; refine HO_callq rfl rfl rfl rfl (hfl) (fun _ _ => rfl) (trivial) rfl rfl sqA ?_) | (refine HO_k 12 rfl ?_; refine HO_call rfl rfl rfl rfl (rnum1_t br rA rc f (k :: l2) (by simp only [List.length_cons]; omega) (by simp only [List.length_cons]; omega)) rfl (trivial) rfl rfl soA ?_; intro ⟨xA, xc⟩ hx1; dsimp only [rqP, pt, List.cons_append, List.nil_append]) | (refine HO_k 12 rfl ?_; refine HO_call rfl rfl rfl rfl (rnum1_t br xA xc k l2 (by omega) hx1) rfl (trivial) rfl rfl soA ?_; intro ⟨yA, yc⟩ hy1; dsimp only [rqP, pt, List.cons_append, List.nil_append]) | (refine HO_k 12 rfl ?_; refine HO_call rfl rfl rfl rfl (hnum yA yc hy1) rfl (trivial) rfl rfl soA ?_; intro ⟨zA, zc⟩ hz1; dsimp only [rqP, pt, List.cons_append, List.nil_append]) | (refine HO_k 12 rfl ?_; refine HO_call rfl rfl rfl rfl (hbyt zA zc hz1) rfl (trivial) rfl rfl soA ?_; intro ⟨⟨uA, uc⟩, ⟨vA, vc⟩⟩ hu1; dsimp only [rqP, pt, List.cons_append, List.nil_append]) | exact HO_seg rfl rfl | refine S1 ?_ | (refine S2 ?_; intro _) | (refine S3 ?_; intro _ _) | (refine S4 ?_; intro _ _ _) | (refine HO_g 2 rfl ?_; (first | apply HO_and rfl rfl rfl rfl rfl rfl rfl rfl rfl | apply HO_or rfl rfl rfl rfl rfl rfl rfl rfl rfl)) | refine S5 ?_ | (intro hb; try replace hb := simB hb; try exact kill hb))
      ((first | apply HX_ret | apply HX_retn); (repeat (first | exact Res_nil | apply Res_tmp rfl | apply Res_ce rfl rfl rfl)); unfold RetQ; refine ⟨az, rfl, rfl, az_keeps⟩)
    · have e : takeG (szF four) f.toNat k.toNat dt ⟨a.pa, seen⟩ = some ⟨a.pa, seen⟩ := by unfold takeG; rw [if_pos hw, if_pos (by omega)]
      simp only [e] at hres
      have hres : allR (szF four) ⟨a.pa, seen⟩ l4 = res := hres
      obtain ⟨wt, hwt⟩ : ∃ wt, flagsI k.toNat = wt := ⟨_, rfl⟩
      rw [hwt] at hw hfl
      repeat' (first | refine SW ?_ | refine SD ?_ | (with_reducible refine HO_rw (congrArg (Value.int .i64) h16) ?_) | (with_reducible refine HO_rw (congrArg (Value.int .i64) hr2) ?_) | (with_reducible refine HO_rw (congrArg (Value.int .i64) e16) ?_) | (with_reducible refine HO_rw (congrArg (Value.int .i64) h32) ?_) | (refine HO_k 12 rfl ?_; refine HO_callq rfl rfl rfl rfl (rleftF_t _ _ _ _) (fun _ _ => rfl) (srcsA) rfl rfl sqA ?_) | (refine HO_k 12 rfl ?_; refine HO_callq rfl rfl rfl rfl (hfl) (fun _ _ => rfl) (trivial) rfl rfl sqA ?_) | (refine HO_k 12 rfl ?_; refine HO_call rfl rfl rfl rfl (rnum1_t br rA rc f (k :: l2) (by simp only [List.length_cons]; omega) (by simp only [List.length_cons]; omega)) rfl (trivial) rfl rfl soA ?_; intro ⟨xA, xc⟩ hx1; dsimp only [rqP, pt, List.cons_append, List.nil_append]) | (refine HO_k 12 rfl ?_; refine HO_call rfl rfl rfl rfl (rnum1_t br xA xc k l2 (by omega) hx1) rfl (trivial) rfl rfl soA ?_; intro ⟨yA, yc⟩ hy1; dsimp only [rqP, pt, List.cons_append, List.nil_append]) | (refine HO_k 12 rfl ?_; refine HO_call rfl rfl rfl rfl (hnum yA yc hy1) rfl (trivial) rfl rfl soA ?_; intro ⟨zA, zc⟩ hz1; dsimp only [rqP, pt, List.cons_append, List.nil_append]) | (refine HO_k 12 rfl ?_; refine HO_call rfl rfl rfl rfl (hbyt zA zc hz1) rfl (trivial) rfl rfl soA ?_; intro ⟨⟨uA, uc⟩, ⟨vA, vc⟩⟩ hu1; dsimp only [rqP, pt, List.cons_append, List.nil_append]) | exact HO_seg rfl rfl | refine S1 ?_ | (refine S2 ?_; intro _) | (refine S3 ?_; intro _ _) | (refine S4 ?_; intro _ _ _) | (refine HO_g 2 rfl ?_; (first | apply HO_and rfl rfl rfl rfl rfl rfl rfl rfl rfl | apply HO_or rfl rfl rfl rfl rfl rfl rfl rfl rfl)) | refine S5 ?_ | (intro hb; try replace hb := simB hb; try exact kill hb))
      refine HX_keeps (rw' := rqP br vA vc false l4 ++ [own idE 4 1 (some ⟨b7, 0, none⟩) 256 256 (List.map bL (bitsL (seen))), cel b4 49 az.e] ++ attQ b6 a) permA ?_
      exact HX_at ⟨vA, vc, l4, a, seen⟩ ⟨⟨by simp only; omega, hu1.2, hres⟩, by simp only [List.length_cons]; omega⟩ ⟨rfl, rfl, rfl, rfl, rfl, trivial⟩ rfl
  have hk6 := flags_le hw
  cases hbit : seen.testBit k.toNat
  rotate_left
  · have e : takeG (szF four) f.toNat k.toNat dt ⟨a.pa, seen⟩ = some ⟨a.pa, seen⟩ := by unfold takeG; rw [if_neg hw, if_pos hbit]
    simp only [e] at hres
    have hres : allR (szF four) ⟨a.pa, seen⟩ l4 = res := hres
    rw [hbit] at hbk
    obtain ⟨wt, hwt⟩ : ∃ wt, flagsI k.toNat = wt := ⟨_, rfl⟩
    rw [hwt] at hw hfl
    repeat' (first | refine SW ?_ | refine SD ?_ | (with_reducible refine HO_rw (congrArg (Value.int .i64) h16) ?_) | (with_reducible refine HO_rw (congrArg (Value.int .i64) hr2) ?_) | (with_reducible refine HO_rw (congrArg (Value.int .i64) e16) ?_) | (with_reducible refine HO_rw (congrArg (Value.int .i64) h32) ?_) | (refine HO_k 12 rfl ?_; refine HO_callq rfl rfl rfl rfl (rleftF_t _ _ _ _) (fun _ _ => rfl) (srcsA) rfl rfl sqA ?_) | (refine HO_k 12 rfl ?_; refine HO_callq rfl rfl rfl rfl (hfl) (fun _ _ => rfl) (trivial) rfl rfl sqA ?_) | (refine HO_k 12 rfl ?_; refine HO_call rfl rfl rfl rfl (rnum1_t br rA rc f (k :: l2) (by simp only [List.length_cons]; omega) (by simp only [List.length_cons]; omega)) rfl (trivial) rfl rfl soA ?_; intro ⟨xA, xc⟩ hx1; dsimp only [rqP, pt, List.cons_append, List.nil_append]) | (refine HO_k 12 rfl ?_; refine HO_call rfl rfl rfl rfl (rnum1_t br xA xc k l2 (by omega) hx1) rfl (trivial) rfl rfl soA ?_; intro ⟨yA, yc⟩ hy1; dsimp only [rqP, pt, List.cons_append, List.nil_append]) | (refine HO_k 12 rfl ?_; refine HO_call rfl rfl rfl rfl (hnum yA yc hy1) rfl (trivial) rfl rfl soA ?_; intro ⟨zA, zc⟩ hz1; dsimp only [rqP, pt, List.cons_append, List.nil_append]) | (refine HO_k 12 rfl ?_; refine HO_call rfl rfl rfl rfl (hbyt zA zc hz1) rfl (trivial) rfl rfl soA ?_; intro ⟨⟨uA, uc⟩, ⟨vA, vc⟩⟩ hu1; dsimp only [rqP, pt, List.cons_append, List.nil_append]) | exact HO_seg rfl rfl | refine S1 ?_ | (refine S2 ?_; intro _) | (refine S3 ?_; intro _ _) | (refine S4 ?_; intro _ _ _) | (refine HO_g 2 rfl ?_; (first | apply HO_and rfl rfl rfl rfl rfl rfl rfl rfl rfl | apply HO_or rfl rfl rfl rfl rfl rfl rfl rfl rfl)) | refine S5 ?_ | (intro hb; try replace hb := simB hb; try exact kill hb))
    refine HX_keeps (rw' := rqP br vA vc false l4 ++ [own idE 4 1 (some ⟨b7, 0, none⟩) 256 256 (List.map bL (bitsL (seen))), cel b4 49 az.e] ++ attQ b6 a) permA ?_
    exact HX_at ⟨vA, vc, l4, a, seen⟩ ⟨⟨by simp only; omega, hu1.2, hres⟩, by simp only [List.length_cons]; omega⟩ ⟨rfl, rfl, rfl, rfl, rfl, trivial⟩ rfl
  rw [hbit] at hbk
  have hset := fun A c hc => rset_t b6 a four k.toNat hk6 A c dt hdl hc
  have hbs := bits_set seen k.toNat hk
  by_cases hfk : ((f.toNat / 32 * 32 : Nat) : Int) = flagsI k.toNat
  rotate_left
  · have e : takeG (szF four) f.toNat k.toNat dt ⟨a.pa, seen⟩ = none := by unfold takeG; rw [if_neg hw, if_neg (by simp [hbit]), if_neg hfk]
    simp only [e] at hres
    have hres : none = res := hres
    subst hres
    obtain ⟨wt, hwt⟩ : ∃ wt, flagsI k.toNat = wt := ⟨_, rfl⟩
    rw [hwt] at hw hfl hfk
    have hfk2 : ¬ ((f.toNat / 32 : Nat) : Int) * 32 = wt := by omega
    repeat' (first | refine SW ?_ | refine SD ?_ | (with_reducible refine HO_rw (congrArg (Value.int .i64) h16) ?_) | (with_reducible refine HO_rw (congrArg (Value.int .i64) hr2) ?_) | (with_reducible refine HO_rw (congrArg (Value.int .i64) e16) ?_) | (with_reducible refine HO_rw (congrArg (Value.int .i64) h32) ?_) | (refine HO_k 12 rfl ?_; refine HO_callq rfl rfl rfl rfl (rleftF_t _ _ _ _) (fun _ _ => rfl) (srcsA) rfl rfl sqA ?_) | (refine HO_k 12 rfl ?_; refine HO_callq rfl rfl rfl rfl (hfl) (fun _ _ => rfl) (trivial) rfl rfl sqA ?_) | (refine HO_k 12 rfl ?_; refine HO_call rfl rfl rfl rfl (rnum1_t br rA rc f (k :: l2) (by simp only [List.length_cons]; omega) (by simp only [List.length_cons]; omega)) rfl (trivial) rfl rfl soA ?_; intro ⟨xA, xc⟩ hx1; dsimp only [rqP, pt, List.cons_append, List.nil_append]) | (refine HO_k 12 rfl ?_; refine HO_call rfl rfl rfl rfl (rnum1_t br xA xc k l2 (by omega) hx1) rfl (trivial) rfl rfl soA ?_; intro ⟨yA, yc⟩ hy1; dsimp only [rqP, pt, List.cons_append, List.nil_append]) | (refine HO_k 12 rfl ?_; refine HO_call rfl rfl rfl rfl (hnum yA yc hy1) rfl (trivial) rfl rfl soA ?_; intro ⟨zA, zc⟩ hz1; dsimp only [rqP, pt, List.cons_append, List.nil_append]) | (refine HO_k 12 rfl ?_; refine HO_call rfl rfl rfl rfl (hbyt zA zc hz1) rfl (trivial) rfl rfl soA ?_; intro ⟨⟨uA, uc⟩, ⟨vA, vc⟩⟩ hu1; dsimp only [rqP, pt, List.cons_append, List.nil_append]) | exact HO_seg rfl rfl | refine S1 ?_ | (refine S2 ?_; intro _) | (refine S3 ?_; intro _ _) | (refine S4 ?_; intro _ _ _) | (refine HO_g 2 rfl ?_; (first | apply HO_and rfl rfl rfl rfl rfl rfl rfl rfl rfl | apply HO_or rfl rfl rfl rfl rfl rfl rfl rfl rfl)) | refine S5 ?_ | (intro hb; try replace hb := simB hb; try exact kill hb))
    ((first | apply HX_ret | apply HX_retn); (repeat (first | exact Res_nil | apply Res_tmp rfl | apply Res_ce rfl rfl rfl)); unfold RetQ; refine ⟨az, rfl, rfl, az_keeps⟩)
  have e : takeG (szF four) f.toNat k.toNat dt ⟨a.pa, seen⟩ = match setG (szF four) a.pa k.toNat dt with
      | none => none
      | some p => some ⟨p, seen ||| 2 ^ k.toNat⟩ := by
    unfold takeG
    rw [if_neg hw, if_neg (by simp [hbit]), if_pos hfk]
    cases setG (szF four) a.pa k.toNat dt <;> rfl
  obtain ⟨sr, hsr⟩ : ∃ sr, setG (szF four) a.pa k.toNat dt = sr := ⟨_, rfl⟩
  rw [hsr] at e
  simp only [hsr] at hset
  obtain ⟨wt, hwt⟩ : ∃ wt, flagsI k.toNat = wt := ⟨_, rfl⟩
  rw [hwt] at hw hfl hfk
  have hfk2 : ((f.toNat / 32 : Nat) : Int) * 32 = wt := by omega
  cases sr with
  | none =>
    simp only [e] at hres
    have hres : none = res := hres
    subst hres
    repeat' (first | refine SW ?_ | refine SD ?_ | (with_reducible refine HO_rw (congrArg (Value.int .i64) h16) ?_) | (with_reducible refine HO_rw (congrArg (Value.int .i64) hr2) ?_) | (with_reducible refine HO_rw (congrArg (Value.int .i64) e16) ?_) | (with_reducible refine HO_rw (congrArg (Value.int .i64) h32) ?_) | (refine HO_k 12 rfl ?_; refine HO_callq rfl rfl rfl rfl (rleftF_t _ _ _ _) (fun _ _ => rfl) (srcsA) rfl rfl sqA ?_) | (refine HO_k 12 rfl ?_; refine HO_callq rfl rfl rfl rfl (hfl) (fun _ _ => rfl) (trivial) rfl rfl sqA ?_) | (refine HO_k 12 rfl ?_; refine HO_call rfl rfl rfl rfl (rnum1_t br rA rc f (k :: l2) (by simp only [List.length_cons]; omega) (by simp only [List.length_cons]; omega)) rfl (trivial) rfl rfl soA ?_; intro ⟨xA, xc⟩ hx1; dsimp only [rqP, pt, List.cons_append, List.nil_append]) | (refine HO_k 12 rfl ?_; refine HO_call rfl rfl rfl rfl (rnum1_t br xA xc k l2 (by omega) hx1) rfl (trivial) rfl rfl soA ?_; intro ⟨yA, yc⟩ hy1; dsimp only [rqP, pt, List.cons_append, List.nil_append]) | (refine HO_k 12 rfl ?_; refine HO_call rfl rfl rfl rfl (hnum yA yc hy1) rfl (trivial) rfl rfl soA ?_; intro ⟨zA, zc⟩ hz1; dsimp only [rqP, pt, List.cons_append, List.nil_append]) | (refine HO_k 12 rfl ?_; refine HO_call rfl rfl rfl rfl (hbyt zA zc hz1) rfl (trivial) rfl rfl soA ?_; intro ⟨⟨uA, uc⟩, ⟨vA, vc⟩⟩ hu1; dsimp only [rqP, pt, List.cons_append, List.nil_append]) | (refine HO_k 12 rfl ?_; refine HO_mv 8 rfl rfl ?_; refine HO_mv 8 rfl rfl ?_; refine HO_mv 8 rfl rfl ?_; refine HO_mv 8 rfl rfl ?_; refine HO_mv 4 rfl rfl ?_; refine HO_keeps (Keeps.cons own_byte Keeps.refl) ?_; refine HO_call rfl rfl rfl rfl (hset uA uc hu1.1) rfl (trivial) rfl rfl soA ?_; intro a' ha'; dsimp only [attQ, AttS.e, List.cons_append, List.nil_append]) | exact HO_seg rfl rfl | refine S1 ?_ | (refine S2 ?_; intro _) | (refine S3 ?_; intro _ _) | (refine S4 ?_; intro _ _ _) | (refine HO_g 2 rfl ?_; (first | apply HO_and rfl rfl rfl rfl rfl rfl rfl rfl rfl | apply HO_or rfl rfl rfl rfl rfl rfl rfl rfl rfl)) | refine S5 ?_ | (intro hb; try replace hb := simB hb; try exact kill hb))
    ((first | apply HX_ret | apply HX_retn); (repeat (first | exact Res_nil | apply Res_tmp rfl | apply Res_ce rfl rfl rfl)); unfold RetQ; refine ⟨az, rfl, rfl, az_keeps⟩)
  | some p =>
    simp only [e] at hres
    have hres : allR (szF four) ⟨p, seen ||| 2 ^ k.toNat⟩ l4 = res := hres
    repeat' (first | refine SW ?_ | refine SD ?_ | (with_reducible refine HO_rw (congrArg (Value.int .i64) h16) ?_) | (with_reducible refine HO_rw (congrArg (Value.int .i64) hr2) ?_) | (with_reducible refine HO_rw (congrArg (Value.int .i64) e16) ?_) | (with_reducible refine HO_rw (congrArg (Value.int .i64) h32) ?_) | (refine HO_k 12 rfl ?_; refine HO_callq rfl rfl rfl rfl (rleftF_t _ _ _ _) (fun _ _ => rfl) (srcsA) rfl rfl sqA ?_) | (refine HO_k 12 rfl ?_; refine HO_callq rfl rfl rfl rfl (hfl) (fun _ _ => rfl) (trivial) rfl rfl sqA ?_) | (refine HO_k 12 rfl ?_; refine HO_call rfl rfl rfl rfl (rnum1_t br rA rc f (k :: l2) (by simp only [List.length_cons]; omega) (by simp only [List.length_cons]; omega)) rfl (trivial) rfl rfl soA ?_; intro ⟨xA, xc⟩ hx1; dsimp only [rqP, pt, List.cons_append, List.nil_append]) | (refine HO_k 12 rfl ?_; refine HO_call rfl rfl rfl rfl (rnum1_t br xA xc k l2 (by omega) hx1) rfl (trivial) rfl rfl soA ?_; intro ⟨yA, yc⟩ hy1; dsimp only [rqP, pt, List.cons_append, List.nil_append]) | (refine HO_k 12 rfl ?_; refine HO_call rfl rfl rfl rfl (hnum yA yc hy1) rfl (trivial) rfl rfl soA ?_; intro ⟨zA, zc⟩ hz1; dsimp only [rqP, pt, List.cons_append, List.nil_append]) | (refine HO_k 12 rfl ?_; refine HO_call rfl rfl rfl rfl (hbyt zA zc hz1) rfl (trivial) rfl rfl soA ?_; intro ⟨⟨uA, uc⟩, ⟨vA, vc⟩⟩ hu1; dsimp only [rqP, pt, List.cons_append, List.nil_append]) | (refine HO_k 12 rfl ?_; refine HO_mv 8 rfl rfl ?_; refine HO_mv 8 rfl rfl ?_; refine HO_mv 8 rfl rfl ?_; refine HO_mv 8 rfl rfl ?_; refine HO_mv 4 rfl rfl ?_; refine HO_keeps (Keeps.cons own_byte Keeps.refl) ?_; refine HO_call rfl rfl rfl rfl (hset uA uc hu1.1) rfl (trivial) rfl rfl soA ?_; intro a' ha'; dsimp only [attQ, AttS.e, List.cons_append, List.nil_append]) | exact HO_seg rfl rfl | refine S1 ?_ | (refine S2 ?_; intro _) | (refine S3 ?_; intro _ _) | (refine S4 ?_; intro _ _ _) | (refine HO_g 2 rfl ?_; (first | apply HO_and rfl rfl rfl rfl rfl rfl rfl rfl rfl | apply HO_or rfl rfl rfl rfl rfl rfl rfl rfl rfl)) | refine S5 ?_ | (intro hb; try replace hb := simB hb; try exact kill hb))
    have ea := ha' p rfl
    have hbs' : (List.map bL (bitsL seen)).set (Int.toNat (k.toNat : Int)) [Value.bool true] = List.map bL (bitsL (seen ||| 2 ^ k.toNat)) := hbs
    rw [hbs']
    refine HX_keeps (rw' := rqP br vA vc false l4 ++ [own idE 4 1 (some ⟨b7, 0, none⟩) 256 256 (List.map bL (bitsL (seen ||| 2 ^ k.toNat))), cel b4 49 az.e] ++ attQ b6 a') permA ?_
    exact HX_at ⟨vA, vc, l4, a', seen ||| 2 ^ k.toNat⟩ ⟨⟨by simp only; omega, hu1.2, by simp only [ea]; exact hres⟩, by simp only [List.length_cons]; omega⟩ ⟨rfl, rfl, rfl, rfl, rfl, trivial⟩ rfl
end Go.Proofs.YtdeeokkkcfkbjaaGreat
