/- Part of a proof of many texts: what the theorem at its end leans on. -/
import Derived.Test.YteeogabkkblkgaaGreatDoorVRhA
import Derived.Test.YteeogabkkblkgaaGreatDoorVUpd
import Derived.Test.YteeogabkkblkgaaGreatDoorVPgA
import Derived.Test.YteeogabkkblkgaaGreatDoorVAttRD
import Derived.Test.YteeogabkkblkgaaGreatDoorVKc
namespace Go.Proofs.YteeogabkkblkgaaGreatDoor
set_option maxHeartbeats 1000000000
set_option linter.unusedVariables false
set_option linter.unusedSimpArgs false
open Go.RowKit
attribute [local irreducible] HC HX HO Tri eP adr
theorem rnlg0_t (A : Option Addr) (c : Nat) (l : List UInt8) (hb : l.length ≤ 100000) (hc : l.length ≤ c) :
  Tri Tryz.prog 165 [.slice A l.length c, .bool false] [] [arr bE 1 A l] (fun _ : OA => True) (fun x => .tuple #[.slice x.1 ((getR false [] l).getD []).length x.2, .bool (getR false [] l).isSome]) (fun x => [ownN x ((getR false [] l).getD [])]) := by
 obtain ⟨res, hres⟩ : ∃ res, getR false [] l = res := ⟨_, rfl⟩
 rw [hres]
 refine Tri_in Tryz.func165 rfl (fun w0 S0 => ?_)
 repeat' (first | refine SK ?_ | refine SD ?_ | refine SB ?_ | (refine T2 ?_; intros) | fail)
 refine HC_add (e := ownN (none, 0) []) (fun w => own_nil w) ?_
 refine HC_keeps (rw' := [arr bE 1 A l, ownN (none, 0) []]) permA ?_
 refine HC_loop (α := NgI) (fun x => x.l.length ≤ 100000 ∧ x.l.length ≤ x.c ∧ x.out.length ≤ 1024 ∧ getR false x.out x.l = res) (fun x => [(6, .slice x.oA x.out.length x.oc), (0 + 1, .bool false), (0, .slice x.A x.l.length x.c)])
  (fun x => [arr bE 1 x.A x.l, ownN (x.oA, x.oc) x.out]) (fun x => x.l.length) rfl ⟨A, c, l, none, 0, []⟩ ⟨hb, hc, Nat.zero_le _, hres⟩ ⟨rfl, rfl, rfl, trivial⟩ rfl ?_
 clear hb hc hres
 intro ⟨A, c, l, oA, oc, out⟩ ⟨hb, hc, ho, h⟩
 dsimp only [ownN] at hb hc ho h ⊢
 by_cases hl : l = []
 ·subst hl
  rw [getR_nil] at h
  subst h
  dsimp only [Option.getD, Option.isSome]
  repeat' (first | refine SK ?_ | refine SD ?_ | refine SB ?_ | (refine T2 ?_; intros) | fail)
  (refine SRt ?_; unfold RetQ; refine ⟨(oA, oc), trivial, rfl, permA⟩)
 have hpos : 0 < l.length := List.length_pos_iff.2 hl
 rw [getR_cons _ _ _ hl] at h
 have c1 := rpget_t A c l (by omega) hc
 unfold fstG at h
 rw [if_neg (by simp [wP])] at h
 simp only [wP, Bool.false_eq_true, if_false, List.drop_zero, List.take_zero] at h
 cases hpf : pfG l with
 | none =>
  rw [hpf] at c1 h
  dsimp only [pgV, pfV] at c1 h
  subst h
  dsimp only [Option.getD, Option.isSome]
  repeat' (first | refine SK ?_ | refine SD ?_ | (refine KC ?_; refine HO_callq rfl rfl rfl rfl (c1) (fun _ _ => rfl) (srcsA) rfl rfl sqA ?_) | refine SB ?_ | (refine T2 ?_; intros) | fail)
  (refine SRt ?_; unfold RetQ; refine ⟨(none, 0), trivial, rfl, (Keeps.add (fun w => own_nil w) Keeps.nil)⟩)
 | some ak =>
  obtain ⟨a, k⟩ := ak
  have hpl := pfG_len hpf
  rw [hpf] at c1 h
  dsimp only [pgV, pfV] at c1 h
  obtain ⟨s, hs⟩ : ∃ s, 1 + (k + 7) / 8 = s := ⟨_, rfl⟩
  rw [hs] at hpl c1 h
  by_cases h24 : out.length < 1024
  ·rw [if_pos h24] at h
   repeat' (first | refine SK ?_ | refine SD ?_ | (refine KC ?_; refine HO_callq rfl rfl rfl rfl (c1) (fun _ _ => rfl) (srcsA) rfl rfl sqA ?_) | refine SB ?_ | (refine T2 ?_; intros) | fail)
   rename_i b7 b8 b9 A' c'
   obtain ⟨x, hx⟩ : ∃ x : Nl, x = ⟨(ge ([] : List UInt8) : Nat), a, k⟩ := ⟨_, rfl⟩
   have eL : out.length + 1 = (out ++ [x]).length := by simp
   have eM : List.map Nl.e out ++ [[Value.int .i64 0, .int .u32 a, .int .i64 k]] = List.map Nl.e (out ++ [x]) := by rw [hx, List.map_append]; rfl
   rw [eL, eM]
   rw [← hx] at h
   have er : l.length - s = (l.drop s).length := List.length_drop.symm
   simp only [Int.toNat_natCast]
   rw [er]
   refine HX_keeps (rw' := [arr bE 1 A l, ownN (A', c') (out ++ [x])]) permA ?_
   refine HX_keeps (Keeps.cons (arr_drop c s (fun h => by omega)) Keeps.refl) ?_
   exact HX_at ⟨cutA A 1 c s, c - s, l.drop s, A', c', out ++ [x]⟩ ⟨⟨by simp only [List.length_drop]; omega, by simp only [List.length_drop]; omega, by simp only [List.length_append, List.length_cons, List.length_nil]; omega, h⟩, by simp only [List.length_drop]; omega⟩ ⟨rfl, rfl, rfl, trivial⟩ rfl
  ·rw [if_neg h24] at h
   subst h
   dsimp only [Option.getD, Option.isSome]
   repeat' (first | refine SK ?_ | refine SD ?_ | (refine KC ?_; refine HO_callq rfl rfl rfl rfl (c1) (fun _ _ => rfl) (srcsA) rfl rfl sqA ?_) | refine SB ?_ | (refine T2 ?_; intros) | fail)
   (refine SRt ?_; unfold RetQ; refine ⟨(none, 0), trivial, rfl, (Keeps.add (fun w => own_nil w) Keeps.nil)⟩)
theorem rnlg4_t (A : Option Addr) (c : Nat) (l : List UInt8) (hb : l.length ≤ 100000) (hc : l.length ≤ c) :
  Tri Tryz.prog 165 [.slice A l.length c, .bool true] [] [arr bE 1 A l] (fun _ : OA => True) (fun x => .tuple #[.slice x.1 ((getR true [] l).getD []).length x.2, .bool (getR true [] l).isSome]) (fun x => [ownN x ((getR true [] l).getD [])]) := by
 obtain ⟨res, hres⟩ : ∃ res, getR true [] l = res := ⟨_, rfl⟩
 rw [hres]
 refine Tri_in Tryz.func165 rfl (fun w0 S0 => ?_)
 repeat' (first | refine SK ?_ | refine SD ?_ | refine SB ?_ | (refine T2 ?_; intros) | fail)
 refine HC_add (e := ownN (none, 0) []) (fun w => own_nil w) ?_
 refine HC_keeps (rw' := [arr bE 1 A l, ownN (none, 0) []]) permA ?_
 refine HC_loop (α := NgI) (fun x => x.l.length ≤ 100000 ∧ x.l.length ≤ x.c ∧ x.out.length ≤ 1024 ∧ getR true x.out x.l = res) (fun x => [(6, .slice x.oA x.out.length x.oc), (0 + 1, .bool true), (0, .slice x.A x.l.length x.c)])
  (fun x => [arr bE 1 x.A x.l, ownN (x.oA, x.oc) x.out]) (fun x => x.l.length) rfl ⟨A, c, l, none, 0, []⟩ ⟨hb, hc, Nat.zero_le _, hres⟩ ⟨rfl, rfl, rfl, trivial⟩ rfl ?_
 clear hb hc hres
 intro ⟨A, c, l, oA, oc, out⟩ ⟨hb, hc, ho, h⟩
 dsimp only [ownN] at hb hc ho h ⊢
 by_cases hl : l = []
 ·subst hl
  rw [getR_nil] at h
  subst h
  dsimp only [Option.getD, Option.isSome]
  repeat' (first | refine SK ?_ | refine SD ?_ | refine SB ?_ | (refine T2 ?_; intros) | fail)
  (refine SRt ?_; unfold RetQ; refine ⟨(oA, oc), trivial, rfl, permA⟩)
 have hpos : 0 < l.length := List.length_pos_iff.2 hl
 rw [getR_cons _ _ _ hl] at h
 unfold fstG at h
 simp only [wP, if_true] at h
 by_cases h4 : l.length < 4
 ·rw [if_pos h4] at h
  dsimp only at h
  subst h
  dsimp only [Option.getD, Option.isSome]
  repeat' (first | refine SK ?_ | refine SD ?_ | refine SB ?_ | (refine T2 ?_; intros) | fail)
  (refine SRt ?_; unfold RetQ; refine ⟨(none, 0), trivial, rfl, (Keeps.add (fun w => own_nil w) Keeps.nil)⟩)
 rw [if_neg h4] at h
 have hdl : (l.drop 4).length = l.length - 4 := List.length_drop
 have c1 := rpget_t (cutA A 1 c 4) (c - 4) (l.drop 4) (by omega) (by omega)
 have c0 := rget_t A 4 c (l.take 4) (by rw [List.length_take]; omega) (by rw [List.length_take]; omega)
 rw [hdl] at c1
 obtain ⟨g, hg⟩ : ∃ g, ge (l.take 4) = g := ⟨_, rfl⟩
 rw [hg] at c0 h
 cases hpf : pfG (l.drop 4) with
 | none =>
  rw [hpf] at c1 h
  dsimp only [pgV, pfV] at c1 h
  subst h
  dsimp only [Option.getD, Option.isSome]
  repeat' (first | refine SK ?_ | refine SD ?_ | (refine KC ?_; refine HO_callq rfl rfl rfl rfl (c0) (fun _ _ => rfl) ((by first | exact AllSrc.via 0 rfl (fun S w h => arr_take 4 S w h) trivial | exact AllSrc.via 1 rfl (fun S w h => arr_take 4 S w h) trivial)) rfl rfl sqA ?_) | (refine KC ?_; refine HO_callq rfl rfl rfl rfl (c1) (fun _ _ => rfl) ((by first | exact AllSrc.via 0 rfl (arr_drop c 4 (fun e => by omega)) trivial | exact AllSrc.via 1 rfl (arr_drop c 4 (fun e => by omega)) trivial)) rfl rfl sqA ?_) | refine SB ?_ | (refine T2 ?_; intros) | fail)
  (refine SRt ?_; unfold RetQ; refine ⟨(none, 0), trivial, rfl, (Keeps.add (fun w => own_nil w) Keeps.nil)⟩)
 | some ak =>
  obtain ⟨a, k⟩ := ak
  have hpl := pfG_len hpf
  rw [hpf] at c1 h
  dsimp only [pgV, pfV] at c1 h
  obtain ⟨s, hs⟩ : ∃ s, 1 + (k + 7) / 8 = s := ⟨_, rfl⟩
  rw [hs] at hpl c1 h
  by_cases h24 : out.length < 1024
  ·rw [if_pos h24] at h
   repeat' (first | refine SK ?_ | refine SD ?_ | (refine KC ?_; refine HO_callq rfl rfl rfl rfl (c0) (fun _ _ => rfl) ((by first | exact AllSrc.via 0 rfl (fun S w h => arr_take 4 S w h) trivial | exact AllSrc.via 1 rfl (fun S w h => arr_take 4 S w h) trivial)) rfl rfl sqA ?_) | (refine KC ?_; refine HO_callq rfl rfl rfl rfl (c1) (fun _ _ => rfl) ((by first | exact AllSrc.via 0 rfl (arr_drop c 4 (fun e => by omega)) trivial | exact AllSrc.via 1 rfl (arr_drop c 4 (fun e => by omega)) trivial)) rfl rfl sqA ?_) | refine SB ?_ | (refine T2 ?_; intros) | fail)
   rename_i b7 b8 b9 A' c'
   obtain ⟨x, hx⟩ : ∃ x : Nl, x = ⟨(g : Nat), a, k⟩ := ⟨_, rfl⟩
   have eL : out.length + 1 = (out ++ [x]).length := by simp
   have eM : List.map Nl.e out ++ [[Value.int .i64 g, .int .u32 a, .int .i64 k]] = List.map Nl.e (out ++ [x]) := by rw [hx, List.map_append]; rfl
   rw [eL, eM]
   rw [← hx] at h
   have er : l.length - 4 - s = ((l.drop 4).drop s).length := by rw [List.length_drop, hdl]
   simp only [Int.toNat_natCast, show Int.toNat 4 = 4 from rfl]
   rw [er]
   refine HX_keeps (rw' := [arr bE 1 A l, ownN (A', c') (out ++ [x])]) permA ?_
   refine HX_keeps (Keeps.cons (arr_drop c 4 (fun h => by omega)) Keeps.refl) ?_
   refine HX_keeps (Keeps.cons (arr_drop (c - 4) s (fun h => by omega)) Keeps.refl) ?_
   exact HX_at ⟨cutA (cutA A 1 c 4) 1 (c - 4) s, c - 4 - s, (l.drop 4).drop s, A', c', out ++ [x]⟩ ⟨⟨by simp only [List.length_drop]; omega, by simp only [List.length_drop]; omega, by simp only [List.length_append, List.length_cons, List.length_nil]; omega, h⟩, by simp only [List.length_drop]; omega⟩ ⟨rfl, rfl, rfl, trivial⟩ rfl
  ·rw [if_neg h24] at h
   subst h
   dsimp only [Option.getD, Option.isSome]
   repeat' (first | refine SK ?_ | refine SD ?_ | (refine KC ?_; refine HO_callq rfl rfl rfl rfl (c0) (fun _ _ => rfl) ((by first | exact AllSrc.via 0 rfl (fun S w h => arr_take 4 S w h) trivial | exact AllSrc.via 1 rfl (fun S w h => arr_take 4 S w h) trivial)) rfl rfl sqA ?_) | (refine KC ?_; refine HO_callq rfl rfl rfl rfl (c1) (fun _ _ => rfl) ((by first | exact AllSrc.via 0 rfl (arr_drop c 4 (fun e => by omega)) trivial | exact AllSrc.via 1 rfl (arr_drop c 4 (fun e => by omega)) trivial)) rfl rfl sqA ?_) | refine SB ?_ | (refine T2 ?_; intros) | fail)
   (refine SRt ?_; unfold RetQ; refine ⟨(none, 0), trivial, rfl, (Keeps.add (fun w => own_nil w) Keeps.nil)⟩)
theorem rnlget_t (A : Option Addr) (c : Nat) (l : List UInt8) (hb : l.length ≤ 100000) (hc : l.length ≤ c) (paths : Bool) :
  Tri Tryz.prog 165 [.slice A l.length c, .bool paths] [] [arr bE 1 A l] (fun _ : OA => True) (fun x => .tuple #[.slice x.1 ((getR paths [] l).getD []).length x.2, .bool (getR paths [] l).isSome]) (fun x => [ownN x ((getR paths [] l).getD [])]) := by
 cases paths
 ·exact rnlg0_t A c l hb hc
 ·exact rnlg4_t A c l hb hc
theorem rnlgB_t (A : Option Addr) (c : Nat) (l : List UInt8) (hb : l.length ≤ 100000) (hc : l.length ≤ c) (paths : Bool) (h : getR paths [] l = none) :
  Tri Tryz.prog 165 [.slice A l.length c, .bool paths] [] [arr bE 1 A l] (fun x : OA => 0 ≤ x.2) (fun x => .tuple #[.slice x.1 0 x.2, .bool false]) (fun x => [ownN x []]) := by
 have := rnlget_t A c l hb hc paths
 rw [h] at this
 exact Tri_capN this
theorem rnlgG_t (A : Option Addr) (c : Nat) (l : List UInt8) (hb : l.length ≤ 100000) (hc : l.length ≤ c) (paths : Bool) (m : List Nl) (h : getR paths [] l = some m) :
  Tri Tryz.prog 165 [.slice A l.length c, .bool paths] [] [arr bE 1 A l] (fun x : OA => m.length ≤ x.2) (fun x => .tuple #[.slice x.1 m.length x.2, .bool true]) (fun x => [ownN x m]) := by
 have := rnlget_t A c l hb hc paths
 rw [h] at this
 exact Tri_capN this
set_option maxRecDepth 100000 in
theorem ruget_cut (A : Option Addr) (c : Nat) (b : List UInt8) (hb : b.length ≤ 100000) (four paths : Bool) (h : cutU b = none) :
  Tri Tryz.prog 115 [.slice A b.length c, .bool four, .bool paths] [arr bE 1 A b] [] (fun _ : Unit => True) (fun _ => .tuple #[.agg uz.e.toArray, ntV 3 1]) (fun _ => []) := by
 dsimp only [ntV]
 rcases cutU_none h with h1 | ⟨h1, h2⟩ | ⟨h1, h2, h3⟩ | ⟨h1, h2, h3, h4⟩
 ·have hn1 := fun rb rA rc hc => rnumS_t rb rA rc b 2 (by decide) h1 hc
  have hb1 := fun rb rA rc hc => rbytesB_t rb rA rc b 0 hb hc
  have hn2 := fun rb rA rc hc => rnumB_t rb rA rc b 2 (by decide) hb hc
  have hb2 := hb1
  refine Tri_in Tryz.func115 rfl (fun w0 S0 => ?_)
  repeat' (first | refine SB ?_ | (refine T2 ?_; intros) | fail)
  rename_i b6 b7 b8 bs A' c' br
  rw [show 0 + b.length = b.length from Nat.zero_add _, List.nil_append]
  refine HO_knowO (C := b.length ≤ c') (fun w h => own_cap 2 rfl h) (fun hc' => ?_)
  refine HO_keeps (Keeps.cons Ent.rfl_ (Keeps.cons (show Ent (ownB (A', c') b) (arr bE 1 A' b) from own_byte) Keeps.refl)) ?_
  repeat' (first | (refine KC ?_; refine HO_callP rfl rfl rfl rfl (hn1 br A' c' hc') findA (trivial) rfl rfl soA ?_; intro ⟨xA, xc⟩ hx; dsimp only [rqP, pt, lca, lna]) | (refine KC ?_; refine HO_callP rfl rfl rfl rfl (hb1 br xA xc hx) findA (trivial) rfl rfl soA ?_; intro ⟨⟨uA, uc⟩, ⟨vA, vc⟩⟩ hu; dsimp only [rqP, pt, lca, lna]) | (refine KC ?_; refine HO_callP rfl rfl rfl rfl (hn2 br vA vc hu.2) findA (trivial) rfl rfl soA ?_; intro ⟨yA, yc⟩ hy; dsimp only [rqP, pt, lca, lna]) | (refine KC ?_; refine HO_callP rfl rfl rfl rfl (hb2 br yA yc hy) findA (trivial) rfl rfl soA ?_; intro ⟨⟨sA, sc⟩, ⟨tA, tc⟩⟩ ht; dsimp only [rqP, pt, lca, lna]) | refine SB ?_ | (refine T2 ?_; intros) | fail)
  (refine SRt ?_; refine RU ?_)
  rfl
 ·have hn1 := fun rb rA rc hc => rnumL_t rb rA rc b 2 (by decide) h1 hb hc
  obtain ⟨n1, e1⟩ : ∃ n, ge (b.take 2) = n := ⟨_, rfl⟩
  obtain ⟨d1, e2⟩ : ∃ d, b.drop 2 = d := ⟨_, rfl⟩
  have hd1 : d1.length ≤ 100000 := by rw [← e2, List.length_drop]; omega
  rw [e1, e2] at h2
  simp only [e1, e2] at hn1
  have hb1 := fun rb rA rc hc => rbytesS_t rb rA rc d1 n1 h2 hd1 hc
  have hn2 := fun rb rA rc hc => rnumB_t rb rA rc d1 2 (by decide) hd1 hc
  have hb2 := fun rb rA rc hc => rbytesB_t rb rA rc d1 0 hd1 hc
  refine Tri_in Tryz.func115 rfl (fun w0 S0 => ?_)
  repeat' (first | refine SB ?_ | (refine T2 ?_; intros) | fail)
  rename_i b6 b7 b8 bs A' c' br
  rw [show 0 + b.length = b.length from Nat.zero_add _, List.nil_append]
  refine HO_knowO (C := b.length ≤ c') (fun w h => own_cap 2 rfl h) (fun hc' => ?_)
  refine HO_keeps (Keeps.cons Ent.rfl_ (Keeps.cons (show Ent (ownB (A', c') b) (arr bE 1 A' b) from own_byte) Keeps.refl)) ?_
  repeat' (first | (refine KC ?_; refine HO_callP rfl rfl rfl rfl (hn1 br A' c' hc') findA (trivial) rfl rfl soA ?_; intro ⟨xA, xc⟩ hx; dsimp only [rqP, pt, lca, lna]) | (refine KC ?_; refine HO_callP rfl rfl rfl rfl (hb1 br xA xc hx) findA (trivial) rfl rfl soA ?_; intro ⟨⟨uA, uc⟩, ⟨vA, vc⟩⟩ hu; dsimp only [rqP, pt, lca, lna]) | (refine KC ?_; refine HO_callP rfl rfl rfl rfl (hn2 br vA vc hu.2) findA (trivial) rfl rfl soA ?_; intro ⟨yA, yc⟩ hy; dsimp only [rqP, pt, lca, lna]) | (refine KC ?_; refine HO_callP rfl rfl rfl rfl (hb2 br yA yc hy) findA (trivial) rfl rfl soA ?_; intro ⟨⟨sA, sc⟩, ⟨tA, tc⟩⟩ ht; dsimp only [rqP, pt, lca, lna]) | refine SB ?_ | (refine T2 ?_; intros) | fail)
  (refine SRt ?_; refine RU ?_)
  rfl
 ·have hn1 := fun rb rA rc hc => rnumL_t rb rA rc b 2 (by decide) h1 hb hc
  obtain ⟨n1, e1⟩ : ∃ n, ge (b.take 2) = n := ⟨_, rfl⟩
  obtain ⟨d1, e2⟩ : ∃ d, b.drop 2 = d := ⟨_, rfl⟩
  have hd1 : d1.length ≤ 100000 := by rw [← e2, List.length_drop]; omega
  rw [e1, e2] at h2 h3
  simp only [e1, e2] at hn1
  have hb1 := fun rb rA rc hc => rbytesL_t rb rA rc d1 n1 h2 hd1 hc
  obtain ⟨d2, e4⟩ : ∃ d, d1.drop n1 = d := ⟨_, rfl⟩
  have hd2 : d2.length ≤ 100000 := by rw [← e4, List.length_drop]; omega
  rw [e4] at h3
  simp only [e4] at hb1
  have hn2 := fun rb rA rc hc => rnumS_t rb rA rc d2 2 (by decide) h3 hc
  have hb2 := fun rb rA rc hc => rbytesB_t rb rA rc d2 0 hd2 hc
  refine Tri_in Tryz.func115 rfl (fun w0 S0 => ?_)
  repeat' (first | refine SB ?_ | (refine T2 ?_; intros) | fail)
  rename_i b6 b7 b8 bs A' c' br
  rw [show 0 + b.length = b.length from Nat.zero_add _, List.nil_append]
  refine HO_knowO (C := b.length ≤ c') (fun w h => own_cap 2 rfl h) (fun hc' => ?_)
  refine HO_keeps (Keeps.cons Ent.rfl_ (Keeps.cons (show Ent (ownB (A', c') b) (arr bE 1 A' b) from own_byte) Keeps.refl)) ?_
  repeat' (first | (refine KC ?_; refine HO_callP rfl rfl rfl rfl (hn1 br A' c' hc') findA (trivial) rfl rfl soA ?_; intro ⟨xA, xc⟩ hx; dsimp only [rqP, pt, lca, lna]) | (refine KC ?_; refine HO_callP rfl rfl rfl rfl (hb1 br xA xc hx) findA (trivial) rfl rfl soA ?_; intro ⟨⟨uA, uc⟩, ⟨vA, vc⟩⟩ hu; dsimp only [rqP, pt, lca, lna]) | (refine KC ?_; refine HO_callP rfl rfl rfl rfl (hn2 br vA vc hu.2) findA (trivial) rfl rfl soA ?_; intro ⟨yA, yc⟩ hy; dsimp only [rqP, pt, lca, lna]) | (refine KC ?_; refine HO_callP rfl rfl rfl rfl (hb2 br yA yc hy) findA (trivial) rfl rfl soA ?_; intro ⟨⟨sA, sc⟩, ⟨tA, tc⟩⟩ ht; dsimp only [rqP, pt, lca, lna]) | refine SB ?_ | (refine T2 ?_; intros) | fail)
  (refine SRt ?_; refine RU ?_)
  rfl
 ·have hn1 := fun rb rA rc hc => rnumL_t rb rA rc b 2 (by decide) h1 hb hc
  obtain ⟨n1, e1⟩ : ∃ n, ge (b.take 2) = n := ⟨_, rfl⟩
  obtain ⟨d1, e2⟩ : ∃ d, b.drop 2 = d := ⟨_, rfl⟩
  have hd1 : d1.length ≤ 100000 := by rw [← e2, List.length_drop]; omega
  rw [e1, e2] at h2 h3 h4
  simp only [e1, e2] at hn1
  have hb1 := fun rb rA rc hc => rbytesL_t rb rA rc d1 n1 h2 hd1 hc
  obtain ⟨d2, e4⟩ : ∃ d, d1.drop n1 = d := ⟨_, rfl⟩
  have hd2 : d2.length ≤ 100000 := by rw [← e4, List.length_drop]; omega
  rw [e4] at h3 h4
  simp only [e4] at hb1
  have hn2 := fun rb rA rc hc => rnumL_t rb rA rc d2 2 (by decide) h3 hd2 hc
  obtain ⟨n2, e5⟩ : ∃ n, ge (d2.take 2) = n := ⟨_, rfl⟩
  obtain ⟨d3, e6⟩ : ∃ d, d2.drop 2 = d := ⟨_, rfl⟩
  have hd3 : d3.length ≤ 100000 := by rw [← e6, List.length_drop]; omega
  rw [e5, e6] at h4
  simp only [e5, e6] at hn2
  have hb2 := fun rb rA rc hc => rbytesS_t rb rA rc d3 n2 h4 hd3 hc
  refine Tri_in Tryz.func115 rfl (fun w0 S0 => ?_)
  repeat' (first | refine SB ?_ | (refine T2 ?_; intros) | fail)
  rename_i b6 b7 b8 bs A' c' br
  rw [show 0 + b.length = b.length from Nat.zero_add _, List.nil_append]
  refine HO_knowO (C := b.length ≤ c') (fun w h => own_cap 2 rfl h) (fun hc' => ?_)
  refine HO_keeps (Keeps.cons Ent.rfl_ (Keeps.cons (show Ent (ownB (A', c') b) (arr bE 1 A' b) from own_byte) Keeps.refl)) ?_
  repeat' (first | (refine KC ?_; refine HO_callP rfl rfl rfl rfl (hn1 br A' c' hc') findA (trivial) rfl rfl soA ?_; intro ⟨xA, xc⟩ hx; dsimp only [rqP, pt, lca, lna]) | (refine KC ?_; refine HO_callP rfl rfl rfl rfl (hb1 br xA xc hx) findA (trivial) rfl rfl soA ?_; intro ⟨⟨uA, uc⟩, ⟨vA, vc⟩⟩ hu; dsimp only [rqP, pt, lca, lna]) | (refine KC ?_; refine HO_callP rfl rfl rfl rfl (hn2 br vA vc hu.2) findA (trivial) rfl rfl soA ?_; intro ⟨yA, yc⟩ hy; dsimp only [rqP, pt, lca, lna]) | (refine KC ?_; refine HO_callP rfl rfl rfl rfl (hb2 br yA yc hy) findA (trivial) rfl rfl soA ?_; intro ⟨⟨sA, sc⟩, ⟨tA, tc⟩⟩ ht; dsimp only [rqP, pt, lca, lna]) | refine SB ?_ | (refine T2 ?_; intros) | fail)
  (refine SRt ?_; refine RU ?_)
  rfl
set_option maxRecDepth 100000 in
theorem ruget_b1 (A : Option Addr) (c : Nat) (b g s k : List UInt8) (hb : b.length ≤ 100000) (four paths : Bool) (hcut : cutU b = some (g, s, k)) (l : List Nl) (hl : getR paths [] g = some l) (hm : getR paths [] k = none) :
  Tri Tryz.prog 115 [.slice A b.length c, .bool four, .bool paths] [arr bE 1 A b] [] (fun _ : Unit => True) (fun _ => .tuple #[.agg uz.e.toArray, ntV 3 10]) (fun _ => []) := by
 obtain ⟨n1, n2, d1, d2, d3, hU⟩ := cutU_some hcut
 obtain ⟨h1, e1, e2, h2, e3, e4, h3, e5, e6, h4, e7, e8⟩ := hU
 have hd1 : d1.length ≤ 100000 := by rw [← e2, List.length_drop]; omega
 have hd2 : d2.length ≤ 100000 := by rw [← e4, List.length_drop]; omega
 have hd3 : d3.length ≤ 100000 := by rw [← e6, List.length_drop]; omega
 have hgl : g.length ≤ 100000 := by rw [← e3, List.length_take]; omega
 have hsl : s.length ≤ 100000 := by rw [← e7, List.length_take]; omega
 have hcl : k.length ≤ 100000 := by rw [← e8, List.length_drop]; omega
 have hn1 := fun rb rA rc hc => rnumL_t rb rA rc b 2 (by decide) h1 hb hc
 have hb1 := fun rb rA rc hc => rbytesL_t rb rA rc d1 n1 h2 hd1 hc
 have hn2 := fun rb rA rc hc => rnumL_t rb rA rc d2 2 (by decide) h3 hd2 hc
 have hb2 := fun rb rA rc hc => rbytesL_t rb rA rc d3 n2 h4 hd3 hc
 simp only [e1, e2] at hn1
 simp only [e3, e4] at hb1
 simp only [e5, e6] at hn2
 simp only [e7, e8] at hb2
 clear e1 e2 e3 e4 e5 e6 e7 e8
 have hg1 := fun A c hc => Tri_pre1 (own_byte (x := (A, c))) (rnlgG_t A c g hgl hc paths l hl)
 have hg2 := fun A c hc => rnlgB_t A c k hcl hc paths hm
 dsimp only [ntV] at hg1 ⊢
 refine Tri_in Tryz.func115 rfl (fun w0 S0 => ?_)
 repeat' (first | refine SB ?_ | (refine T2 ?_; intros) | fail)
 rename_i b6 b7 b8 bs A' c' br
 rw [show 0 + b.length = b.length from Nat.zero_add _, List.nil_append]
 refine HO_knowO (C := b.length ≤ c') (fun w h => own_cap 2 rfl h) (fun hc' => ?_)
 refine HO_keeps (Keeps.cons Ent.rfl_ (Keeps.cons (show Ent (ownB (A', c') b) (arr bE 1 A' b) from own_byte) Keeps.refl)) ?_
 repeat' (first | (refine KC ?_; refine HO_callP rfl rfl rfl rfl (hn1 br A' c' hc') findA (trivial) rfl rfl soA ?_; intro ⟨xA, xc⟩ hx; dsimp only [rqP, pt, lca, lna]) | (refine KC ?_; refine HO_callP rfl rfl rfl rfl (hb1 br xA xc hx) findA (trivial) rfl rfl soA ?_; intro ⟨⟨uA, uc⟩, ⟨vA, vc⟩⟩ hu; dsimp only [rqP, pt, lca, lna]) | (refine KC ?_; refine HO_callP rfl rfl rfl rfl (hn2 br vA vc hu.2) findA (trivial) rfl rfl soA ?_; intro ⟨yA, yc⟩ hy; dsimp only [rqP, pt, lca, lna]) | (refine KC ?_; refine HO_callP rfl rfl rfl rfl (hb2 br yA yc hy) findA (trivial) rfl rfl soA ?_; intro ⟨⟨sA, sc⟩, ⟨tA, tc⟩⟩ ht; dsimp only [rqP, pt, lca, lna]) | (refine KC ?_; refine HO_callP rfl rfl rfl rfl (hg1 uA uc hu.1) findA (trivial) rfl rfl soA ?_; intro ⟨lA, lc⟩ hl1; dsimp only [lca, lna]) | (refine KC ?_; refine HO_callP rfl rfl rfl rfl (hg2 tA tc ht.2) findA (trivial) rfl rfl soA ?_; intro ⟨mA, mc⟩ hm1; dsimp only [lca, lna]) | refine SB ?_ | (refine T2 ?_; intros) | fail)
 (refine SRt ?_; refine RU ?_)
 rfl
set_option maxRecDepth 100000 in
theorem ruget_b2 (A : Option Addr) (c : Nat) (b g s k : List UInt8) (hb : b.length ≤ 100000) (four paths : Bool) (hcut : cutU b = some (g, s, k)) (hl : getR paths [] g = none) (m : List Nl) (hm : getR paths [] k = some m) :
  Tri Tryz.prog 115 [.slice A b.length c, .bool four, .bool paths] [arr bE 1 A b] [] (fun _ : Unit => True) (fun _ => .tuple #[.agg uz.e.toArray, ntV 3 10]) (fun _ => []) := by
 obtain ⟨n1, n2, d1, d2, d3, hU⟩ := cutU_some hcut
 obtain ⟨h1, e1, e2, h2, e3, e4, h3, e5, e6, h4, e7, e8⟩ := hU
 have hd1 : d1.length ≤ 100000 := by rw [← e2, List.length_drop]; omega
 have hd2 : d2.length ≤ 100000 := by rw [← e4, List.length_drop]; omega
 have hd3 : d3.length ≤ 100000 := by rw [← e6, List.length_drop]; omega
 have hgl : g.length ≤ 100000 := by rw [← e3, List.length_take]; omega
 have hsl : s.length ≤ 100000 := by rw [← e7, List.length_take]; omega
 have hcl : k.length ≤ 100000 := by rw [← e8, List.length_drop]; omega
 have hn1 := fun rb rA rc hc => rnumL_t rb rA rc b 2 (by decide) h1 hb hc
 have hb1 := fun rb rA rc hc => rbytesL_t rb rA rc d1 n1 h2 hd1 hc
 have hn2 := fun rb rA rc hc => rnumL_t rb rA rc d2 2 (by decide) h3 hd2 hc
 have hb2 := fun rb rA rc hc => rbytesL_t rb rA rc d3 n2 h4 hd3 hc
 simp only [e1, e2] at hn1
 simp only [e3, e4] at hb1
 simp only [e5, e6] at hn2
 simp only [e7, e8] at hb2
 clear e1 e2 e3 e4 e5 e6 e7 e8
 have hg1 := fun A c hc => Tri_pre1 (own_byte (x := (A, c))) (rnlgB_t A c g hgl hc paths hl)
 have hg2 := fun A c hc => rnlgG_t A c k hcl hc paths m hm
 dsimp only [ntV] at hg1 ⊢
 refine Tri_in Tryz.func115 rfl (fun w0 S0 => ?_)
 repeat' (first | refine SK ?_ | refine SB ?_ | (refine T2 ?_; intros) | fail)
 rename_i b6 b7 b8 bs A' c' br
 rw [show 0 + b.length = b.length from Nat.zero_add _, List.nil_append]
 refine HO_knowO (C := b.length ≤ c') (fun w h => own_cap 2 rfl h) (fun hc' => ?_)
 refine HO_keeps (Keeps.cons Ent.rfl_ (Keeps.cons (show Ent (ownB (A', c') b) (arr bE 1 A' b) from own_byte) Keeps.refl)) ?_
 repeat' (first | refine SK ?_ | (refine KC ?_; refine HO_callP rfl rfl rfl rfl (hn1 br A' c' hc') findA (trivial) rfl rfl soA ?_; intro ⟨xA, xc⟩ hx; dsimp only [rqP, pt, lca, lna]) | (refine KC ?_; refine HO_callP rfl rfl rfl rfl (hb1 br xA xc hx) findA (trivial) rfl rfl soA ?_; intro ⟨⟨uA, uc⟩, ⟨vA, vc⟩⟩ hu; dsimp only [rqP, pt, lca, lna]) | (refine KC ?_; refine HO_callP rfl rfl rfl rfl (hn2 br vA vc hu.2) findA (trivial) rfl rfl soA ?_; intro ⟨yA, yc⟩ hy; dsimp only [rqP, pt, lca, lna]) | (refine KC ?_; refine HO_callP rfl rfl rfl rfl (hb2 br yA yc hy) findA (trivial) rfl rfl soA ?_; intro ⟨⟨sA, sc⟩, ⟨tA, tc⟩⟩ ht; dsimp only [rqP, pt, lca, lna]) | (refine KC ?_; refine HO_callP rfl rfl rfl rfl (hg1 uA uc hu.1) findA (trivial) rfl rfl soA ?_; intro ⟨lA, lc⟩ hl1; dsimp only [lca, lna]) | (refine KC ?_; refine HO_callP rfl rfl rfl rfl (hg2 tA tc ht.2) findA (trivial) rfl rfl soA ?_; intro ⟨mA, mc⟩ hm1; dsimp only [lca, lna]) | refine SB ?_ | (refine T2 ?_; intros) | fail)
 (refine SRt ?_; refine RU ?_)
 rfl
set_option maxRecDepth 100000 in
theorem ruget_b3 (A : Option Addr) (c : Nat) (b g s k : List UInt8) (hb : b.length ≤ 100000) (four paths : Bool) (hcut : cutU b = some (g, s, k)) (hl : getR paths [] g = none) (hm : getR paths [] k = none) :
  Tri Tryz.prog 115 [.slice A b.length c, .bool four, .bool paths] [arr bE 1 A b] [] (fun _ : Unit => True) (fun _ => .tuple #[.agg uz.e.toArray, ntV 3 10]) (fun _ => []) := by
 obtain ⟨n1, n2, d1, d2, d3, hU⟩ := cutU_some hcut
 obtain ⟨h1, e1, e2, h2, e3, e4, h3, e5, e6, h4, e7, e8⟩ := hU
 have hd1 : d1.length ≤ 100000 := by rw [← e2, List.length_drop]; omega
 have hd2 : d2.length ≤ 100000 := by rw [← e4, List.length_drop]; omega
 have hd3 : d3.length ≤ 100000 := by rw [← e6, List.length_drop]; omega
 have hgl : g.length ≤ 100000 := by rw [← e3, List.length_take]; omega
 have hsl : s.length ≤ 100000 := by rw [← e7, List.length_take]; omega
 have hcl : k.length ≤ 100000 := by rw [← e8, List.length_drop]; omega
 have hn1 := fun rb rA rc hc => rnumL_t rb rA rc b 2 (by decide) h1 hb hc
 have hb1 := fun rb rA rc hc => rbytesL_t rb rA rc d1 n1 h2 hd1 hc
 have hn2 := fun rb rA rc hc => rnumL_t rb rA rc d2 2 (by decide) h3 hd2 hc
 have hb2 := fun rb rA rc hc => rbytesL_t rb rA rc d3 n2 h4 hd3 hc
 simp only [e1, e2] at hn1
 simp only [e3, e4] at hb1
 simp only [e5, e6] at hn2
 simp only [e7, e8] at hb2
 clear e1 e2 e3 e4 e5 e6 e7 e8
 have hg1 := fun A c hc => Tri_pre1 (own_byte (x := (A, c))) (rnlgB_t A c g hgl hc paths hl)
 have hg2 := fun A c hc => rnlgB_t A c k hcl hc paths hm
 dsimp only [ntV] at hg1 ⊢
 refine Tri_in Tryz.func115 rfl (fun w0 S0 => ?_)
 repeat' (first | refine SK ?_ | refine SB ?_ | (refine T2 ?_; intros) | fail)
 rename_i b6 b7 b8 bs A' c' br
 rw [show 0 + b.length = b.length from Nat.zero_add _, List.nil_append]
 refine HO_knowO (C := b.length ≤ c') (fun w h => own_cap 2 rfl h) (fun hc' => ?_)
 refine HO_keeps (Keeps.cons Ent.rfl_ (Keeps.cons (show Ent (ownB (A', c') b) (arr bE 1 A' b) from own_byte) Keeps.refl)) ?_
 repeat' (first | refine SK ?_ | (refine KC ?_; refine HO_callP rfl rfl rfl rfl (hn1 br A' c' hc') findA (trivial) rfl rfl soA ?_; intro ⟨xA, xc⟩ hx; dsimp only [rqP, pt, lca, lna]) | (refine KC ?_; refine HO_callP rfl rfl rfl rfl (hb1 br xA xc hx) findA (trivial) rfl rfl soA ?_; intro ⟨⟨uA, uc⟩, ⟨vA, vc⟩⟩ hu; dsimp only [rqP, pt, lca, lna]) | (refine KC ?_; refine HO_callP rfl rfl rfl rfl (hn2 br vA vc hu.2) findA (trivial) rfl rfl soA ?_; intro ⟨yA, yc⟩ hy; dsimp only [rqP, pt, lca, lna]) | (refine KC ?_; refine HO_callP rfl rfl rfl rfl (hb2 br yA yc hy) findA (trivial) rfl rfl soA ?_; intro ⟨⟨sA, sc⟩, ⟨tA, tc⟩⟩ ht; dsimp only [rqP, pt, lca, lna]) | (refine KC ?_; refine HO_callP rfl rfl rfl rfl (hg1 uA uc hu.1) findA (trivial) rfl rfl soA ?_; intro ⟨lA, lc⟩ hl1; dsimp only [lca, lna]) | (refine KC ?_; refine HO_callP rfl rfl rfl rfl (hg2 tA tc ht.2) findA (trivial) rfl rfl soA ?_; intro ⟨mA, mc⟩ hm1; dsimp only [lca, lna]) | refine SB ?_ | (refine T2 ?_; intros) | fail)
 (refine SRt ?_; refine RU ?_)
 rfl
set_option maxRecDepth 100000 in
theorem ruget_gone (A : Option Addr) (c : Nat) (b g s k : List UInt8) (hb : b.length ≤ 100000) (four paths : Bool) (hcut : cutU b = some (g, s, k)) (l m : List Nl) (hl : getR paths [] g = some l) (hm : getR paths [] k = some m) (hme : m = []) :
  Tri Tryz.prog 115 [.slice A b.length c, .bool four, .bool paths] [arr bE 1 A b] [] (fun x : UpS => x.gone = l ∧ x.routes = [] ∧ x.a = az ∧ x.soft = false) (fun x => .tuple #[.agg x.e.toArray, ntV 0 0]) (fun x => x.ro) := by
 obtain ⟨n1, n2, d1, d2, d3, hU⟩ := cutU_some hcut
 obtain ⟨h1, e1, e2, h2, e3, e4, h3, e5, e6, h4, e7, e8⟩ := hU
 have hd1 : d1.length ≤ 100000 := by rw [← e2, List.length_drop]; omega
 have hd2 : d2.length ≤ 100000 := by rw [← e4, List.length_drop]; omega
 have hd3 : d3.length ≤ 100000 := by rw [← e6, List.length_drop]; omega
 have hgl : g.length ≤ 100000 := by rw [← e3, List.length_take]; omega
 have hsl : s.length ≤ 100000 := by rw [← e7, List.length_take]; omega
 have hcl : k.length ≤ 100000 := by rw [← e8, List.length_drop]; omega
 have hn1 := fun rb rA rc hc => rnumL_t rb rA rc b 2 (by decide) h1 hb hc
 have hb1 := fun rb rA rc hc => rbytesL_t rb rA rc d1 n1 h2 hd1 hc
 have hn2 := fun rb rA rc hc => rnumL_t rb rA rc d2 2 (by decide) h3 hd2 hc
 have hb2 := fun rb rA rc hc => rbytesL_t rb rA rc d3 n2 h4 hd3 hc
 simp only [e1, e2] at hn1
 simp only [e3, e4] at hb1
 simp only [e5, e6] at hn2
 simp only [e7, e8] at hb2
 clear e1 e2 e3 e4 e5 e6 e7 e8
 have hg1 := fun A c hc => Tri_pre1 (own_byte (x := (A, c))) (rnlgG_t A c g hgl hc paths l hl)
 have hg2 := fun A c hc => rnlgG_t A c k hcl hc paths m hm
 have hll := getR_le hl
 have hml := getR_le hm
 dsimp only [ntV] at hg1 ⊢
 rw [hme] at hg2
 refine Tri_in Tryz.func115 rfl (fun w0 S0 => ?_)
 repeat' (first | refine SD ?_ | refine SB ?_ | (refine T2 ?_; intros) | fail)
 rename_i b6 b7 b8 bs A' c' br
 rw [show 0 + b.length = b.length from Nat.zero_add _, List.nil_append]
 refine HO_knowO (C := b.length ≤ c') (fun w h => own_cap 2 rfl h) (fun hc' => ?_)
 refine HO_keeps (Keeps.cons Ent.rfl_ (Keeps.cons (show Ent (ownB (A', c') b) (arr bE 1 A' b) from own_byte) Keeps.refl)) ?_
 repeat' (first | refine SD ?_ | (refine KC ?_; refine HO_callP rfl rfl rfl rfl (hn1 br A' c' hc') findA (trivial) rfl rfl soA ?_; intro ⟨xA, xc⟩ hx; dsimp only [rqP, pt, lca, lna]) | (refine KC ?_; refine HO_callP rfl rfl rfl rfl (hb1 br xA xc hx) findA (trivial) rfl rfl soA ?_; intro ⟨⟨uA, uc⟩, ⟨vA, vc⟩⟩ hu; dsimp only [rqP, pt, lca, lna]) | (refine KC ?_; refine HO_callP rfl rfl rfl rfl (hn2 br vA vc hu.2) findA (trivial) rfl rfl soA ?_; intro ⟨yA, yc⟩ hy; dsimp only [rqP, pt, lca, lna]) | (refine KC ?_; refine HO_callP rfl rfl rfl rfl (hb2 br yA yc hy) findA (trivial) rfl rfl soA ?_; intro ⟨⟨sA, sc⟩, ⟨tA, tc⟩⟩ ht; dsimp only [rqP, pt, lca, lna]) | (refine KC ?_; refine HO_callP rfl rfl rfl rfl (hg1 uA uc hu.1) findA (trivial) rfl rfl soA ?_; intro ⟨lA, lc⟩ hl1; dsimp only [lca, lna]) | (refine KC ?_; refine HO_callP rfl rfl rfl rfl (hg2 tA tc ht.2) findA (trivial) rfl rfl soA ?_; intro ⟨mA, mc⟩ hm1; dsimp only [lca, lna]) | refine SB ?_ | (refine T2 ?_; intros) | fail)
 (refine SRt ?_; unfold RetQ; refine ⟨(⟨lA, lc, l, mA, mc, [], az, false⟩ : UpS), ⟨rfl, rfl, rfl, rfl⟩, rfl, (Keeps.comp (b := [ownN (lA, lc) l, ownN (mA, mc) []]) permA (Keeps.cons own_nl (Keeps.cons own_nl az_keeps0)))⟩)
set_option maxRecDepth 100000 in
theorem ruget_fine (A : Option Addr) (c : Nat) (b g s k : List UInt8) (hb : b.length ≤ 100000) (four paths : Bool) (hcut : cutU b = some (g, s, k)) (l m : List Nl) (hl : getR paths [] g = some l) (hm : getR paths [] k = some m) (hne : 0 < m.length) (p : PA) (hp : getG (szF four) s = (p, 1)) :
  Tri Tryz.prog 115 [.slice A b.length c, .bool four, .bool paths] [arr bE 1 A b] [] (fun x : UpS => x.gone = l ∧ x.routes = m ∧ x.a.pa = p ∧ x.soft = false) (fun x => .tuple #[.agg x.e.toArray, ntV 0 0]) (fun x => x.ro) := by
 obtain ⟨n1, n2, d1, d2, d3, hU⟩ := cutU_some hcut
 obtain ⟨h1, e1, e2, h2, e3, e4, h3, e5, e6, h4, e7, e8⟩ := hU
 have hd1 : d1.length ≤ 100000 := by rw [← e2, List.length_drop]; omega
 have hd2 : d2.length ≤ 100000 := by rw [← e4, List.length_drop]; omega
 have hd3 : d3.length ≤ 100000 := by rw [← e6, List.length_drop]; omega
 have hgl : g.length ≤ 100000 := by rw [← e3, List.length_take]; omega
 have hsl : s.length ≤ 100000 := by rw [← e7, List.length_take]; omega
 have hcl : k.length ≤ 100000 := by rw [← e8, List.length_drop]; omega
 have hn1 := fun rb rA rc hc => rnumL_t rb rA rc b 2 (by decide) h1 hb hc
 have hb1 := fun rb rA rc hc => rbytesL_t rb rA rc d1 n1 h2 hd1 hc
 have hn2 := fun rb rA rc hc => rnumL_t rb rA rc d2 2 (by decide) h3 hd2 hc
 have hb2 := fun rb rA rc hc => rbytesL_t rb rA rc d3 n2 h4 hd3 hc
 simp only [e1, e2] at hn1
 simp only [e3, e4] at hb1
 simp only [e5, e6] at hn2
 simp only [e7, e8] at hb2
 clear e1 e2 e3 e4 e5 e6 e7 e8
 have hg1 := fun A c hc => Tri_pre1 (own_byte (x := (A, c))) (rnlgG_t A c g hgl hc paths l hl)
 have hg2 := fun A c hc => rnlgG_t A c k hcl hc paths m hm
 have hll := getR_le hl
 have hml := getR_le hm
 dsimp only [ntV] at hg1 ⊢
 have hat := fun A c => rget5_t four A c s hsl
 rw [hp] at hat
 refine Tri_in Tryz.func115 rfl (fun w0 S0 => ?_)
 repeat' (first | refine SD ?_ | refine SB ?_ | (refine T2 ?_; intros) | fail)
 rename_i b6 b7 b8 bs A' c' br
 rw [show 0 + b.length = b.length from Nat.zero_add _, List.nil_append]
 refine HO_knowO (C := b.length ≤ c') (fun w h => own_cap 2 rfl h) (fun hc' => ?_)
 refine HO_keeps (Keeps.cons Ent.rfl_ (Keeps.cons (show Ent (ownB (A', c') b) (arr bE 1 A' b) from own_byte) Keeps.refl)) ?_
 repeat' (first | refine SD ?_ | (refine KC ?_; refine HO_callP rfl rfl rfl rfl (hn1 br A' c' hc') findA (trivial) rfl rfl soA ?_; intro ⟨xA, xc⟩ hx; dsimp only [rqP, pt, lca, lna]) | (refine KC ?_; refine HO_callP rfl rfl rfl rfl (hb1 br xA xc hx) findA (trivial) rfl rfl soA ?_; intro ⟨⟨uA, uc⟩, ⟨vA, vc⟩⟩ hu; dsimp only [rqP, pt, lca, lna]) | (refine KC ?_; refine HO_callP rfl rfl rfl rfl (hn2 br vA vc hu.2) findA (trivial) rfl rfl soA ?_; intro ⟨yA, yc⟩ hy; dsimp only [rqP, pt, lca, lna]) | (refine KC ?_; refine HO_callP rfl rfl rfl rfl (hb2 br yA yc hy) findA (trivial) rfl rfl soA ?_; intro ⟨⟨sA, sc⟩, ⟨tA, tc⟩⟩ ht; dsimp only [rqP, pt, lca, lna]) | (refine KC ?_; refine HO_callP rfl rfl rfl rfl (hg1 uA uc hu.1) findA (trivial) rfl rfl soA ?_; intro ⟨lA, lc⟩ hl1; dsimp only [lca, lna]) | (refine KC ?_; refine HO_callP rfl rfl rfl rfl (hg2 tA tc ht.2) findA (trivial) rfl rfl soA ?_; intro ⟨mA, mc⟩ hm1; dsimp only [lca, lna]) | (refine KC ?_; refine HO_call rfl rfl rfl rfl (hat sA sc) rfl (srcsA) rfl rfl soA ?_; intro a ha; dsimp only [AttS.ro, lca, lna]) | (refine KC ?_; refine HO_callP rfl rfl rfl rfl (hat sA sc) findA (srcsA) rfl rfl soA ?_; intro a ha; dsimp only [AttS.ro, lca, lna]) | refine SB ?_ | (refine T2 ?_; intros) | fail)
 (refine SRt ?_; unfold RetQ; refine ⟨(⟨lA, lc, l, mA, mc, m, a, false⟩ : UpS), ⟨rfl, rfl, ha, rfl⟩, rfl, (Keeps.comp (b := [ownN (lA, lc) l, ownN (mA, mc) m, inn (segPs a.path), arr SegS.e 2 a.pA a.path, arr iE 1 a.cA a.comms]) permA (Keeps.cons own_nl (Keeps.cons own_nl Keeps.refl)))⟩)
set_option maxRecDepth 100000 in
theorem ruget_soft (A : Option Addr) (c : Nat) (b g s k : List UInt8) (hb : b.length ≤ 100000) (four paths : Bool) (hcut : cutU b = some (g, s, k)) (l m : List Nl) (hl : getR paths [] g = some l) (hm : getR paths [] k = some m) (hne : 0 < m.length) (v : Int) (hv : v ≠ 1) (p : PA) (hp : getG (szF four) s = (p, v)) :
  Tri Tryz.prog 115 [.slice A b.length c, .bool four, .bool paths] [arr bE 1 A b] [] (fun x : UpS => x.gone = l ++ m ∧ x.routes = [] ∧ x.a = az ∧ x.soft = true) (fun x => .tuple #[.agg x.e.toArray, ntV 0 0]) (fun x => x.ro) := by
 obtain ⟨n1, n2, d1, d2, d3, hU⟩ := cutU_some hcut
 obtain ⟨h1, e1, e2, h2, e3, e4, h3, e5, e6, h4, e7, e8⟩ := hU
 have hd1 : d1.length ≤ 100000 := by rw [← e2, List.length_drop]; omega
 have hd2 : d2.length ≤ 100000 := by rw [← e4, List.length_drop]; omega
 have hd3 : d3.length ≤ 100000 := by rw [← e6, List.length_drop]; omega
 have hgl : g.length ≤ 100000 := by rw [← e3, List.length_take]; omega
 have hsl : s.length ≤ 100000 := by rw [← e7, List.length_take]; omega
 have hcl : k.length ≤ 100000 := by rw [← e8, List.length_drop]; omega
 have hn1 := fun rb rA rc hc => rnumL_t rb rA rc b 2 (by decide) h1 hb hc
 have hb1 := fun rb rA rc hc => rbytesL_t rb rA rc d1 n1 h2 hd1 hc
 have hn2 := fun rb rA rc hc => rnumL_t rb rA rc d2 2 (by decide) h3 hd2 hc
 have hb2 := fun rb rA rc hc => rbytesL_t rb rA rc d3 n2 h4 hd3 hc
 simp only [e1, e2] at hn1
 simp only [e3, e4] at hb1
 simp only [e5, e6] at hn2
 simp only [e7, e8] at hb2
 clear e1 e2 e3 e4 e5 e6 e7 e8
 have hg1 := fun A c hc => Tri_pre1 (own_byte (x := (A, c))) (rnlgG_t A c g hgl hc paths l hl)
 have hg2 := fun A c hc => rnlgG_t A c k hcl hc paths m hm
 have hll := getR_le hl
 have hml := getR_le hm
 dsimp only [ntV] at hg1 ⊢
 have hat := fun A c => rget5_t four A c s hsl
 rw [hp] at hat
 refine Tri_in Tryz.func115 rfl (fun w0 S0 => ?_)
 repeat' (first | refine SD ?_ | refine SB ?_ | (refine T2 ?_; intros) | fail)
 rename_i b6 b7 b8 bs A' c' br
 rw [show 0 + b.length = b.length from Nat.zero_add _, List.nil_append]
 refine HO_knowO (C := b.length ≤ c') (fun w h => own_cap 2 rfl h) (fun hc' => ?_)
 refine HO_keeps (Keeps.cons Ent.rfl_ (Keeps.cons (show Ent (ownB (A', c') b) (arr bE 1 A' b) from own_byte) Keeps.refl)) ?_
 repeat' (first | refine SD ?_ | (refine KC ?_; refine HO_callP rfl rfl rfl rfl (hn1 br A' c' hc') findA (trivial) rfl rfl soA ?_; intro ⟨xA, xc⟩ hx; dsimp only [rqP, pt, lca, lna]) | (refine KC ?_; refine HO_callP rfl rfl rfl rfl (hb1 br xA xc hx) findA (trivial) rfl rfl soA ?_; intro ⟨⟨uA, uc⟩, ⟨vA, vc⟩⟩ hu; dsimp only [rqP, pt, lca, lna]) | (refine KC ?_; refine HO_callP rfl rfl rfl rfl (hn2 br vA vc hu.2) findA (trivial) rfl rfl soA ?_; intro ⟨yA, yc⟩ hy; dsimp only [rqP, pt, lca, lna]) | (refine KC ?_; refine HO_callP rfl rfl rfl rfl (hb2 br yA yc hy) findA (trivial) rfl rfl soA ?_; intro ⟨⟨sA, sc⟩, ⟨tA, tc⟩⟩ ht; dsimp only [rqP, pt, lca, lna]) | (refine KC ?_; refine HO_callP rfl rfl rfl rfl (hg1 uA uc hu.1) findA (trivial) rfl rfl soA ?_; intro ⟨lA, lc⟩ hl1; dsimp only [lca, lna]) | (refine KC ?_; refine HO_callP rfl rfl rfl rfl (hg2 tA tc ht.2) findA (trivial) rfl rfl soA ?_; intro ⟨mA, mc⟩ hm1; dsimp only [lca, lna]) | (refine KC ?_; refine HO_call rfl rfl rfl rfl (hat sA sc) rfl (srcsA) rfl rfl soA ?_; intro a ha; dsimp only [AttS.ro, lca, lna]) | (refine KC ?_; refine HO_callP rfl rfl rfl rfl (hat sA sc) findA (srcsA) rfl rfl soA ?_; intro a ha; dsimp only [AttS.ro, lca, lna]) | refine SB ?_ | (refine T2 ?_; intros) | fail)
 rename_i A9 c9
 have eM : List.map Nl.e l ++ List.map Nl.e m = List.map Nl.e (l ++ m) := List.map_append.symm
 have eL : l.length + m.length = (l ++ m).length := by rw [List.length_append]
 simp only [Nat.zero_add, List.nil_append]
 rw [eL, eM]
 (refine SRt ?_; unfold RetQ; refine ⟨(⟨A9, c9, l ++ m, none, 0, [], az, true⟩ : UpS), ⟨rfl, rfl, rfl, rfl⟩, rfl, (Keeps.comp (b := [ownN (A9, c9) (l ++ m)]) permA (Keeps.cons own_nl (Keeps.add (fun w => arr_nil _ w) az_keeps0)))⟩)
theorem ruget_t (A : Option Addr) (c : Nat) (b : List UInt8) (hb : b.length ≤ 100000) (four paths : Bool) :
  Tri Tryz.prog 115 [.slice A b.length c, .bool four, .bool paths] [arr bE 1 A b] [] (upIs (updM four paths b).1)
   (fun u => .tuple #[.agg u.e.toArray, .agg #[.int .i64 (updM four paths b).2.c, .int .i64 (updM four paths b).2.s, .slice none 0 0]]) (fun u => [inn u.ro]) := by
 unfold updM
 cases hcut : cutU b with
 | none => exact Tri_map (ruget_cut A c b hb four paths hcut) (fun _ => uz) (fun _ _ => ⟨uz_g, rfl⟩) (fun _ _ => rfl) (fun _ _ => inn_all uz_keeps)
 | some x =>
  obtain ⟨g, s, k⟩ := x
  dsimp only
  cases hl : getR paths [] g with
  | none =>
   cases hm : getR paths [] k with
   | none => exact Tri_map (ruget_b3 A c b g s k hb four paths hcut hl hm) (fun _ => uz) (fun _ _ => ⟨uz_g, rfl⟩) (fun _ _ => rfl) (fun _ _ => inn_all uz_keeps)
   | some m => exact Tri_map (ruget_b2 A c b g s k hb four paths hcut hl m hm) (fun _ => uz) (fun _ _ => ⟨uz_g, rfl⟩) (fun _ _ => rfl) (fun _ _ => inn_all uz_keeps)
  | some l =>
   cases hm : getR paths [] k with
   | none => exact Tri_map (ruget_b1 A c b g s k hb four paths hcut l hl hm) (fun _ => uz) (fun _ _ => ⟨uz_g, rfl⟩) (fun _ _ => rfl) (fun _ _ => inn_all uz_keeps)
   | some m =>
    have hll := getR_le hl
    have hml := getR_le hm
    dsimp only
    by_cases hm0 : m.length = 0
    ·rw [if_pos hm0]
     have hme : m = [] := List.eq_nil_of_length_eq_zero hm0
     exact Tri_map (ruget_gone A c b g s k hb four paths hcut l m hl hm hme) (fun u => u) (fun u ⟨h1, h2, h3, h4⟩ => ⟨⟨h3 ▸ az_lim, by rw [h1]; omega, by rw [h2]; exact Nat.zero_le _⟩, by
      show UpS.p u = _
      unfold UpS.p
      rw [h1, h2, h3, h4]⟩) (fun _ _ => rfl) (fun _ _ => inn_all Keeps.refl)
    rw [if_neg hm0]
    have hgl : getG (szF four) s = ((getG (szF four) s).1, (getG (szF four) s).2) := rfl
    by_cases hv : (getG (szF four) s).2 = 1
    ·rw [if_pos hv]
     rw [hv] at hgl
     have hok : OkP (szF four) (getG (szF four) s).1 := get_ok hgl
     exact Tri_map (ruget_fine A c b g s k hb four paths hcut l m hl hm (by omega) _ hgl) (fun u => u) (fun u ⟨h1, h2, h3, h4⟩ => ⟨⟨lim_paU h3 hok, by rw [h1]; omega, by rw [h2]; omega⟩, by
      show UpS.p u = _
      unfold UpS.p
      rw [h1, h2, h3, h4]⟩) (fun _ _ => rfl) (fun _ _ => inn_all Keeps.refl)
    ·rw [if_neg hv]
     exact Tri_map (ruget_soft A c b g s k hb four paths hcut l m hl hm (by omega) _ hv _ hgl) (fun u => u) (fun u ⟨h1, h2, h3, h4⟩ => ⟨⟨h3 ▸ az_lim, by rw [h1, List.length_append]; omega, by rw [h2]; exact Nat.zero_le _⟩, by
      show UpS.p u = _
      unfold UpS.p
      rw [h1, h2, h3, h4]⟩) (fun _ _ => rfl) (fun _ _ => inn_all Keeps.refl)
end Go.Proofs.YteeogabkkblkgaaGreatDoor
