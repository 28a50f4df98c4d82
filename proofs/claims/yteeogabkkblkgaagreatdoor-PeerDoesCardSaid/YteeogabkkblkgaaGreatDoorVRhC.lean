/- Part of a proof of many texts: what the theorem at its end leans on. -/
import Derived.Test.YteeogabkkblkgaaGreatDoorVRhA
namespace Go.Proofs.YteeogabkkblkgaaGreatDoor
set_option maxHeartbeats 1000000000
set_option linter.unusedVariables false
set_option linter.unusedSimpArgs false
open Go.RowKit
attribute [local irreducible] HC HX HO Tri eP adr
theorem each_le {σ : Type} (take : σ → Nat → List UInt8 → σ × Int) (ht : ∀ s c d, (take s c d).2 = -1 ∨ (take s c d).2 = 0) : ∀ (k : Nat) (s : σ) (d : List UInt8), (eachM take k s d).2 = -1 ∨ (eachM take k s d).2 = 0
 | 0, _, _ => .inl rfl
 | _ + 1, _, [] => .inl rfl
 | k + 1, s, [c] => .inr (by rw [eachM_1]; rcases ht s c.toNat [] with h | h <;> rw [h] <;> rfl)
 | k + 1, s, c :: n :: r => by
  by_cases h : r.length < n.toNat
  ·rw [eachM_2 _ _ _ _ _ _ h]
   rcases ht s c.toNat [] with h | h <;> rw [h] <;> exact .inr rfl
  ·by_cases h2 : 0 ≤ (take s c.toNat (r.take n.toNat)).2
   ·rw [eachM_3 _ _ _ _ _ _ h h2]
    exact ht _ _ _
   ·rw [eachM_4 _ _ _ _ _ _ h h2]
    exact each_le take ht k _ _
theorem cap_le (o : OpQ) (c : Nat) (d : List UInt8) : (capM o c d).2 = -1 ∨ (capM o c d).2 = 0 := by
 unfold capM
 repeat' split
 all_goals first | exact .inl rfl | exact .inr rfl
theorem rcapsO_t (s b : Nat) (o : OpQ) (A : OA) (l : List UInt8) (hl : l.length ≤ 100000) (hc : l.length ≤ A.2) :
  Tri Tryz.prog 164 [pt s, pt b] [] [cel b TQ [.slice A.1 l.length A.2, .bool false], ownB A l, opCel s o] (fun x : OpQ => (eachM capM l.length o l).2 < 0 → x = (eachM capM l.length o l).1)
   (fun _ => .bool (decide ((eachM capM l.length o l).2 < 0))) (fun x => [opCel s x]) :=
 Tri_keeps (Keeps.cons Ent.rfl_ (Keeps.cons own_byte Keeps.refl)) (rcaps_t s b o A.1 A.2 l hl hc)
set_option maxRecDepth 100000 in
theorem roget_t (A : Option Addr) (c : Nat) (b : List UInt8) (hb : b.length ≤ 100000) (hc : b.length ≤ c) :
  Tri Tryz.prog 114 [.slice A b.length c] [arr bE 1 A b] [] (fun _ : OA => True) (fun z => .tuple #[opV (opM b).1, noV (opM b).2 z.1 z.2]) (fun z => [ownB z (opM b).2.d]) := by
 by_cases h1 : b.length = 0 ∨ b.getD 0 0 ≠ 4
 ·rw [opM_0 h1]
  dsimp only [noV] at ⊢
  rcases b with _ | ⟨x, b⟩
  ·refine Tri_in Tryz.func114 rfl (fun w0 S0 => ?_)
   repeat' (first | refine SY ?_ | refine SB ?_ | (refine S2 ?_; intro _) | fail)
   rename_i bn
   (refine SRt ?_; unfold RetQ; refine ⟨(some ⟨bn, 0, none⟩, 2), trivial, rfl, permA⟩)
  ·have hx : x ≠ 4 := by
    rcases h1 with h | h
    ·simp at h
    ·exact h
   have hxz : ¬ ((x.toNat : Int) = 4) := fun h => hx (u8_eq.1 (by rw [h]; rfl))
   have h0 : (x :: b)[0]? = some x := rfl
   have h0z : ¬ (((x :: b).length : Int) = 0) := by simp only [List.length_cons]; omega
   refine Tri_in Tryz.func114 rfl (fun w0 S0 => ?_)
   repeat' (first | refine SY ?_ | refine SB ?_ | (refine S2 ?_; intro _) | fail)
   rename_i bn
   (refine SRt ?_; unfold RetQ; refine ⟨(some ⟨bn, 0, none⟩, 2), trivial, rfl, permA⟩)
 have hb0 : 0 < b.length := by omega
 obtain ⟨x0, hx0⟩ : ∃ x, b[0]? = some x := ⟨b[0], List.getElem?_eq_getElem hb0⟩
 have hx04 : x0 = 4 := by
  have : b.getD 0 0 = 4 := by
   rcases Decidable.em (b.getD 0 0 = 4) with h | h
   ·exact h
   ·exact absurd (.inr h) h1
  rw [List.getD_eq_getElem?_getD, hx0] at this
  exact this
 have hx0z : (x0.toNat : Int) = 4 := by rw [hx04]; rfl
 have hb0z : ¬ ((b.length : Int) = 0) := by omega
 by_cases h2 : b.length < 10 ∨ (b.getD 9 0).toNat + 10 ≠ b.length
 ·rw [opM_1 h1 h2]
  dsimp only [noV] at ⊢
  by_cases h10 : b.length < 10
  ·have h10z : (b.length : Int) < 10 := by omega
   refine Tri_in Tryz.func114 rfl (fun w0 S0 => ?_)
   repeat' (first | refine SY ?_ | (refine KC ?_; refine HO_callq rfl rfl rfl rfl (rnote_t _) (fun _ _ => rfl) (trivial) rfl rfl sqA ?_) | refine SB ?_ | (refine S2 ?_; intro _) | fail)
   (refine SRt ?_; unfold RetQ; refine ⟨(none, 0), trivial, rfl, (Keeps.add (fun w => own_nil w) Keeps.nil)⟩)
  ·have h10z : ¬ (b.length : Int) < 10 := by omega
   obtain ⟨x9, hx9⟩ : ∃ x, b[9]? = some x := ⟨b[9], List.getElem?_eq_getElem (by omega)⟩
   have hx9u := x9.toNat_lt
   have hd9 : b.getD 9 0 = x9 := by rw [List.getD_eq_getElem?_getD, hx9]; rfl
   rw [hd9] at h2
   have h9z : ¬ ((x9.toNat : Int) = (b.length : Int) - 10) := by omega
   refine Tri_in Tryz.func114 rfl (fun w0 S0 => ?_)
   repeat' (first | refine SY ?_ | (refine KC ?_; refine HO_callq rfl rfl rfl rfl (rnote_t _) (fun _ _ => rfl) (trivial) rfl rfl sqA ?_) | refine SB ?_ | (refine S2 ?_; intro _) | fail)
   (refine SRt ?_; unfold RetQ; refine ⟨(none, 0), trivial, rfl, (Keeps.add (fun w => own_nil w) Keeps.nil)⟩)
 rw [opM_2 h1 h2]
 have h10z : ¬ (b.length : Int) < 10 := by omega
 obtain ⟨x9, hx9⟩ : ∃ x, b[9]? = some x := ⟨b[9], List.getElem?_eq_getElem (by omega)⟩
 have hx9u := x9.toNat_lt
 have hd9 : b.getD 9 0 = x9 := by rw [List.getD_eq_getElem?_getD, hx9]; rfl
 rw [hd9] at h2
 have h9z : (x9.toNat : Int) = (b.length : Int) - 10 := by omega
 have l10 : (b.drop 10).length = b.length - 10 := List.length_drop
 have g1 : ∀ cc, Tri Tryz.prog 77 [.slice (cutA A 1 c 1) 2 cc] [arr bE 1 (cutA A 1 c 1) ((b.drop 1).take 2)] [] (fun _ : Unit => True) (fun _ => .int .i64 (ge ((b.drop 1).take 2))) (fun _ => []) := fun cc => rget_t _ _ cc _ (by rw [List.length_take, List.length_drop]; omega) (by rw [List.length_take]; omega)
 have g2 : ∀ cc, Tri Tryz.prog 77 [.slice (cutA A 1 c 3) 2 cc] [arr bE 1 (cutA A 1 c 3) ((b.drop 3).take 2)] [] (fun _ : Unit => True) (fun _ => .int .i64 (ge ((b.drop 3).take 2))) (fun _ => []) := fun cc => rget_t _ _ cc _ (by rw [List.length_take, List.length_drop]; omega) (by rw [List.length_take]; omega)
 have g3 : ∀ cc, Tri Tryz.prog 77 [.slice (cutA A 1 c 5) 4 cc] [arr bE 1 (cutA A 1 c 5) ((b.drop 5).take 4)] [] (fun _ : Unit => True) (fun _ => .int .i64 (ge ((b.drop 5).take 4))) (fun _ => []) := fun cc => rget_t _ _ cc _ (by rw [List.length_take, List.length_drop]; omega) (by rw [List.length_take]; omega)
 have hn3l : ge ((b.drop 5).take 4) < 4294967296 := by
  have := ge_lt ((b.drop 5).take 4)
  have hl : ((b.drop 5).take 4).length = 4 := by rw [List.length_take, List.length_drop]; omega
  rw [hl] at this
  exact this
 obtain ⟨res, hres⟩ : ∃ y, opS b = y := ⟨_, rfl⟩
 rw [hres]
 have hres : eachM parM (b.drop 10).length ⟨ge ((b.drop 1).take 2), ge ((b.drop 3).take 2), ge ((b.drop 5).take 4), false, 0⟩ (b.drop 10) = res := by rw [l10]; exact hres
 obtain ⟨n1, hn1⟩ : ∃ n, ge ((b.drop 1).take 2) = n := ⟨_, rfl⟩
 obtain ⟨n2, hn2⟩ : ∃ n, ge ((b.drop 3).take 2) = n := ⟨_, rfl⟩
 obtain ⟨n3, hn3⟩ : ∃ n, ge ((b.drop 5).take 4) = n := ⟨_, rfl⟩
 rw [hn1] at g1
 rw [hn2] at g2
 rw [hn3] at g3 hn3l
 rw [hn1, hn2, hn3] at hres
 clear h1 hx04 h2 hd9 hn1 hn2 hn3
 obtain ⟨F, hF⟩ : ∃ F : OpQ × NtQ, (if 0 ≤ opE res then (op0, ⟨2, opE res, []⟩) else (res.1, nt0)) = F := ⟨_, rfl⟩
 rw [hF]
 dsimp only [noV]
 refine Tri_in Tryz.func114 rfl (fun w0 S0 => ?_)
 repeat' (first | refine SY ?_ | refine S1 ?_ | (refine S2 ?_; intro _) | refine S5n ?_ | fail)
 rename_i b2 b3 b4
 refine HC_cutP (α := Nat) (fun _ => True) (fun b5 => [(5, pt b5), (4, pt b4), (3, pt b3), (2, pt b2), (0, .slice A b.length c)]) (fun b5 => [opCel b5 ⟨n1, n2, n3, false, 0⟩, cel b4 40 [.int .i64 0, .int .i64 0, .int .u32 0, .bool false, .int .i64 0], cel b3 44 [.int .i64 0, .int .i64 0, .slice none 0 0], cel b2 40 [.int .i64 0, .int .i64 0, .int .u32 0, .bool false, .int .i64 0]]) ?_ ?_
 ·repeat' (first | refine SY ?_ | (refine HC_lex rfl rfl (by decide +kernel) rfl rfl ?_; refine HO_names (l' := [0, 1, 3, 4, 6, 7, 2, 5, 8, 9, 10, 11, 12]) (by decide +kernel) ?_) | (refine HO_2p 2 11 (by decide +kernel) rfl rfl (by decide +kernel) ?_ ?_) | (refine HO_2p 5 11 (by decide +kernel) rfl rfl (by decide +kernel) ?_ ?_) | (refine HO_2p 8 11 (by decide +kernel) rfl rfl (by decide +kernel) ?_ ?_) | (refine KC ?_; refine HO_callq rfl rfl rfl rfl (g1 _) (fun _ _ => rfl) ((AllSrc.via 0 rfl (arr_cut c 1 2 (fun e => by omega)) trivial)) rfl rfl sqA ?_) | (refine KC ?_; refine HO_callq rfl rfl rfl rfl (g2 _) (fun _ _ => rfl) ((AllSrc.via 0 rfl (arr_cut c 3 2 (fun e => by omega)) trivial)) rfl rfl sqA ?_) | (refine KC ?_; refine HO_callq rfl rfl rfl rfl (g3 _) (fun _ _ => rfl) ((AllSrc.via 0 rfl (arr_cut c 5 4 (fun e => by omega)) trivial)) rfl rfl sqA ?_) | refine SB ?_ | (refine S2 ?_; intro _) | fail)
  all_goals rename_i b5
  all_goals exact HX_at b5 trivial ⟨rfl, rfl, rfl, rfl, rfl, trivial⟩ rfl
 intro b5 _
 dsimp only [opCel]
 repeat' (first | refine SY ?_ | (refine HO_k 11 rfl ?_; refine HO_app (k := 0) (k2 := 0) (l2 := (b.drop 10).map bE) rfl rfl rfl rfl rfl rfl rfl rfl ⟨_, rfl, fun _ S w h => (fun S w h => arr_raw S w (arr_drop c 10 (fun e => by omega) S w h)) S w h⟩ lenA WfL.map rfl rfl lenA lenA rfl rfl rfl soA ?_; intro _ _) | refine SB ?_ | (refine S2 ?_; intro _) | fail)
 rename_i b8 b9 A' c' br
 have w1 : 0 + ((b.length : Int).toNat - Int.toNat 10) = (b.drop 10).length := by rw [l10]; simp
 rw [w1]
 simp only [List.nil_append]
 have hdl : (b.drop 10).length ≤ 100000 := by omega
 obtain ⟨d0, hd0⟩ : ∃ d0, b.drop 10 = d0 := ⟨_, rfl⟩
 rw [hd0] at hres hdl ⊢
 refine HC_know (C := d0.length ≤ c') (fun w h => own_cap 2 rfl h) (fun hc' => ?_)
 refine HC_keeps (rw' := [cel br TQ [.slice A' d0.length c', .bool false], ownB (A', c') d0, opCel b5 ⟨n1, n2, n3, false, 0⟩, cel b4 40 [.int .i64 0, .int .i64 0, .int .u32 0, .bool false, .int .i64 0], cel b3 44 [.int .i64 0, .int .i64 0, .slice none 0 0], cel b2 40 [.int .i64 0, .int .i64 0, .int .u32 0, .bool false, .int .i64 0]]) permA ?_
 refine HC_keeps (rw' := rqP br A' c' false d0 ++ [opCel b5 ⟨n1, n2, n3, false, 0⟩, cel b4 40 [.int .i64 0, .int .i64 0, .int .u32 0, .bool false, .int .i64 0], cel b3 44 [.int .i64 0, .int .i64 0, .slice none 0 0], cel b2 40 [.int .i64 0, .int .i64 0, .int .u32 0, .bool false, .int .i64 0]]) (Keeps.cons Ent.rfl_ (Keeps.cons own_byte Keeps.refl)) ?_
 refine HC_loop (α := CpI) (fun x => x.l.length ≤ d0.length ∧ x.l.length ≤ x.rc ∧ eachM parM x.l.length x.o x.l = res) (fun _ => [(6, pt br), (5, pt b5), (4, pt b4), (3, pt b3), (2, pt b2)])
  (fun x => rqP br x.rA x.rc false x.l ++ [opCel b5 x.o, cel b4 40 [.int .i64 0, .int .i64 0, .int .u32 0, .bool false, .int .i64 0], cel b3 44 [.int .i64 0, .int .i64 0, .slice none 0 0], cel b2 40 [.int .i64 0, .int .i64 0, .int .u32 0, .bool false, .int .i64 0]]) (fun x => x.l.length) rfl ⟨A', c', d0, ⟨n1, n2, n3, false, 0⟩⟩ ⟨Nat.le_refl _, hc', hres⟩ ⟨rfl, rfl, rfl, rfl, rfl, trivial⟩ rfl ?_
 clear hres
 intro ⟨rA, rc, l', o'⟩ ⟨hll, hlc, hR⟩
 dsimp only [rqP, opCel, pt, lca, lna] at hll hlc hR ⊢
 rcases l' with _ | ⟨k, l1⟩
 ·have hR : (o', -1) = res := hR
  subst hR
  have hO : opE (o', -1) = faultM o' := rfl
  rw [hO] at hF
  obtain ⟨e, he⟩ : ∃ e, faultM o' = e := ⟨_, rfl⟩
  rw [he] at hF
  unfold faultM at he
  by_cases f1 : o'.as = 0
  ·rw [if_pos f1] at he
   subst he
   rw [if_pos (by decide)] at hF
   subst hF
   repeat' (first | refine SY ?_ | (refine KC ?_; refine HO_callq rfl rfl rfl rfl (rleftF_t _ _ _ _) (fun _ _ => rfl) (srcsA) rfl rfl sqA ?_) | (refine KC ?_; refine HO_callq rfl rfl rfl rfl (rnote_t _) (fun _ _ => rfl) (trivial) rfl rfl sqA ?_) | refine SB ?_ | (refine S2 ?_; intro _) | fail)
   (refine SRt ?_; unfold RetQ; refine ⟨(none, 0), trivial, rfl, (Keeps.add (fun w => own_nil w) Keeps.nil)⟩)
  rw [if_neg f1] at he
  by_cases f2 : o'.hold = 1
  ·rw [if_pos (.inl f2)] at he
   subst he
   rw [if_pos (by decide)] at hF
   subst hF
   repeat' (first | refine SY ?_ | (refine KC ?_; refine HO_callq rfl rfl rfl rfl (rleftF_t _ _ _ _) (fun _ _ => rfl) (srcsA) rfl rfl sqA ?_) | (refine KC ?_; refine HO_callq rfl rfl rfl rfl (rnote_t _) (fun _ _ => rfl) (trivial) rfl rfl sqA ?_) | refine SB ?_ | (refine S2 ?_; intro _) | fail)
   (refine SRt ?_; unfold RetQ; refine ⟨(none, 0), trivial, rfl, (Keeps.add (fun w => own_nil w) Keeps.nil)⟩)
  by_cases f3 : o'.hold = 2
  ·rw [if_pos (.inr f3)] at he
   subst he
   rw [if_pos (by decide)] at hF
   subst hF
   repeat' (first | refine SY ?_ | (refine KC ?_; refine HO_callq rfl rfl rfl rfl (rleftF_t _ _ _ _) (fun _ _ => rfl) (srcsA) rfl rfl sqA ?_) | (refine KC ?_; refine HO_callq rfl rfl rfl rfl (rnote_t _) (fun _ _ => rfl) (trivial) rfl rfl sqA ?_) | refine SB ?_ | (refine S2 ?_; intro _) | fail)
   (refine SRt ?_; unfold RetQ; refine ⟨(none, 0), trivial, rfl, (Keeps.add (fun w => own_nil w) Keeps.nil)⟩)
  rw [if_neg (fun h => h.elim f2 f3)] at he
  by_cases f4 : o'.id = 0
  ·rw [if_pos f4] at he
   subst he
   rw [if_pos (by decide)] at hF
   subst hF
   repeat' (first | refine SY ?_ | (refine KC ?_; refine HO_callq rfl rfl rfl rfl (rleftF_t _ _ _ _) (fun _ _ => rfl) (srcsA) rfl rfl sqA ?_) | (refine KC ?_; refine HO_callq rfl rfl rfl rfl (rnote_t _) (fun _ _ => rfl) (trivial) rfl rfl sqA ?_) | refine SB ?_ | (refine S2 ?_; intro _) | fail)
   (refine SRt ?_; unfold RetQ; refine ⟨(none, 0), trivial, rfl, (Keeps.add (fun w => own_nil w) Keeps.nil)⟩)
  ·rw [if_neg f4] at he
   subst he
   rw [if_neg (by decide)] at hF
   subst hF
   repeat' (first | refine SY ?_ | (refine KC ?_; refine HO_callq rfl rfl rfl rfl (rleftF_t _ _ _ _) (fun _ _ => rfl) (srcsA) rfl rfl sqA ?_) | (refine KC ?_; refine HO_callq rfl rfl rfl rfl (rnote_t _) (fun _ _ => rfl) (trivial) rfl rfl sqA ?_) | refine SB ?_ | (refine S2 ?_; intro _) | fail)
   (refine SRt ?_; unfold RetQ; refine ⟨(none, 0), trivial, rfl, (Keeps.add (fun w => own_nil w) Keeps.nil)⟩)
 have hk8 := k.toNat_lt
 have hlp : 0 < (((k :: l1).length : Nat) : Int) := by simp only [List.length_cons]; omega
 simp only [List.length_cons] at hll hlc
 by_cases hk2 : k.toNat = 2
 rotate_left
 ·have hk2z : ¬ (k.toNat : Int) = 2 := by omega
  have hp4 : ∀ d, parM o' k.toNat d = (o', 4) := fun d => if_pos hk2
  have hres4 : res = (o', 4) := by
   rcases l1 with _ | ⟨n, r⟩
   ·rw [← hR, show ([k] : List UInt8).length = 0 + 1 from rfl, eachM_1, hp4]
    rfl
   ·by_cases hr : r.length < n.toNat
    ·rw [← hR, show (k :: n :: r : List UInt8).length = (n :: r).length + 1 from rfl, eachM_2 _ _ _ _ _ _ hr, hp4]
     rfl
    ·rw [← hR, show (k :: n :: r : List UInt8).length = (n :: r).length + 1 from rfl, eachM_3 _ _ _ _ _ _ hr (by rw [hp4]; show (0 : Int) ≤ 4; decide), hp4]
  subst hres4
  rw [show opE (o', 4) = 4 from rfl, if_pos (by decide)] at hF
  subst hF
  have kk := rnum1_t br rA rc k l1 (by omega) hlc
  repeat' (first | refine SY ?_ | (refine KC ?_; refine HO_callq rfl rfl rfl rfl (rleftF_t _ _ _ _) (fun _ _ => rfl) (srcsA) rfl rfl sqA ?_) | (refine KC ?_; refine HO_callq rfl rfl rfl rfl (rnote_t _) (fun _ _ => rfl) (trivial) rfl rfl sqA ?_) | (refine KC ?_; refine HO_call rfl rfl rfl rfl (kk) rfl (trivial) rfl rfl soA ?_; intro ⟨xA, xc⟩ hx1; dsimp only [rqP, pt, lca, lna]) | refine SB ?_ | (refine S2 ?_; intro _) | fail)
  (refine SRt ?_; unfold RetQ; refine ⟨(none, 0), trivial, rfl, (Keeps.add (fun w => own_nil w) Keeps.nil)⟩)
 have hk2z : (k.toNat : Int) = 2 := by omega
 have hpe : ∀ d, parM o' k.toNat d = eachM capM d.length o' d := fun d => if_neg (fun h => h hk2)
 rcases l1 with _ | ⟨n, r⟩
 ·have hz : opE res = 0 := by
   rw [← hR, show ([k] : List UInt8).length = 0 + 1 from rfl, eachM_1, hpe]
   rfl
  rw [hz, if_pos (by decide)] at hF
  subst hF
  repeat' (first | refine SY ?_ | (refine KC ?_; refine HO_callq rfl rfl rfl rfl (rleftF_t _ _ _ _) (fun _ _ => rfl) (srcsA) rfl rfl sqA ?_) | (refine KC ?_; refine HO_callq rfl rfl rfl rfl (rnote_t _) (fun _ _ => rfl) (trivial) rfl rfl sqA ?_) | (refine KC ?_; refine HO_call rfl rfl rfl rfl (rnum1_t br rA rc k [] (by simp) (by simpa using hlc)) rfl (trivial) rfl rfl soA ?_; intro ⟨xA, xc⟩ hx1; dsimp only [rqP, pt, lca, lna]) | (refine KC ?_; refine HO_call rfl rfl rfl rfl (rnum0_t br xA xc) rfl (trivial) rfl rfl soA ?_; intro ⟨yA, yc⟩ hy1; dsimp only [rqP, pt, lca, lna]) | (refine KC ?_; refine HO_call rfl rfl rfl rfl (rbytesB_t br yA yc [] 0 (by simp) hy1) rfl (trivial) rfl rfl soA ?_; intro ⟨⟨zA, zc⟩, ⟨uA, uc⟩⟩ hz1; dsimp only [rqP, pt, lca, lna]) | refine SB ?_ | (refine S2 ?_; intro _) | fail)
  (refine SRt ?_; unfold RetQ; refine ⟨(none, 0), trivial, rfl, (Keeps.add (fun w => own_nil w) Keeps.nil)⟩)
 have hn8 := n.toNat_lt
 simp only [List.length_cons] at hll hlc
 by_cases hr : r.length < n.toNat
 ·have hz : opE res = 0 := by
   rw [← hR, show (k :: n :: r : List UInt8).length = (n :: r).length + 1 from rfl, eachM_2 _ _ _ _ _ _ hr, hpe]
   rfl
  rw [hz, if_pos (by decide)] at hF
  subst hF
  repeat' (first | refine SY ?_ | (refine KC ?_; refine HO_callq rfl rfl rfl rfl (rleftF_t _ _ _ _) (fun _ _ => rfl) (srcsA) rfl rfl sqA ?_) | (refine KC ?_; refine HO_callq rfl rfl rfl rfl (rnote_t _) (fun _ _ => rfl) (trivial) rfl rfl sqA ?_) | (refine KC ?_; refine HO_call rfl rfl rfl rfl (rnum1_t br rA rc k (n :: r) (by simp; omega) (by simp; omega)) rfl (trivial) rfl rfl soA ?_; intro ⟨xA, xc⟩ hx1; dsimp only [rqP, pt, lca, lna]) | (refine KC ?_; refine HO_call rfl rfl rfl rfl (rnum1_t br xA xc n r (by omega) hx1) rfl (trivial) rfl rfl soA ?_; intro ⟨yA, yc⟩ hy1; dsimp only [rqP, pt, lca, lna]) | (refine KC ?_; refine HO_call rfl rfl rfl rfl (rbytesS_t br yA yc r n.toNat hr (by omega) hy1) rfl (trivial) rfl rfl soA ?_; intro ⟨⟨zA, zc⟩, ⟨uA, uc⟩⟩ hz1; dsimp only [rqP, pt, lca, lna]) | refine SB ?_ | (refine S2 ?_; intro _) | fail)
  (refine SRt ?_; unfold RetQ; refine ⟨(none, 0), trivial, rfl, (Keeps.add (fun w => own_nil w) Keeps.nil)⟩)
 have hstep : (0 ≤ (parM o' k.toNat (r.take n.toNat)).2 → parM o' k.toNat (r.take n.toNat) = res) ∧ (¬ 0 ≤ (parM o' k.toNat (r.take n.toNat)).2 → eachM parM (r.drop n.toNat).length (parM o' k.toNat (r.take n.toNat)).1 (r.drop n.toNat) = res) := by
  rw [show (k :: n :: r : List UInt8).length = (n :: r).length + 1 from rfl] at hR
  refine ⟨fun h => ?_, fun h => ?_⟩
  ·rw [eachM_3 _ _ _ _ _ _ hr h] at hR
   exact hR
  ·rw [eachM_4 _ _ _ _ _ _ hr h] at hR
   rw [eachM_fuel parM _ (n :: r).length _ _ (Nat.le_refl _) (by simp only [List.length_drop, List.length_cons]; omega)]
   exact hR
 clear hR
 rw [hpe] at hstep
 have c3 := fun yA yc hy => rbytesL_t br yA yc r n.toNat (by omega) (by omega) hy
 have hld : (r.drop n.toNat).length ≤ r.length := by rw [List.length_drop]; omega
 obtain ⟨d, hd⟩ : ∃ d, r.take n.toNat = d := ⟨_, rfl⟩
 obtain ⟨q, hq⟩ : ∃ q, r.drop n.toNat = q := ⟨_, rfl⟩
 have hdl2 : d.length ≤ 255 := by rw [← hd, List.length_take]; omega
 rw [hd] at hstep
 rw [hq] at hstep hld
 rw [hd, hq] at c3
 have cp := fun bx zA zc (h : d.length ≤ zc) => rcapsO_t b5 bx o' (zA, zc) d (by omega) h
 have hle := each_le capM cap_le d.length o' d
 obtain ⟨⟨V1, V2⟩, hV⟩ : ∃ V, eachM capM d.length o' d = V := ⟨_, rfl⟩
 rw [hV] at hstep hle
 simp only [hV] at cp
 dsimp only at hle hstep
 rcases hle with rfl | rfl
 ·have hnx := hstep.2 (by decide)
  simp only [show (decide ((-1 : Int) < 0)) = true from rfl] at cp
  repeat' (first | refine SY ?_ | (refine KC ?_; refine HO_callq rfl rfl rfl rfl (rleftF_t _ _ _ _) (fun _ _ => rfl) (srcsA) rfl rfl sqA ?_) | (refine KC ?_; refine HO_callq rfl rfl rfl rfl (rnote_t _) (fun _ _ => rfl) (trivial) rfl rfl sqA ?_) | (refine KC ?_; refine HO_call rfl rfl rfl rfl (rnum1_t br rA rc k (n :: r) (by simp; omega) (by simp; omega)) rfl (trivial) rfl rfl soA ?_; intro ⟨xA, xc⟩ hx1; dsimp only [rqP, pt, lca, lna]) | (refine KC ?_; refine HO_call rfl rfl rfl rfl (rnum1_t br xA xc n r (by omega) hx1) rfl (trivial) rfl rfl soA ?_; intro ⟨yA, yc⟩ hy1; dsimp only [rqP, pt, lca, lna]) | (refine KC ?_; refine HO_call rfl rfl rfl rfl (c3 yA yc hy1) rfl (trivial) rfl rfl soA ?_; intro ⟨⟨zA, zc⟩, ⟨uA, uc⟩⟩ hz1; dsimp only [rqP, pt, lca, lna]) | (refine KC ?_; refine HO_callP rfl rfl rfl rfl (cp _ zA zc hz1.1) findA (trivial) rfl rfl soA ?_; intro y hy; dsimp only [lca, lna]) | refine SB ?_ | (refine S2 ?_; intro _) | fail)
  obtain rfl : y = V1 := hy (by decide)
  refine HX_keeps (rw' := rqP br uA uc false q ++ [opCel b5 y, cel b4 40 [.int .i64 0, .int .i64 0, .int .u32 0, .bool false, .int .i64 0], cel b3 44 [.int .i64 0, .int .i64 0, .slice none 0 0], cel b2 40 [.int .i64 0, .int .i64 0, .int .u32 0, .bool false, .int .i64 0]]) permA ?_
  exact HX_at ⟨uA, uc, q, y⟩ ⟨⟨by simp only; omega, hz1.2, hnx⟩, by simp only [List.length_cons]; omega⟩ ⟨rfl, rfl, rfl, rfl, rfl, trivial⟩ rfl
 ·have hz := hstep.1 (by decide)
  subst hz
  rw [show opE (V1, 0) = 0 from rfl, if_pos (by decide)] at hF
  subst hF
  simp only [show (decide ((0 : Int) < 0)) = false from rfl] at cp
  repeat' (first | refine SY ?_ | (refine KC ?_; refine HO_callq rfl rfl rfl rfl (rleftF_t _ _ _ _) (fun _ _ => rfl) (srcsA) rfl rfl sqA ?_) | (refine KC ?_; refine HO_callq rfl rfl rfl rfl (rnote_t _) (fun _ _ => rfl) (trivial) rfl rfl sqA ?_) | (refine KC ?_; refine HO_call rfl rfl rfl rfl (rnum1_t br rA rc k (n :: r) (by simp; omega) (by simp; omega)) rfl (trivial) rfl rfl soA ?_; intro ⟨xA, xc⟩ hx1; dsimp only [rqP, pt, lca, lna]) | (refine KC ?_; refine HO_call rfl rfl rfl rfl (rnum1_t br xA xc n r (by omega) hx1) rfl (trivial) rfl rfl soA ?_; intro ⟨yA, yc⟩ hy1; dsimp only [rqP, pt, lca, lna]) | (refine KC ?_; refine HO_call rfl rfl rfl rfl (c3 yA yc hy1) rfl (trivial) rfl rfl soA ?_; intro ⟨⟨zA, zc⟩, ⟨uA, uc⟩⟩ hz1; dsimp only [rqP, pt, lca, lna]) | (refine KC ?_; refine HO_callP rfl rfl rfl rfl (cp _ zA zc hz1.1) findA (trivial) rfl rfl soA ?_; intro y hy; dsimp only [lca, lna]) | refine SB ?_ | (refine S2 ?_; intro _) | fail)
  (refine SRt ?_; unfold RetQ; refine ⟨(none, 0), trivial, rfl, (Keeps.add (fun w => own_nil w) Keeps.nil)⟩)
end Go.Proofs.YteeogabkkblkgaaGreatDoor
