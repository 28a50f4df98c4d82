/- Part of a proof of many texts: what the theorem at its end leans on. -/
import Derived.Test.YteeogabkkblkgaaGreatDoorVPeH
import Derived.Test.YteeogabkkblkgaaGreatDoorVPeQ
import Derived.Test.YteeogabkkblkgaaGreatDoorVKc
namespace Go.Proofs.YteeogabkkblkgaaGreatDoor
set_option maxHeartbeats 1000000000
set_option linter.unusedVariables false
set_option linter.unusedSimpArgs false
open Go.RowKit
attribute [local irreducible] HC HX HO Tri eP adr
theorem head_t (A : Option Addr) (c : Nat) (b : List UInt8) (hb : b.length ≤ 1000000) (hc : b.length ≤ c) : Tri Tryz.prog 96 [.slice A b.length c] [arr bE 1 A b, leW] [] (fun _ : OA => True) (fun z => .tuple #[.int .i64 (headM b).1, .int .i64 (headM b).2.1, noV (headM b).2.2 z.1 z.2]) (fun z => [ownB z (headM b).2.2.d]) := by
 unfold headM
 by_cases h1 : b.length < 19
 ·rw [if_pos h1]
  have h1z : (b.length : Int) < 19 := by omega
  refine Tri_in Tryz.func96 rfl (fun w0 S0 => ?_)
  repeat' (first | refine SX ?_ | refine SB ?_ | (refine S2 ?_; intro _) | fail)
  (refine SRt ?_; unfold RetQ; refine ⟨(none, 0), trivial, rfl, (Keeps.add (fun w => own_nil w) Keeps.nil)⟩)
 rw [if_neg h1]
 have h1z : ¬ (b.length : Int) < 19 := by omega
 have h16 : (b.take 16).length = 16 := by rw [List.length_take]; omega
 have c1 := containsB_t A 16 c (b.take 16) h16.symm (by omega) 133 [] [] (fun c => decide (c ≠ 255)) (fun x _ => not255_t x)
 cases h2 : (b.take 16).any (fun c => decide (c ≠ 255)) with
 | true =>
  rw [h2] at c1
  rw [if_pos rfl]
  have c2 := wrong_t 1 none 0 [] (by decide)
  refine Tri_in Tryz.func96 rfl (fun w0 S0 => ?_)
  repeat' (first | refine SX ?_ | (refine KC ?_; refine HO_callq rfl rfl rfl rfl (c1) (fun _ _ => rfl) ((AllSrc.via 0 rfl (arr_take 16) trivial)) rfl rfl sqA ?_) | (refine KC ?_; refine HO_call rfl rfl rfl rfl (c2) rfl ((AllSrc.free (fun w => arr_nil _ w) trivial)) rfl rfl soA ?_; intro z hz; dsimp only [noV, lca, lna]) | refine SB ?_ | (refine S2 ?_; intro _) | fail)
  (refine SRt ?_; unfold RetQ; refine ⟨z, trivial, rfl, permA⟩)
 | false =>
  rw [h2] at c1
  rw [if_neg (by decide)]
  obtain ⟨a16, g16⟩ : ∃ e, b[16]? = some e := ⟨b[16], List.getElem?_eq_getElem (by omega)⟩
  obtain ⟨a17, g17⟩ : ∃ e, b[17]? = some e := ⟨b[17], List.getElem?_eq_getElem (by omega)⟩
  obtain ⟨a18, g18⟩ : ∃ e, b[18]? = some e := ⟨b[18], List.getElem?_eq_getElem (by omega)⟩
  have d16 : b.getD 16 0 = a16 := by rw [List.getD_eq_getElem?_getD, g16]; rfl
  have d17 : b.getD 17 0 = a17 := by rw [List.getD_eq_getElem?_getD, g17]; rfl
  have d18 : b.getD 18 0 = a18 := by rw [List.getD_eq_getElem?_getD, g18]; rfl
  rw [d16, d17, d18]
  have hln : ((b.drop 16).take 2).length = 2 := by rw [List.length_take, List.length_drop]; omega
  obtain ⟨l2, hl2⟩ : ∃ l2, (b.drop 16).take 2 = l2 := ⟨_, rfl⟩
  have c3 := nget_t (cutA A 1 c 16) 2 (c - 16) ((b.drop 16).take 2) hln.symm
  have hg : ngetR ((b.drop 16).take 2) = (((ge ((b.drop 16).take 2) : Nat) : Int), 0) := if_neg (by rw [hln]; omega)
  rw [hg] at c3
  dsimp only at c3
  have h18 : a18.toNat < 256 := a18.toNat_lt
  have c4 := fknown_t a18.toNat
  cases h3 : knownM (a18.toNat : Int) with
  | false =>
   rw [h3] at c4
   rw [if_pos rfl]
   have c5 := fun bn => wrong_t 3 (some ⟨bn, 0, none⟩) 1 [a18] (by simp)
   refine Tri_in Tryz.func96 rfl (fun w0 S0 => ?_)
   repeat' (first | refine SX ?_ | (refine KC ?_; refine HO_callq rfl rfl rfl rfl (c1) (fun _ _ => rfl) ((AllSrc.via 0 rfl (arr_take 16) trivial)) rfl rfl sqA ?_) | (refine KC ?_; refine HO_callq rfl rfl rfl rfl (c3) (fun _ _ => rfl) ((AllSrc.via 0 rfl (arr_cut c 16 2 (fun e => by omega)) trivial)) rfl rfl sqA ?_) | (refine KC ?_; refine HO_callq rfl rfl rfl rfl (c4) (fun _ _ => rfl) (trivial) rfl rfl sqA ?_) | (refine KC ?_; refine HO_call rfl rfl rfl rfl (c5 _) rfl (srcsA) rfl rfl soA ?_; intro z hz; dsimp only [noV, lca, lna]) | refine SB ?_ | (refine S2 ?_; intro _) | fail)
   (refine SRt ?_; unfold RetQ; refine ⟨z, trivial, rfl, permA⟩)
  | true =>
   rw [h3] at c4
   rw [if_neg (by decide)]
   obtain ⟨gl, hgl⟩ : ∃ gl : Nat, ge ((b.drop 16).take 2) = gl := ⟨_, rfl⟩
   rw [hgl] at c3 ⊢
   have c6 := ffits_t a18.toNat gl h3
   cases h4 : fitsM (a18.toNat : Int) (gl : Int) with
   | false =>
    rw [h4] at c6
    rw [if_pos rfl]
    have c5 := fun bn => wrong_t 2 (some ⟨bn, 0, none⟩) 2 [a16, a17] (by simp)
    refine Tri_in Tryz.func96 rfl (fun w0 S0 => ?_)
    repeat' (first | refine SX ?_ | (refine KC ?_; refine HO_callq rfl rfl rfl rfl (c1) (fun _ _ => rfl) ((AllSrc.via 0 rfl (arr_take 16) trivial)) rfl rfl sqA ?_) | (refine KC ?_; refine HO_callq rfl rfl rfl rfl (c3) (fun _ _ => rfl) ((AllSrc.via 0 rfl (arr_cut c 16 2 (fun e => by omega)) trivial)) rfl rfl sqA ?_) | (refine KC ?_; refine HO_callq rfl rfl rfl rfl (c4) (fun _ _ => rfl) (trivial) rfl rfl sqA ?_) | (refine KC ?_; refine HO_callq rfl rfl rfl rfl (c6) (fun _ _ => rfl) ((AllSrc.at_ 1 rfl trivial)) rfl rfl sqA ?_) | (refine KC ?_; refine HO_call rfl rfl rfl rfl (c5 _) rfl (srcsA) rfl rfl soA ?_; intro z hz; dsimp only [noV, lca, lna]) | refine SB ?_ | (refine S2 ?_; intro _) | fail)
    (refine SRt ?_; unfold RetQ; refine ⟨z, trivial, rfl, permA⟩)
   | true =>
    rw [h4] at c6
    rw [if_neg (by decide)]
    refine Tri_in Tryz.func96 rfl (fun w0 S0 => ?_)
    repeat' (first | refine SX ?_ | (refine KC ?_; refine HO_callq rfl rfl rfl rfl (c1) (fun _ _ => rfl) ((AllSrc.via 0 rfl (arr_take 16) trivial)) rfl rfl sqA ?_) | (refine KC ?_; refine HO_callq rfl rfl rfl rfl (c3) (fun _ _ => rfl) ((AllSrc.via 0 rfl (arr_cut c 16 2 (fun e => by omega)) trivial)) rfl rfl sqA ?_) | (refine KC ?_; refine HO_callq rfl rfl rfl rfl (c4) (fun _ _ => rfl) (trivial) rfl rfl sqA ?_) | (refine KC ?_; refine HO_callq rfl rfl rfl rfl (c6) (fun _ _ => rfl) ((AllSrc.at_ 1 rfl trivial)) rfl rfl sqA ?_) | refine SB ?_ | (refine S2 ?_; intro _) | fail)
    (refine SRt ?_; unfold RetQ; refine ⟨(none, 0), trivial, rfl, (Keeps.add (fun w => own_nil w) Keeps.nil)⟩)
def mgK (o : Option (Int × List UInt8)) : Int := match o with
 | none => 0
 | some p => p.1
def mgB (o : Option (Int × List UInt8)) : List UInt8 := match o with
 | none => []
 | some p => p.2
theorem snext_t (s : Nat) (x : StQ) (hx : x.b.length ≤ 65536) (hd : x.n.d.length ≤ 1000000) :
  Tri Tryz.prog 65 [pt s] [leW] [stP s x] (fun _ : OA × OA => True) (fun z => .tuple #[mgV (mgK (nextM x).2.1) z.1.1 (mgB (nextM x).2.1).length z.1.2, .bool (nextM x).2.1.isSome, noV (nextM x).2.2 z.2.1 z.2.2]) (fun z => [ownB z.1 (mgB (nextM x).2.1), ownB z.2 (nextM x).2.2.d, stP s (nextM x).1]) := by
 by_cases h1 : x.n.c ≠ 0
 ·have c1 := told_t s x hd
  refine Tri_open (fun z hz => ?_)
  dsimp only [stF, lca, lna]
  have e : nextM x = (x, none, x.n) := if_pos h1
  rw [e]
  dsimp only [mgK, mgB, mgV, noV, Option.isSome] at c1 ⊢
  refine Tri_in Tryz.func65 rfl (fun w0 S0 => ?_)
  repeat' (first | refine SK ?_ | refine SD ?_ | (refine KC ?_; refine HO_keeps (Keeps.close (φ := fun _ : OA × OA => True) (f := stF s x) z trivial findA) ?_; refine HO_callP rfl rfl rfl rfl c1 findA trivial rfl rfl soA ?_; intro y hy; dsimp only [lca, lna]) | refine SB ?_ | (refine S2 ?_; intro _) | fail)
  (refine SRt ?_; unfold RetQ; refine ⟨((none, 0), y), trivial, rfl, (Keeps.add (fun w => own_nil w) permA)⟩)
 have hn : x.n.c = 0 := by omega
 refine Tri_open (fun z hz => ?_)
 dsimp only [stF, lca, lna]
 refine Tri_know (C := x.b.length ≤ z.1.2) (fun w h => own_cap 2 rfl h) (fun hc => ?_)
 have c2 := head_t z.1.1 z.1.2 x.b (by omega) hc
 have hd2 := headM_d x.b
 by_cases h2 : (headM x.b).2.2.c ≠ 0
 ·rw [next_1 hn h2]
  obtain ⟨⟨K, n, N⟩, hH⟩ : ∃ h, headM x.b = h := ⟨_, rfl⟩
  rw [hH] at c2 h2 hd2 ⊢
  have c1 := told_t s ⟨[], N⟩ (by show N.d.length ≤ 1000000; dsimp only at hd2; omega)
  dsimp only [mgK, mgB, mgV, noV, Option.isSome] at c1 c2 h2 hd2 ⊢
  refine Tri_in Tryz.func65 rfl (fun w0 S0 => ?_)
  repeat' (first | refine SK ?_ | refine SD ?_ | (refine KC ?_; refine HO_call rfl rfl rfl rfl (c2) rfl (srcsA) rfl rfl soA ?_; intro ⟨yA, yc⟩ hy; dsimp only [lca, lna]) | (refine KC ?_; refine HO_keeps ((Keeps.close (φ := fun _ : OA × OA => True) (f := stF s ⟨[], N⟩) ((none, 0), (yA, yc)) trivial (Keeps.pick 4 rfl rfl (Keeps.add (fun w => own_nil w) (Keeps.pick 1 rfl rfl Keeps.refl))))) ?_; refine HO_callP rfl rfl rfl rfl (c1) findA (trivial) rfl rfl soA ?_; intro y hy; dsimp only [lca, lna]) | refine SB ?_ | (refine S2 ?_; intro _) | fail)
  (refine SRt ?_; unfold RetQ; refine ⟨((none, 0), y), trivial, rfl, (Keeps.add (fun w => own_nil w) permA)⟩)
 have h2 : (headM x.b).2.2.c = 0 := by omega
 by_cases h3 : (headM x.b).1 = 0 ∨ (x.b.length : Int) < (headM x.b).2.1
 ·rw [next_2 hn h2 h3]
  have e2 : (decide ((headM x.b).1 = 0) || decide ((x.b.length : Int) < (headM x.b).2.1)) = true := by simpa using h3
  obtain ⟨⟨K, n, N⟩, hH⟩ : ∃ h, headM x.b = h := ⟨_, rfl⟩
  rw [hH] at c2 h2 h3 e2
  dsimp only [mgK, mgB, mgV, noV, Option.isSome] at c2 h2 h3 e2 ⊢
  rcases Decidable.em (K = 0) with hK | hK
  ·refine Tri_in Tryz.func65 rfl (fun w0 S0 => ?_)
   repeat' (first | refine SK ?_ | refine SD ?_ | (refine KC ?_; refine HO_call rfl rfl rfl rfl (c2) rfl (srcsA) rfl rfl soA ?_; intro ⟨yA, yc⟩ hy; dsimp only [lca, lna]) | refine SB ?_ | (refine S2 ?_; intro _) | fail)
   (refine SRt ?_; unfold RetQ; refine ⟨((none, 0), (none, 0)), trivial, rfl, (Keeps.add (fun w => own_nil w) (Keeps.add (fun w => own_nil w) (Keeps.close (φ := fun _ : OA × OA => True) (f := stF s x) z trivial permA)))⟩)
  ·have hlt : (x.b.length : Int) < n := h3.resolve_left hK
   refine Tri_in Tryz.func65 rfl (fun w0 S0 => ?_)
   repeat' (first | refine SK ?_ | refine SD ?_ | (refine KC ?_; refine HO_call rfl rfl rfl rfl (c2) rfl (srcsA) rfl rfl soA ?_; intro ⟨yA, yc⟩ hy; dsimp only [lca, lna]) | refine SB ?_ | (refine S2 ?_; intro _) | fail)
   (refine SRt ?_; unfold RetQ; refine ⟨((none, 0), (none, 0)), trivial, rfl, (Keeps.add (fun w => own_nil w) (Keeps.add (fun w => own_nil w) (Keeps.close (φ := fun _ : OA × OA => True) (f := stF s x) z trivial permA)))⟩)
 ·rw [next_3 hn h2 h3]
  have h4 := headM_n x.b (fun e => h3 (.inl e))
  obtain ⟨⟨K, n, N⟩, hH⟩ : ∃ h, headM x.b = h := ⟨_, rfl⟩
  rw [hH] at c2 h2 h3 h4 ⊢
  dsimp only at h4 h3 h2
  obtain ⟨q, rfl⟩ := Int.eq_ofNat_of_zero_le (show 0 ≤ n by omega)
  have hK : ¬ K = 0 := fun e => h3 (.inl e)
  have hq : 19 ≤ q ∧ q ≤ x.b.length := by omega
  have el : (x.b.take ((q : Int).toNat)).drop 19 = (x.b.drop 19).take (q - 19) := by rw [Int.toNat_natCast, List.drop_take]
  have hl1 : ((x.b.drop 19).take (q - 19)).length = q - 19 := by rw [List.length_take, List.length_drop]; omega
  have hl2 : (x.b.drop q).length = x.b.length - q := List.length_drop
  rw [el, Int.toNat_natCast]
  dsimp only [mgK, mgB, mgV, noV, Option.isSome] at c2 h2 h3 ⊢
  have c3 := fun A c => nclone_t A (q - 19) c ((x.b.drop 19).take (q - 19)) hl1.symm (by rw [hl1]; omega)
  have c4 := fun A c => nclone_t A (x.b.length - q) c (x.b.drop q) hl2.symm (by rw [hl2]; omega)
  refine Tri_in Tryz.func65 rfl (fun w0 S0 => ?_)
  repeat' (first | refine SK ?_ | refine SD ?_ | (refine KC ?_; refine HO_call rfl rfl rfl rfl (c2) rfl (srcsA) rfl rfl soA ?_; intro ⟨yA, yc⟩ hy; dsimp only [lca, lna]) | (refine KC ?_; refine HO_call rfl rfl rfl rfl (c3 _ _) rfl ((by first | exact AllSrc.via 6 rfl (fun S w h => arr_cut _ _ _ (fun e => by omega) S w (own_byte S w h)) trivial | exact AllSrc.via 7 rfl (fun S w h => arr_cut _ _ _ (fun e => by omega) S w (own_byte S w h)) trivial)) rfl rfl soA ?_; intro ⟨uA, uc⟩ hu; dsimp only [lca, lna]) | (refine KC ?_; refine HO_call rfl rfl rfl rfl (c4 _ _) rfl ((by first | exact AllSrc.via 7 rfl (fun S w h => arr_drop _ _ (fun e => by omega) S w (own_byte S w h)) trivial | exact AllSrc.via 8 rfl (fun S w h => arr_drop _ _ (fun e => by omega) S w (own_byte S w h)) trivial)) rfl rfl soA ?_; intro ⟨vA, vc⟩ hu; dsimp only [lca, lna]) | refine SB ?_ | (refine S2 ?_; intro _) | fail)
  (refine SRt ?_; unfold RetQ; refine ⟨((uA, uc), (none, 0)), trivial, rfl, (Keeps.pick 2 rfl rfl (Keeps.add (fun w => own_nil w) (Keeps.close (φ := fun _ : OA × OA => True) (f := stF s ⟨x.b.drop q, x.n⟩) ((vA, vc), z.2) trivial permA)))⟩)
end Go.Proofs.YteeogabkkblkgaaGreatDoor
