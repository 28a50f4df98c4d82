/- Part of a proof of many texts: what the theorem at its end leans on. -/
import Derived.Test.YteeogabkkblkgaaGreatDoorVPeW
import Derived.Test.YteeogabkkblkgaaGreatDoorVPeH
import Derived.Test.YteeogabkkblkgaaGreatDoorVPeR
namespace Go.Proofs.YteeogabkkblkgaaGreatDoor
set_option maxHeartbeats 1000000000
set_option linter.unusedVariables false
set_option linter.unusedSimpArgs false
open Go.RowKit
attribute [local irreducible] HC HX HO Tri eP adr
theorem rem4 (n : Nat) : bRem (n : Int) 4 = ((n % 4 : Nat) : Int) := by
 unfold bRem
 rw [Int.tmod_eq_emod_of_nonneg (by omega)]
 omega
theorem ocap_t (s : Nat) (o : OpQ) (k : Nat) (A : Option Addr) (c : Nat) (d : List UInt8) (hk : k < 256) (hd : d.length ≤ 255) (hc : d.length ≤ c) :
  Tri Tryz.prog 179 [pt s, .int .i64 k, .slice A d.length c] [arr bE 1 A d] [sdP s o] (fun _ : Unit => True) (fun _ => .int .i64 (capM o k d).2) (fun _ => [sdP s (capM o k d).1]) := by
 have hr := rem4 d.length
 unfold capM
 dsimp only [sdP, sdC, pt]
 by_cases h1 : k = 65 ∧ d.length = 4
 ·rw [if_pos h1]
  have c1 := nget_t A d.length c d rfl
  have hg : ngetR d = (((ge d : Nat) : Int), 0) := if_neg (by omega)
  rw [hg] at c1
  have k1 : (k : Int) = 65 := by omega
  have k2 : (d.length : Int) = 4 := by omega
  refine Tri_in Tryz.func179 rfl (fun w0 S0 => ?_)
  repeat' (first | refine SK ?_ | refine SD ?_ | (refine KC ?_; refine HO_callq rfl rfl rfl rfl (c1) (fun _ _ => rfl) (srcsA) rfl rfl sqA ?_) | refine SB ?_ | fail)
  (refine SRt ?_; unfold RetQ; refine ⟨(), trivial, rfl, permA⟩)
 rw [if_neg h1]
 by_cases h2 : k = 69 ∧ d.length % 4 = 0
 ·rw [if_pos h2]
  have c1 := opaths_t s o A c d hc (d.length / 4) (by omega) (by omega)
  have k1 : ¬ (k : Int) = 65 := by omega
  have k2 : (k : Int) = 69 := by omega
  rw [h2.2] at hr
  dsimp only [sdP, sdC, pt] at c1
  refine Tri_in Tryz.func179 rfl (fun w0 S0 => ?_)
  repeat' (first | refine SK ?_ | refine SD ?_ | (refine KC ?_; refine HO_callP rfl rfl rfl rfl (c1) findA (srcsA) rfl rfl soA ?_; intro y hy; dsimp only [lca, lna]) | refine SB ?_ | fail)
  (refine SRt ?_; unfold RetQ; refine ⟨(), trivial, rfl, permA⟩)
 rw [if_neg h2]
 by_cases h3 : k = 65
 ·rw [if_pos (.inl h3)]
  have k1 : (k : Int) = 65 := by omega
  have k2 : ¬ (d.length : Int) = 4 := by omega
  have k3 : ¬ (k : Int) = 69 := by omega
  refine Tri_in Tryz.func179 rfl (fun w0 S0 => ?_)
  repeat' (first | refine SK ?_ | refine SD ?_ | refine SB ?_ | fail)
  (refine SRt ?_; unfold RetQ; refine ⟨(), trivial, rfl, permA⟩)
 by_cases h4 : k = 69
 ·rw [if_pos (.inr h4)]
  have k1 : ¬ (k : Int) = 65 := by omega
  have k2 : (k : Int) = 69 := by omega
  have k3 : ¬ (bRem (d.length : Int) 4 = 0) := by omega
  refine Tri_in Tryz.func179 rfl (fun w0 S0 => ?_)
  repeat' (first | refine SK ?_ | refine SD ?_ | refine SB ?_ | fail)
  (refine SRt ?_; unfold RetQ; refine ⟨(), trivial, rfl, permA⟩)
 ·rw [if_neg (by omega)]
  have k1 : ¬ (k : Int) = 65 := by omega
  have k2 : ¬ (k : Int) = 69 := by omega
  refine Tri_in Tryz.func179 rfl (fun w0 S0 => ?_)
  repeat' (first | refine SK ?_ | refine SD ?_ | refine SB ?_ | fail)
  (refine SRt ?_; unfold RetQ; refine ⟨(), trivial, rfl, permA⟩)
theorem oparam_t (s : Nat) (o : OpQ) (k : Nat) (A : Option Addr) (c : Nat) (d : List UInt8) (hk : k < 256) (hd : d.length ≤ 255) (hc : d.length ≤ c) :
  Tri Tryz.prog 142 [pt s, .int .i64 k, .slice A d.length c] [arr bE 1 A d] [sdP s o] (fun _ : Unit => True) (fun _ => .int .i64 (parM o k d).2) (fun _ => [sdP s (parM o k d).1]) := by
 unfold parM
 by_cases h1 : k ≠ 2
 ·rw [if_pos h1]
  have k1 : ¬ (k : Int) = 2 := by omega
  refine Tri_in Tryz.func142 rfl (fun w0 S0 => ?_)
  repeat' (first | refine SD ?_ | refine SB ?_ | fail)
  (refine SRt ?_; unfold RetQ; refine ⟨(), trivial, rfl, permA⟩)
 ·rw [if_neg h1]
  have k1 : (k : Int) = 2 := by omega
  have c1 := each_t (sdP s) 179 [pt s] capM (fun o k A c d h1 h2 h3 => ocap_t s o k A c d h1 h2 h3) o A c d (by omega)
  refine Tri_in Tryz.func142 rfl (fun w0 S0 => ?_)
  repeat' (first | refine SD ?_ | (refine KC ?_; refine HO_callP rfl rfl rfl rfl (c1) findA (srcsA) rfl rfl soA ?_; intro y hy; dsimp only [lca, lna]) | refine SB ?_ | fail)
  (refine SRt ?_; unfold RetQ; refine ⟨(), trivial, rfl, permA⟩)
theorem ofault_t (s : Nat) (o : OpQ) : Tri Tryz.prog 143 [pt s] [sdP s o] [] (fun _ : Unit => True) (fun _ => .int .i64 (faultM o)) (fun _ => []) := by
 unfold faultM
 dsimp only [sdP, sdC, pt]
 by_cases h1 : o.as = 0
 ·rw [if_pos h1]
  refine Tri_in Tryz.func143 rfl (fun w0 S0 => ?_)
  repeat' (first | refine SK ?_ | refine SD ?_ | refine SB ?_ | fail)
  (refine SRt ?_; refine RU ?_)
  rfl
 rw [if_neg h1]
 by_cases h2 : o.hold = 1
 ·rw [if_pos (.inl h2)]
  refine Tri_in Tryz.func143 rfl (fun w0 S0 => ?_)
  repeat' (first | refine SK ?_ | refine SD ?_ | refine SB ?_ | fail)
  (refine SRt ?_; refine RU ?_)
  rfl
 by_cases h3 : o.hold = 2
 ·rw [if_pos (.inr h3)]
  refine Tri_in Tryz.func143 rfl (fun w0 S0 => ?_)
  repeat' (first | refine SK ?_ | refine SD ?_ | refine SB ?_ | fail)
  (refine SRt ?_; refine RU ?_)
  rfl
 rw [if_neg (by omega)]
 by_cases h4 : o.id = 0
 ·rw [if_pos h4]
  refine Tri_in Tryz.func143 rfl (fun w0 S0 => ?_)
  repeat' (first | refine SK ?_ | refine SD ?_ | refine SB ?_ | fail)
  (refine SRt ?_; refine RU ?_)
  rfl
 ·rw [if_neg h4]
  refine Tri_in Tryz.func143 rfl (fun w0 S0 => ?_)
  repeat' (first | refine SK ?_ | refine SD ?_ | refine SB ?_ | fail)
  (refine SRt ?_; refine RU ?_)
  rfl
theorem orefuse_t (k : Int) (A : Option Addr) (c : Nat) (d : List UInt8) (hd : d.length ≤ 1000000) : Tri Tryz.prog 138 [.int .i64 k, .slice A d.length c] [arr bE 1 A d] [] (fun _ : OA => True)
  (fun z => .tuple #[opV op0, noV ⟨2, k, d⟩ z.1 z.2]) (fun z => [ownB z d]) := by
 have c1 := nclone_t A d.length c d rfl (by omega)
 refine Tri_in Tryz.func138 rfl (fun w0 S0 => ?_)
 repeat' (first | (refine KC ?_; refine HO_call rfl rfl rfl rfl (c1) rfl (srcsA) rfl rfl soA ?_; intro y hy; dsimp only [lca, lna]) | refine SB ?_ | (refine S2 ?_; intro _) | fail)
 (refine SRt ?_; unfold RetQ; refine ⟨y, trivial, rfl, permA⟩)
def opS (b : List UInt8) : OpQ × Int := eachM parM (b.length - 10) ⟨(ge ((b.drop 1).take 2) : Nat), (ge ((b.drop 3).take 2) : Nat), (ge ((b.drop 5).take 4) : Nat), false, 0⟩ (b.drop 10)
def opE (x : OpQ × Int) : Int := if x.2 < 0 then faultM x.1 else x.2
theorem opM_0 {b : List UInt8} (h : b.length = 0 ∨ b.getD 0 0 ≠ 4) : opM b = (op0, ⟨2, 1, [0, 4]⟩) := if_pos h
theorem opM_1 {b : List UInt8} (h : ¬ (b.length = 0 ∨ b.getD 0 0 ≠ 4)) (h2 : b.length < 10 ∨ (b.getD 9 0).toNat + 10 ≠ b.length) : opM b = (op0, ⟨2, 0, []⟩) := by
 unfold opM
 rw [if_neg h, if_pos h2]
 rfl
theorem opM_2 {b : List UInt8} (h : ¬ (b.length = 0 ∨ b.getD 0 0 ≠ 4)) (h2 : ¬ (b.length < 10 ∨ (b.getD 9 0).toNat + 10 ≠ b.length)) : opM b = if 0 ≤ opE (opS b) then (op0, ⟨2, opE (opS b), []⟩) else ((opS b).1, nt0) := by
 unfold opM
 rw [if_neg h, if_neg h2]
 rfl
theorem oget_t (A : Option Addr) (c : Nat) (b : List UInt8) (hb : b.length ≤ 100000) (hc : b.length ≤ c) :
  Tri Tryz.prog 98 [.slice A b.length c] [arr bE 1 A b] [] (fun _ : OA => True) (fun z => .tuple #[opV (opM b).1, noV (opM b).2 z.1 z.2]) (fun z => [ownB z (opM b).2.d]) := by
 have cr := fun bn => orefuse_t 1 (some ⟨bn, 0, none⟩) 2 [0, 4] (by simp)
 have cn := fun k => orefuse_t k none 0 [] (by simp)
 by_cases h1 : b.length = 0 ∨ b.getD 0 0 ≠ 4
 ·rw [opM_0 h1]
  dsimp only [noV] at cr cn ⊢
  rcases b with _ | ⟨x, b⟩
  ·refine Tri_in Tryz.func98 rfl (fun w0 S0 => ?_)
   repeat' (first | refine SY ?_ | (refine KC ?_; refine HO_call rfl rfl rfl rfl (cr _) rfl (srcsA) rfl rfl soA ?_; intro ⟨y1, y2⟩ hy; dsimp only [lca, lna]) | refine SB ?_ | (refine S2 ?_; intro _) | fail)
   (refine SRt ?_; unfold RetQ; refine ⟨(y1, y2), trivial, rfl, permA⟩)
  ·have hx : x ≠ 4 := by
    rcases h1 with h | h
    ·simp at h
    ·exact h
   have hxz : ¬ ((x.toNat : Int) = 4) := fun h => hx (u8_eq.1 (by rw [h]; rfl))
   have h0 : (x :: b)[0]? = some x := rfl
   have h0z : ¬ (((x :: b).length : Int) = 0) := by simp only [List.length_cons]; omega
   refine Tri_in Tryz.func98 rfl (fun w0 S0 => ?_)
   repeat' (first | refine SY ?_ | (refine KC ?_; refine HO_call rfl rfl rfl rfl (cr _) rfl (srcsA) rfl rfl soA ?_; intro ⟨y1, y2⟩ hy; dsimp only [lca, lna]) | refine SB ?_ | (refine S2 ?_; intro _) | fail)
   (refine SRt ?_; unfold RetQ; refine ⟨(y1, y2), trivial, rfl, permA⟩)
 have hb0 : 0 < b.length := by omega
 obtain ⟨x0, hx0⟩ : ∃ x, b[0]? = some x := ⟨b[0], List.getElem?_eq_getElem hb0⟩
 have hx04 : x0 = 4 := by
  have : b.getD 0 0 = 4 := by
   rcases Decidable.em (b.getD 0 0 = 4) with h | h
   ·exact h
   ·exact absurd (.inr h) h1
  rw [List.getD_eq_getElem?_getD, hx0] at this
  exact this
 have hx0z : (x0.toNat : Int) = 4 := by rw [hx04]; rfl
 have hb0z : ¬ ((b.length : Int) = 0) := by omega
 by_cases h2 : b.length < 10 ∨ (b.getD 9 0).toNat + 10 ≠ b.length
 ·rw [opM_1 h1 h2]
  dsimp only [noV] at cr cn ⊢
  by_cases h10 : b.length < 10
  ·have h10z : (b.length : Int) < 10 := by omega
   refine Tri_in Tryz.func98 rfl (fun w0 S0 => ?_)
   repeat' (first | refine SY ?_ | (refine KC ?_; refine HO_call rfl rfl rfl rfl (cn _) rfl ((AllSrc.free (fun w => arr_nil _ w) trivial)) rfl rfl soA ?_; intro ⟨y1, y2⟩ hy; dsimp only [lca, lna]) | refine SB ?_ | (refine S2 ?_; intro _) | fail)
   (refine SRt ?_; unfold RetQ; refine ⟨(y1, y2), trivial, rfl, permA⟩)
  ·have h10z : ¬ (b.length : Int) < 10 := by omega
   obtain ⟨x9, hx9⟩ : ∃ x, b[9]? = some x := ⟨b[9], List.getElem?_eq_getElem (by omega)⟩
   have hx9u := x9.toNat_lt
   have hd9 : b.getD 9 0 = x9 := by rw [List.getD_eq_getElem?_getD, hx9]; rfl
   rw [hd9] at h2
   have h9z : ¬ ((x9.toNat : Int) = (b.length : Int) - 10) := by omega
   refine Tri_in Tryz.func98 rfl (fun w0 S0 => ?_)
   repeat' (first | refine SY ?_ | (refine KC ?_; refine HO_call rfl rfl rfl rfl (cn _) rfl ((AllSrc.free (fun w => arr_nil _ w) trivial)) rfl rfl soA ?_; intro ⟨y1, y2⟩ hy; dsimp only [lca, lna]) | refine SB ?_ | (refine S2 ?_; intro _) | fail)
   (refine SRt ?_; unfold RetQ; refine ⟨(y1, y2), trivial, rfl, permA⟩)
 rw [opM_2 h1 h2]
 have h10z : ¬ (b.length : Int) < 10 := by omega
 obtain ⟨x9, hx9⟩ : ∃ x, b[9]? = some x := ⟨b[9], List.getElem?_eq_getElem (by omega)⟩
 have hx9u := x9.toNat_lt
 have hd9 : b.getD 9 0 = x9 := by rw [List.getD_eq_getElem?_getD, hx9]; rfl
 rw [hd9] at h2
 have h9z : (x9.toNat : Int) = (b.length : Int) - 10 := by omega
 have l1 : (b.drop 1).length = b.length - 1 := List.length_drop
 have hfrom := fun A c => nfrom_t A (b.length - 1) c (b.drop 1) l1.symm (by omega)
 have d3 : (b.drop 1).drop 2 = b.drop 3 := List.drop_drop
 have d5 : (b.drop 3).drop 2 = b.drop 5 := List.drop_drop
 have k1 := fun rb A c hc => numL_t rb A c (b.drop 1) 2 (by decide) (by rw [List.length_drop]; omega) (by rw [List.length_drop]; omega) hc
 have k2 := fun rb A c hc => numL_t rb A c (b.drop 3) 2 (by decide) (by rw [List.length_drop]; omega) (by rw [List.length_drop]; omega) hc
 have k3 := fun rb A c hc => numL_t rb A c (b.drop 5) 4 (by decide) (by rw [List.length_drop]; omega) (by rw [List.length_drop]; omega) hc
 simp only [d3] at k1
 simp only [d5] at k2
 have l10 : (b.drop 10).length = b.length - 10 := List.length_drop
 obtain ⟨n1, hn1⟩ : ∃ n, ge ((b.drop 1).take 2) = n := ⟨_, rfl⟩
 obtain ⟨n2, hn2⟩ : ∃ n, ge ((b.drop 3).take 2) = n := ⟨_, rfl⟩
 obtain ⟨n3, hn3⟩ : ∃ n, ge ((b.drop 5).take 4) = n := ⟨_, rfl⟩
 have hn3l : n3 < 4294967296 := by
  rw [← hn3]
  have := ge_lt ((b.drop 5).take 4)
  have hl : ((b.drop 5).take 4).length = 4 := by rw [List.length_take, List.length_drop]; omega
  rw [hl] at this
  exact this
 have cE := fun s A c => each_t (sdP s) 142 [pt s] parM (fun o k A c d h1 h2 h3 => oparam_t s o k A c d h1 h2 h3) ⟨n1, n2, n3, false, 0⟩ A c (b.drop 10) (by rw [l10]; omega)
 rw [l10] at cE
 have eS : opS b = eachM parM (b.length - 10) ⟨n1, n2, n3, false, 0⟩ (b.drop 10) := by
  unfold opS
  rw [hn1, hn2, hn3]
 simp only [hn1] at k1
 simp only [hn2] at k2
 simp only [hn3] at k3
 rw [← eS] at cE
 obtain ⟨⟨o, q⟩, hq⟩ : ∃ y, opS b = y := ⟨_, rfl⟩
 rw [hq] at cE ⊢
 have cF := fun s => ofault_t s o
 clear h1 hx04 h2 hd9 eS hq hn1 hn2 hn3 d3 d5
 obtain ⟨e, he⟩ : ∃ e, opE (o, q) = e := ⟨_, rfl⟩
 rw [he]
 dsimp only [noV, rdP] at cr cn cE k1 k2 k3 ⊢
 by_cases hq0 : q < 0
 ·have hf : faultM o = e := by rw [← he]; unfold opE; rw [if_pos hq0]
  rw [hf] at cF
  by_cases hf0 : 0 ≤ e
  ·rw [if_pos hf0]
   refine Tri_in Tryz.func98 rfl (fun w0 S0 => ?_)
   repeat' (first | refine SY ?_ | (refine KC ?_; refine HO_callP rfl rfl rfl rfl (hfrom _ _) findA ((AllSrc.via 0 rfl (arr_drop _ _ (fun e => by omega)) trivial)) rfl rfl soA ?_; intro ⟨rb, ⟨rA, rc⟩⟩ hr; dsimp only [rdP, pt, lca, lna]) | (refine KC ?_; refine HO_callP rfl rfl rfl rfl (k1 rb rA rc hr) findA (trivial) rfl rfl soA ?_; intro ⟨uA, uc⟩ hu; dsimp only [lca, lna]) | (refine KC ?_; refine HO_callP rfl rfl rfl rfl (k2 rb uA uc hu) findA (trivial) rfl rfl soA ?_; intro ⟨vA, vc⟩ hv; dsimp only [lca, lna]) | (refine KC ?_; refine HO_callP rfl rfl rfl rfl (k3 rb vA vc hv) findA (trivial) rfl rfl soA ?_; intro ⟨wA, wc⟩ hw; dsimp only [lca, lna]) | (refine KC ?_; refine HO_callP rfl rfl rfl rfl (cE _ _ _) findA ((AllSrc.via 0 rfl (arr_drop _ _ (fun e => by omega)) trivial)) rfl rfl soA ?_; intro y hy; dsimp only [lca, lna]) | (refine KC ?_; refine HO_callq rfl rfl rfl rfl (cF _) (fun _ _ => rfl) (srcsA) rfl rfl sqA ?_) | (refine KC ?_; refine HO_call rfl rfl rfl rfl (cn _) rfl ((AllSrc.free (fun w => arr_nil _ w) trivial)) rfl rfl soA ?_; intro ⟨y1, y2⟩ hy; dsimp only [lca, lna]) | refine SB ?_ | (refine S2 ?_; intro _) | fail)
   (refine SRt ?_; unfold RetQ; refine ⟨(y1, y2), trivial, rfl, permA⟩)
  ·rw [if_neg hf0]
   refine Tri_in Tryz.func98 rfl (fun w0 S0 => ?_)
   repeat' (first | refine SY ?_ | (refine KC ?_; refine HO_callP rfl rfl rfl rfl (hfrom _ _) findA ((AllSrc.via 0 rfl (arr_drop _ _ (fun e => by omega)) trivial)) rfl rfl soA ?_; intro ⟨rb, ⟨rA, rc⟩⟩ hr; dsimp only [rdP, pt, lca, lna]) | (refine KC ?_; refine HO_callP rfl rfl rfl rfl (k1 rb rA rc hr) findA (trivial) rfl rfl soA ?_; intro ⟨uA, uc⟩ hu; dsimp only [lca, lna]) | (refine KC ?_; refine HO_callP rfl rfl rfl rfl (k2 rb uA uc hu) findA (trivial) rfl rfl soA ?_; intro ⟨vA, vc⟩ hv; dsimp only [lca, lna]) | (refine KC ?_; refine HO_callP rfl rfl rfl rfl (k3 rb vA vc hv) findA (trivial) rfl rfl soA ?_; intro ⟨wA, wc⟩ hw; dsimp only [lca, lna]) | (refine KC ?_; refine HO_callP rfl rfl rfl rfl (cE _ _ _) findA ((AllSrc.via 0 rfl (arr_drop _ _ (fun e => by omega)) trivial)) rfl rfl soA ?_; intro y hy; dsimp only [lca, lna]) | (refine KC ?_; refine HO_callq rfl rfl rfl rfl (cF _) (fun _ _ => rfl) (srcsA) rfl rfl sqA ?_) | (refine KC ?_; refine HO_call rfl rfl rfl rfl (cn _) rfl ((AllSrc.free (fun w => arr_nil _ w) trivial)) rfl rfl soA ?_; intro ⟨y1, y2⟩ hy; dsimp only [lca, lna]) | refine SB ?_ | (refine S2 ?_; intro _) | fail)
   (refine SRt ?_; unfold RetQ; refine ⟨(none, 0), trivial, rfl, (Keeps.add (fun w => own_nil w) Keeps.nil)⟩)
 ·have hf : q = e := by rw [← he]; unfold opE; rw [if_neg hq0]
  subst hf
  have hq1 : 0 ≤ q := by omega
  rw [if_pos hq1]
  refine Tri_in Tryz.func98 rfl (fun w0 S0 => ?_)
  repeat' (first | refine SY ?_ | (refine KC ?_; refine HO_callP rfl rfl rfl rfl (hfrom _ _) findA ((AllSrc.via 0 rfl (arr_drop _ _ (fun e => by omega)) trivial)) rfl rfl soA ?_; intro ⟨rb, ⟨rA, rc⟩⟩ hr; dsimp only [rdP, pt, lca, lna]) | (refine KC ?_; refine HO_callP rfl rfl rfl rfl (k1 rb rA rc hr) findA (trivial) rfl rfl soA ?_; intro ⟨uA, uc⟩ hu; dsimp only [lca, lna]) | (refine KC ?_; refine HO_callP rfl rfl rfl rfl (k2 rb uA uc hu) findA (trivial) rfl rfl soA ?_; intro ⟨vA, vc⟩ hv; dsimp only [lca, lna]) | (refine KC ?_; refine HO_callP rfl rfl rfl rfl (k3 rb vA vc hv) findA (trivial) rfl rfl soA ?_; intro ⟨wA, wc⟩ hw; dsimp only [lca, lna]) | (refine KC ?_; refine HO_callP rfl rfl rfl rfl (cE _ _ _) findA ((AllSrc.via 0 rfl (arr_drop _ _ (fun e => by omega)) trivial)) rfl rfl soA ?_; intro y hy; dsimp only [lca, lna]) | (refine KC ?_; refine HO_callq rfl rfl rfl rfl (cF _) (fun _ _ => rfl) (srcsA) rfl rfl sqA ?_) | (refine KC ?_; refine HO_call rfl rfl rfl rfl (cn _) rfl ((AllSrc.free (fun w => arr_nil _ w) trivial)) rfl rfl soA ?_; intro ⟨y1, y2⟩ hy; dsimp only [lca, lna]) | refine SB ?_ | (refine S2 ?_; intro _) | fail)
  (refine SRt ?_; unfold RetQ; refine ⟨(y1, y2), trivial, rfl, permA⟩)
end Go.Proofs.YteeogabkkblkgaaGreatDoor
