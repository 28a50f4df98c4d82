/- Part of a proof of many texts: what the theorem at its end leans on. -/
import Derived.Test.YteeogabkkblkgaaGreatDoorVPeC
import Derived.Test.YteeogabkkblkgaaGreatDoorVAttE
import Derived.Test.YteeogabkkblkgaaGreatDoorVAtt0
import Derived.Test.YteeogabkkblkgaaGreatDoorVAttC
namespace Go.Proofs.YteeogabkkblkgaaGreatDoor
set_option maxHeartbeats 1000000000
set_option linter.unusedVariables false
set_option linter.unusedSimpArgs false
open Go.RowKit
attribute [local irreducible] HC HX HO Tri eP adr
def tkN (n : Int) (len : Nat) : Nat := min n.toNat len
theorem rg_take {room : Nat} {b : List UInt8} {x : RgQ} (hx : RgOk room b x) (k : Nat) (hk : k ≤ b.length) : RgOk room (b.drop k) ⟨x.A, x.c, x.l, (x.at_ + k) % x.l.length⟩ := by
 obtain ⟨h1, h2, h3, h4, h5⟩ := hx
 refine ⟨by rw [List.length_drop]; omega, h2, by show _ ≤ x.l.length; rw [List.length_drop]; omega, fun h => Nat.mod_lt _ h, ?_⟩
 unfold rgL
 dsimp only
 apply List.ext_getElem?
 intro i
 rw [List.getElem?_map, List.getElem?_drop]
 by_cases hi : i < (b.drop k).length
 ·rw [List.getElem?_range hi]
  rw [List.length_drop] at hi
  have h6 := congrArg (·[k + i]?) h5
  simp only [rgL, List.getElem?_map, List.getElem?_range (show k + i < b.length by omega), Option.map_some] at h6
  rw [Option.map_some, Nat.mod_add_mod, Nat.add_assoc]
  exact h6
 ·rw [List.getElem?_eq_none (by simpa using hi)]
  rw [List.length_drop] at hi
  rw [List.getElem?_eq_none (by omega)]
  rfl
theorem qlen_r (q : Nat) (A : Option Addr) (n c : Nat) (at_ k room : Int) (mk : Bool) : Tri Tryz.prog 51 [pt q] [cel q 144 [.slice A n c, .int .i64 at_, .int .i64 k, .int .i64 room, .bool mk]] [] (fun _ : Unit => True) (fun _ => .int .i64 k) (fun _ => []) := by
 refine Tri_in Tryz.func51 rfl (fun w0 S0 => ?_)
 repeat' (first | refine SB ?_ | fail)
 (refine SRt ?_; refine RU ?_)
 rfl
theorem qtake_t (q room : Nat) (b : List UInt8) (hr : room ≤ 65536) (n : Int) :
  Tri Tryz.prog 41 [pt q, .int .i64 n] [] [quP q room b] (fun _ : OA => True) (fun z => .slice z.1 (b.take (tkN n b.length)).length z.2) (fun z => [ownB z (b.take (tkN n b.length)), quP q room (b.drop (tkN n b.length))]) := by
 refine Tri_open (fun x hx => ?_)
 obtain ⟨h1, h2, h3, h4, h5⟩ := id hx
 have c1 := qlen_r q x.A x.l.length x.c x.at_ b.length room true
 dsimp only [quF, lca, lna]
 have hm : (if (0 : Int) > n then (0 : Int) else n) = (n.toNat : Int) := by
  by_cases h : (0 : Int) > n
  ·rw [if_pos h]; omega
  ·rw [if_neg h]; omega
 have hk : (if (b.length : Int) < (n.toNat : Int) then (b.length : Int) else (n.toNat : Int)) = (tkN n b.length : Int) := by
  unfold tkN
  by_cases h : (b.length : Int) < (n.toNat : Int)
  ·rw [if_pos h, Nat.min_eq_right (by omega)]
  ·rw [if_neg h, Nat.min_eq_left (by omega)]
 have hkb : tkN n b.length ≤ b.length := Nat.min_le_right _ _
 obtain ⟨k, hke⟩ : ∃ k, tkN n b.length = k := ⟨_, rfl⟩
 rw [hke] at hk hkb ⊢
 rcases Nat.eq_zero_or_pos k with h0 | h0
 ·subst h0
  have hz : ((0 : Nat) : Int) = 0 := rfl
  refine Tri_in Tryz.func41 rfl (fun w0 S0 => ?_)
  repeat' (first | refine SX ?_ | (refine KC ?_; refine HO_callq rfl rfl rfl rfl (c1) (fun _ _ => rfl) (srcsA) rfl rfl sqA ?_) | (refine HO_k 19 rfl ?_; refine HO_mxE n.toNat rfl rfl rfl hm rfl rfl rdA ?_) | (refine HO_k 22 rfl ?_; refine HO_mnE (0 : Nat) rfl rfl rfl hk rfl rfl rdA ?_) | refine SB ?_ | fail)
  (refine SRt ?_; unfold RetQ; refine ⟨(none, 0), trivial, rfl, (Keeps.add (fun w => own_nil w) (Keeps.close x hx permA))⟩)
 have hz : ¬ (k : Int) = 0 := by omega
 have c2 := qlook_t q room b hr k hkb
 refine Tri_in Tryz.func41 rfl (fun w0 S0 => ?_)
 repeat' (first | refine SX ?_ | (refine KC ?_; refine HO_callq rfl rfl rfl rfl (c1) (fun _ _ => rfl) (srcsA) rfl rfl sqA ?_) | (refine HO_k 19 rfl ?_; refine HO_mxE n.toNat rfl rfl rfl hm rfl rfl rdA ?_) | (refine HO_k 22 rfl ?_; refine HO_mnE k rfl rfl rfl hk rfl rfl rdA ?_) | (refine KC ?_; refine HO_keeps (Keeps.close (f := quF q room b) x hx findA) ?_; refine HO_callP rfl rfl rfl rfl c2 findA trivial rfl rfl soA ?_; intro z hz; dsimp only [lca, lna]) | refine S1 ?_ | refine S5n ?_ | fail)
 clear c1 c2 hx h1 h2 h3 h4 h5 x
 refine HC_open 1 rfl rfl (fun x hx => ?_)
 obtain ⟨h1, h2, h3, h4, h5⟩ := id hx
 dsimp only [quF, lca, lna]
 have hpos : 0 < x.l.length := by omega
 have hat := h4 hpos
 have hbl : b.length ≤ 65536 := Nat.le_trans h1 hr
 have hdl : ((b.drop k).length : Int) = (b.length : Int) - (k : Int) := by rw [List.length_drop]; omega
 obtain ⟨j, hj⟩ : ∃ j, (x.at_ + k) % x.l.length = j := ⟨_, rfl⟩
 have hxt := rg_take hx k hkb
 rw [hj] at hxt
 repeat' (first | refine SX ?_ | (refine HO_k 0 rfl ?_; refine HO_remN (x.at_ + k) x.l.length j rfl rfl rfl (by omega) rfl (by omega) hj rfl rfl rdA ?_) | refine SB ?_ | fail)
 (refine SRt ?_; unfold RetQ; refine ⟨z, trivial, rfl, (Keeps.pick 2 rfl rfl (Keeps.close (RgQ.mk x.A x.c x.l j) hxt (by dsimp only [quF, lca, lna]; rw [hdl]; exact permA)))⟩)
theorem tkN_all (l : List UInt8) : l.take (tkN (l.length : Int) l.length) = l ∧ l.drop (tkN (l.length : Int) l.length) = [] := by
 have : tkN (l.length : Int) l.length = l.length := by
  unfold tkN
  omega
 rw [this]
 exact ⟨List.take_length, List.drop_length⟩
theorem qclear_t (q room : Nat) (b : List UInt8) (hr : room ≤ 65536) : Tri Tryz.prog 128 [pt q] [] [quP q room b] (fun _ : Unit => True) (fun _ => .int .i64 b.length) (fun _ => [quP q room []]) := by
 have c1 := qlen_t q room b
 have c2 := qtake_t q room b hr b.length
 rw [(tkN_all b).1, (tkN_all b).2] at c2
 refine Tri_in Tryz.func128 rfl (fun w0 S0 => ?_)
 repeat' (first | (refine KC ?_; refine HO_callP rfl rfl rfl rfl c1 findA trivial rfl rfl soA ?_; intro z hz; dsimp only [lca, lna]) | (refine KC ?_; refine HO_callP rfl rfl rfl rfl c2 findA trivial rfl rfl soA ?_; intro z hz; dsimp only [lca, lna]) | refine SB ?_ | fail)
 (refine SRt ?_; unfold RetQ; refine ⟨(), trivial, rfl, permA⟩)
theorem nknown_t (k : Int) : Tri Tryz.prog 202 [.int .i64 k] [] [] (fun _ : Unit => True) (fun _ => .bool (decide (1 ≤ k) && decide (k ≤ 6))) (fun _ => []) := by
 refine Tri_in Tryz.func202 rfl (fun w0 S0 => ?_)
 repeat' (first | exact HO_seg rfl rfl | refine S1 ?_ | (refine HO_g 2 rfl ?_; apply HO_a1 rfl) | refine S5 ?_ | (intro hb; try replace hb := simB hb; try exact kill hb))
 (refine SRt ?_; refine RU ?_)
 rfl
def noV (n : NtQ) (A : Option Addr) (c : Nat) : Value := .agg #[.int .i64 n.c, .int .i64 n.s, .slice A n.d.length c]
theorem nocheck_t (n : NtQ) (A : Option Addr) (c : Nat) : Tri Tryz.prog 173 [noV n A c] [] [] (fun _ : Unit => True) (fun _ => .int .i64 (if ntOk n = true then 0 else 80)) (fun _ => []) := by
 have c1 := nknown_t n.c
 unfold noV
 obtain ⟨v, hv⟩ : ∃ v, (decide (1 ≤ n.c) && decide (n.c ≤ 6)) = v := ⟨_, rfl⟩
 rw [hv] at c1
 have hok : ntOk n = (v && decide (0 ≤ n.s) && decide (n.s ≤ 255) && decide (n.d.length ≤ 4075)) := by unfold ntOk; rw [hv]
 rw [hok]
 clear hok hv
 cases v with
 | false =>
  refine Tri_in Tryz.func173 rfl (fun w0 S0 => ?_)
  repeat' (first | refine SK ?_ | refine SD ?_ | (refine KC ?_; refine HO_callq rfl rfl rfl rfl (c1) (fun _ _ => rfl) (trivial) rfl rfl sqA ?_) | refine SB ?_ | (refine S2 ?_; intro _) | fail)
  (refine SRt ?_; refine RU ?_)
  rfl
 | true =>
  by_cases h1 : 0 ≤ n.s
  ·by_cases h2 : n.s ≤ 255
   ·by_cases h3 : n.d.length ≤ 4075
    ·have g1 : ¬ n.s < 0 := by omega
     have g2 : ¬ (255 : Int) < n.s := by omega
     have g3 : ¬ (4075 : Int) < (n.d.length : Int) := by omega
     rw [decide_eq_true h1, decide_eq_true h2, decide_eq_true h3]
     refine Tri_in Tryz.func173 rfl (fun w0 S0 => ?_)
     repeat' (first | refine SK ?_ | refine SD ?_ | (refine KC ?_; refine HO_callq rfl rfl rfl rfl (c1) (fun _ _ => rfl) (trivial) rfl rfl sqA ?_) | refine SB ?_ | (refine S2 ?_; intro _) | fail)
     (refine SRt ?_; refine RU ?_)
     rfl
    ·have g1 : ¬ n.s < 0 := by omega
     have g2 : ¬ (255 : Int) < n.s := by omega
     have g3 : (4075 : Int) < (n.d.length : Int) := by omega
     rw [decide_eq_false h3, Bool.and_false]
     refine Tri_in Tryz.func173 rfl (fun w0 S0 => ?_)
     repeat' (first | refine SK ?_ | refine SD ?_ | (refine KC ?_; refine HO_callq rfl rfl rfl rfl (c1) (fun _ _ => rfl) (trivial) rfl rfl sqA ?_) | refine SB ?_ | (refine S2 ?_; intro _) | fail)
     (refine SRt ?_; refine RU ?_)
     rfl
   ·have g1 : ¬ n.s < 0 := by omega
    have g2 : (255 : Int) < n.s := by omega
    rw [decide_eq_false h2, Bool.and_false, Bool.false_and]
    refine Tri_in Tryz.func173 rfl (fun w0 S0 => ?_)
    repeat' (first | refine SK ?_ | refine SD ?_ | (refine KC ?_; refine HO_callq rfl rfl rfl rfl (c1) (fun _ _ => rfl) (trivial) rfl rfl sqA ?_) | refine SB ?_ | (refine S2 ?_; intro _) | fail)
    (refine SRt ?_; refine RU ?_)
    rfl
  ·have g1 : n.s < 0 := by omega
   rw [decide_eq_false h1, Bool.and_false, Bool.false_and, Bool.false_and]
   refine Tri_in Tryz.func173 rfl (fun w0 S0 => ?_)
   repeat' (first | refine SK ?_ | refine SD ?_ | (refine KC ?_; refine HO_callq rfl rfl rfl rfl (c1) (fun _ _ => rfl) (trivial) rfl rfl sqA ?_) | refine SB ?_ | (refine S2 ?_; intro _) | fail)
   (refine SRt ?_; refine RU ?_)
   rfl
def leastC : Array Value := #[.int .i64 0, .int .i64 29, .int .i64 23, .int .i64 21, .int .i64 19]
@[reducible] def leW : SL := glbs 0 leastC
theorem fknown_t (k : Int) : Tri Tryz.prog 136 [.int .i64 k] [] [] (fun _ : Unit => True) (fun _ => .bool (knownM k)) (fun _ => []) := by
 refine Tri_in Tryz.func136 rfl (fun w0 S0 => ?_)
 repeat' (first | exact HO_seg rfl rfl | refine S1 ?_ | (refine HO_g 2 rfl ?_; apply HO_a1 rfl) | refine S5 ?_ | (intro hb; try replace hb := simB hb; try exact kill hb))
 (refine SRt ?_; refine RU ?_)
 rfl
theorem ffits_t (k n : Int) (hk : knownM k = true) : Tri Tryz.prog 137 [.int .i64 k, .int .i64 n] [leW] [] (fun _ : Unit => True) (fun _ => .bool (fitsM k n)) (fun _ => []) := by
 have hc : k = 1 ∨ k = 2 ∨ k = 3 ∨ k = 4 := by
  unfold knownM at hk
  simp only [Bool.and_eq_true, decide_eq_true_eq] at hk
  omega
 clear hk
 rcases hc with rfl | rfl | rfl | rfl
 ·refine Tri_in Tryz.func137 rfl (fun w0 S0 => ?_)
  repeat' (first | (refine HO_k 10 rfl ?_; refine HO_ixa (j := 1) rfl rfl rfl rfl (by decide) rfl rfl rdA ?_) | (refine HO_k 2 rfl ?_; refine HO_ldg (cs := leastC) (v := .int .i64 29) rfl rfl (.head _) rfl rfl rfl rdA ?_) | exact HO_seg rfl rfl | refine S1 ?_ | (refine HO_g 2 rfl ?_; apply HO_a1 rfl) | refine S5 ?_ | (intro hb; try replace hb := simB hb; try exact kill hb))
  (refine SRt ?_; refine RU ?_)
  rfl
 ·refine Tri_in Tryz.func137 rfl (fun w0 S0 => ?_)
  repeat' (first | (refine HO_k 10 rfl ?_; refine HO_ixa (j := 2) rfl rfl rfl rfl (by decide) rfl rfl rdA ?_) | (refine HO_k 2 rfl ?_; refine HO_ldg (cs := leastC) (v := .int .i64 23) rfl rfl (.head _) rfl rfl rfl rdA ?_) | exact HO_seg rfl rfl | refine S1 ?_ | (refine HO_g 2 rfl ?_; apply HO_a1 rfl) | refine S5 ?_ | (intro hb; try replace hb := simB hb; try exact kill hb))
  (refine SRt ?_; refine RU ?_)
  rfl
 ·refine Tri_in Tryz.func137 rfl (fun w0 S0 => ?_)
  repeat' (first | (refine HO_k 10 rfl ?_; refine HO_ixa (j := 3) rfl rfl rfl rfl (by decide) rfl rfl rdA ?_) | (refine HO_k 2 rfl ?_; refine HO_ldg (cs := leastC) (v := .int .i64 21) rfl rfl (.head _) rfl rfl rfl rdA ?_) | exact HO_seg rfl rfl | refine S1 ?_ | (refine HO_g 2 rfl ?_; apply HO_a1 rfl) | refine S5 ?_ | (intro hb; try replace hb := simB hb; try exact kill hb))
  (refine SRt ?_; refine RU ?_)
  rfl
 ·refine Tri_in Tryz.func137 rfl (fun w0 S0 => ?_)
  repeat' (first | (refine HO_k 10 rfl ?_; refine HO_ixa (j := 4) rfl rfl rfl rfl (by decide) rfl rfl rdA ?_) | (refine HO_k 2 rfl ?_; refine HO_ldg (cs := leastC) (v := .int .i64 19) rfl rfl (.head _) rfl rfl rfl rdA ?_) | exact HO_seg rfl rfl | refine S1 ?_ | (refine HO_g 2 rfl ?_; apply HO_a1 rfl) | refine S5 ?_ | (intro hb; try replace hb := simB hb; try exact kill hb))
  (refine SRt ?_; refine RU ?_)
  rfl
def mgV (k : Int) (A : Option Addr) (n c : Nat) : Value := .agg #[.int .i64 k, .slice A n c]
theorem fcheckM_t (k : Int) (A : Option Addr) (n c : Nat) (hn : n ≤ 1000000000) : Tri Tryz.prog 105 [mgV k A n c] [leW] [] (fun _ : Unit => True) (fun _ => .int .i64 (if msgOk k n = true then 0 else 30)) (fun _ => []) := by
 have c1 := fknown_t k
 unfold mgV msgOk
 cases hk : knownM k with
 | false =>
  rw [hk] at c1
  refine Tri_in Tryz.func105 rfl (fun w0 S0 => ?_)
  repeat' (first | refine SW ?_ | refine SK ?_ | (refine KC ?_; refine HO_callq rfl rfl rfl rfl (c1) (fun _ _ => rfl) (trivial) rfl rfl sqA ?_) | refine SB ?_ | (refine S2 ?_; intro _) | fail)
  (refine SRt ?_; refine RU ?_)
  rfl
 | true =>
  have c2 := ffits_t k (19 + (n : Int)) hk
  rw [hk] at c1
  rw [Bool.true_and]
  cases hf : fitsM k (19 + (n : Int)) with
  | false =>
   rw [hf] at c2
   refine Tri_in Tryz.func105 rfl (fun w0 S0 => ?_)
   repeat' (first | refine SW ?_ | refine SK ?_ | (refine KC ?_; refine HO_callq rfl rfl rfl rfl (c1) (fun _ _ => rfl) (trivial) rfl rfl sqA ?_) | (refine KC ?_; refine HO_callq rfl rfl rfl rfl (c2) (fun _ _ => rfl) (srcsA) rfl rfl sqA ?_) | refine SB ?_ | (refine S2 ?_; intro _) | fail)
   (refine SRt ?_; refine RU ?_)
   rfl
  | true =>
   rw [hf] at c2
   refine Tri_in Tryz.func105 rfl (fun w0 S0 => ?_)
   repeat' (first | refine SW ?_ | refine SK ?_ | (refine KC ?_; refine HO_callq rfl rfl rfl rfl (c1) (fun _ _ => rfl) (trivial) rfl rfl sqA ?_) | (refine KC ?_; refine HO_callq rfl rfl rfl rfl (c2) (fun _ _ => rfl) (srcsA) rfl rfl sqA ?_) | refine SB ?_ | (refine S2 ?_; intro _) | fail)
   (refine SRt ?_; refine RU ?_)
   rfl
@[reducible] def stF (s : Nat) (x : StQ) (z : OA × OA) : List SL := [cel s 133 [.slice z.1.1 x.b.length z.1.2, .int .i64 x.n.c, .int .i64 x.n.s, .slice z.2.1 x.n.d.length z.2.2], ownB z.1 x.b, ownB z.2 x.n.d]
def stP (s : Nat) (x : StQ) : SL := exP (fun _ : OA × OA => True) (stF s x)
theorem snew_t : Tri Tryz.prog 54 [] [] [] (fun _ : Nat => True) (fun s => pt s) (fun s => [stP s st0]) := by
 refine Tri_in Tryz.func54 rfl (fun w0 S0 => ?_)
 repeat' (first | refine SB ?_ | (refine S2 ?_; intro _) | fail)
 rename_i s
 (refine SRt ?_; unfold RetQ; refine ⟨s, trivial, rfl, (Keeps.close ((none, 0), (none, 0)) trivial (Keeps.pick 0 rfl rfl (Keeps.add (fun w => own_nil w) (Keeps.add (fun w => own_nil w) Keeps.refl))))⟩)
theorem sfeed_t (s : Nat) (x : StQ) (hx : x.b.length ≤ 65536) (A : Option Addr) (c : Nat) (l : List UInt8) (hl : l.length ≤ 1000000) :
  Tri Tryz.prog 36 [pt s, .slice A l.length c] [arr bE 1 A l] [stP s x] (fun _ : Unit => True) (fun _ => .int .i64 (feedM x l).2) (fun _ => [stP s (feedM x l).1]) := by
 refine Tri_open (fun z _ => ?_)
 dsimp only [stF, lca, lna]
 unfold feedM
 by_cases h1 : x.n.c ≠ 0
 ·rw [if_pos h1]
  refine Tri_in Tryz.func36 rfl (fun w0 S0 => ?_)
  repeat' (first | refine SX ?_ | refine SB ?_ | (refine S3 ?_; intro _ _) | fail)
  (refine SRt ?_; unfold RetQ; refine ⟨(), trivial, rfl, (Keeps.close z trivial permA)⟩)
 rw [if_neg h1]
 have h1 : x.n.c = 0 := by omega
 by_cases h2 : 65536 - (x.b.length : Int) < (l.length : Int)
 ·rw [if_pos h2]
  refine Tri_in Tryz.func36 rfl (fun w0 S0 => ?_)
  repeat' (first | refine SX ?_ | refine SB ?_ | (refine S3 ?_; intro _ _) | fail)
  (refine SRt ?_; unfold RetQ; refine ⟨(), trivial, rfl, (Keeps.close z trivial permA)⟩)
 rw [if_neg h2]
 have e1 : x.b.length + l.length = (x.b ++ l).length := by rw [List.length_append]
 have e2 : x.b.map bE ++ l.map bE = (x.b ++ l).map bE := by rw [List.map_append]
 refine Tri_in Tryz.func36 rfl (fun w0 S0 => ?_)
 repeat' (first | refine SX ?_ | refine SB ?_ | (refine S3 ?_; intro _ _) | fail)
 rename_i A' c'
 rw [e1, e2]
 (refine SRt ?_; unfold RetQ; refine ⟨(), trivial, rfl, (Keeps.close ((A', c'), z.2) trivial permA)⟩)
theorem told_t (s : Nat) (x : StQ) (hx : x.n.d.length ≤ 1000000) : Tri Tryz.prog 95 [pt s] [] [stP s x] (fun _ : OA => True) (fun z => noV x.n z.1 z.2) (fun z => [ownB z x.n.d, stP s x]) := by
 refine Tri_open (fun z _ => ?_)
 have c1 := nclone_t z.2.1 x.n.d.length z.2.2 x.n.d rfl (by omega)
 dsimp only [stF, lca, lna]
 refine Tri_in Tryz.func95 rfl (fun w0 S0 => ?_)
 repeat' (first | (refine KC ?_; refine HO_call rfl rfl rfl rfl (c1) rfl (srcsA) rfl rfl soA ?_; intro y hy; dsimp only [lca, lna]) | refine SB ?_ | (refine S2 ?_; intro _) | fail)
 (refine SRt ?_; unfold RetQ; refine ⟨y, trivial, rfl, (Keeps.pick 0 rfl rfl (Keeps.close z trivial permA))⟩)
theorem wrong_t (k : Int) (A : Option Addr) (c : Nat) (d : List UInt8) (hd : d.length ≤ 1000000) : Tri Tryz.prog 134 [.int .i64 k, .slice A d.length c] [arr bE 1 A d] [] (fun _ : OA => True) (fun z => .tuple #[.int .i64 0, .int .i64 0, noV ⟨1, k, d⟩ z.1 z.2]) (fun z => [ownB z d]) := by
 have c1 := nclone_t A d.length c d rfl (by omega)
 refine Tri_in Tryz.func134 rfl (fun w0 S0 => ?_)
 repeat' (first | (refine KC ?_; refine HO_call rfl rfl rfl rfl (c1) rfl (srcsA) rfl rfl soA ?_; intro y hy; dsimp only [lca, lna]) | refine SB ?_ | (refine S2 ?_; intro _) | fail)
 (refine SRt ?_; unfold RetQ; refine ⟨y, trivial, rfl, permA⟩)
theorem indexB_t (A : Option Addr) (n c : Nat) (l : List UInt8) (hn : n = l.length) (hl : l.length ≤ 1000000) (g : Nat) [FnOk Tryz.prog g] (cap : List Value) (roC : List SL) (p : UInt8 → Bool)
  (hp : ∀ x ∈ l, Tri Tryz.prog g (.int .u8 x.toNat :: cap) roC [] (fun _ : Unit => True) (fun _ => .bool (p x)) (fun _ => [])) :
  Tri Tryz.prog 175 [.slice A n c, .func (.func g) #[] cap.toArray] (arr bE 1 A l :: roC) [] (fun _ : Unit => True) (fun _ => .int .i64 (idxF p l)) (fun _ => []) := by
 refine Tri_in Tryz.func175 rfl (fun w0 S0 => ?_)
 repeat' (first | refine SX ?_ | refine SB ?_ | (intro hb; try replace hb := simB hb; try exact kill hb))
 refine HC_loop (α := Nat) (fun j => j ≤ l.length ∧ ∀ q, q < j → ∀ b, l[q]? = some b → p b = false) (fun j => [(8, .int .i64 j), (7, .int .i64 n), (0, .slice A n c), (1, .func (.func g) #[] cap.toArray)]) (fun _ => []) (fun j => l.length - j) rfl 0 ⟨Nat.zero_le _, fun q hq => by omega⟩ ⟨rfl, rfl, rfl, rfl, trivial⟩ rfl ?_
 intro j ⟨hj, hno⟩
 rcases Nat.lt_or_ge j l.length with hlt | hge
 ·obtain ⟨a, ha⟩ : ∃ a, l[j]? = some a := ⟨l[j], List.getElem?_eq_getElem hlt⟩
  have hpa := hp a (List.mem_of_getElem? ha)
  repeat' (first | refine SX ?_ | (refine KC ?_; refine HO_callq rfl rfl rfl rfl (hpa) (fun _ _ => rfl) (AllSrc.self) rfl rfl sqA ?_) | refine SB ?_ | (intro hb; try replace hb := simB hb; try exact kill hb) | refine HC_cond rfl rfl ?_ ?_ | fail)
  ·(refine SRt ?_; refine RU ?_)
   exact congrArg (Value.int .i64) (idxF_at ha hb hno).symm
  ·exact HX_at (j + 1) ⟨⟨hlt, fun q hq b hbq => by
    rcases Nat.lt_or_ge q j with h | h
    ·exact hno q h b hbq
    ·obtain rfl : q = j := by omega
     rw [ha] at hbq
     injection hbq with hbq
     exact hbq ▸ hb⟩, by omega⟩ ⟨rfl, rfl, rfl, rfl, trivial⟩ rfl
 ·obtain rfl : j = l.length := by omega
  repeat' (first | refine SX ?_ | refine SB ?_ | (intro hb; try replace hb := simB hb; try exact kill hb))
  (refine SRt ?_; refine RU ?_)
  exact congrArg (Value.int .i64) (idxF_no hno).symm
theorem containsB_t (A : Option Addr) (n c : Nat) (l : List UInt8) (hn : n = l.length) (hl : l.length ≤ 1000000) (g : Nat) [FnOk Tryz.prog g] (cap : List Value) (roC : List SL) (p : UInt8 → Bool)
  (hp : ∀ x ∈ l, Tri Tryz.prog g (.int .u8 x.toNat :: cap) roC [] (fun _ : Unit => True) (fun _ => .bool (p x)) (fun _ => [])) :
  Tri Tryz.prog 132 [.slice A n c, .func (.func g) #[] cap.toArray] (arr bE 1 A l :: roC) [] (fun _ : Unit => True) (fun _ => .bool (l.any p)) (fun _ => []) := by
 have h1 := indexB_t A n c l hn hl g cap roC p hp
 refine Tri_in Tryz.func132 rfl (fun w0 S0 => ?_)
 repeat' (first | (refine KC ?_; refine HO_callq rfl rfl rfl rfl (h1) (fun _ _ => rfl) (AllSrc.of fun f hf => ⟨f, List.mem_append.2 (.inl hf), Ent.rfl_⟩) rfl rfl sqA ?_) | refine SB ?_ | fail)
 (refine SRt ?_; refine RU ?_)
 exact congrArg Value.bool (idxF_ge p l)
theorem not255_t (b : UInt8) : Tri Tryz.prog 133 [.int .u8 b.toNat] [] [] (fun _ : Unit => True) (fun _ => .bool (decide (b ≠ 255))) (fun _ => []) := by
 have e : (!decide (((b.toNat : Nat) : Int) = 255)) = decide (b ≠ 255) := by
  have h2 : (((b.toNat : Nat) : Int) = 255) ↔ b = 255 := by
   constructor
   ·intro h
    have h3 : b.toNat = (255 : UInt8).toNat := by
     show b.toNat = 255
     omega
    exact UInt8.toNat_inj.1 h3
   ·intro h
    rw [h]
    rfl
  by_cases h : b = 255 <;> simp [h2, h]
 refine Tri_in Tryz.func133 rfl (fun w0 S0 => ?_)
 repeat' (first | refine SB ?_ | fail)
 (refine SRt ?_; refine RU ?_)
 exact congrArg Value.bool e
end Go.Proofs.YteeogabkkblkgaaGreatDoor
