/- Part of a proof of many texts: what the theorem at its end leans on. -/
import Derived.Test.YteeogabkkblkgaaGreatDoorVPeH
import Derived.Test.YteeogabkkblkgaaGreatDoorVPeC
import Derived.Test.YteeogabkkblkgaaGreatDoorVAttE
import Derived.Test.YteeogabkkblkgaaGreatDoorVAtt0
import Derived.Test.YteeogabkkblkgaaGreatDoorVKc
import Derived.Test.YteeogabkkblkgaaGreatDoorVPeQ
import Derived.Test.YteeogabkkblkgaaGreatDoorVFs0
namespace Go.Proofs.YteeogabkkblkgaaGreatDoor
set_option maxHeartbeats 1000000000
set_option linter.unusedVariables false
set_option linter.unusedSimpArgs false
open Go.RowKit
attribute [local irreducible] HC HX HO Tri eP adr
theorem mul64_t : Tri Tryz.prog 195 [.int .u64 1, .int .u64 16] [] [] (fun _ : Unit => True) (fun _ => .tuple #[.int .u64 0, .int .u64 16]) (fun _ => []) := by
 refine Tri_in Tryz.func195 rfl (fun w0 S0 => ?_)
 repeat' (first | refine SB ?_ | fail)
 (refine SRt ?_; refine RU ?_)
 rfl
theorem mul_t : Tri Tryz.prog 150 [.int .u64 1, .int .u64 16] [] [] (fun _ : Unit => True) (fun _ => .tuple #[.int .u64 0, .int .u64 16]) (fun _ => []) := by
 refine Tri_in Tryz.func150 rfl (fun w0 S0 => ?_)
 repeat' (first | (refine KC ?_; refine HO_callq rfl rfl rfl rfl (mul64_t) (fun _ _ => rfl) (trivial) rfl rfl sqA ?_) | refine SB ?_ | fail)
 (refine SRt ?_; refine RU ?_)
 rfl
def rpL (n : Nat) : List (List Value) := List.replicate n (bE 255) ++ List.replicate (16 - n) (bE 0)
theorem rpL_wf (n : Nat) : WfL 1 (rpL n) := fun y hy => by
 unfold rpL at hy
 rcases List.mem_append.1 hy with h | h
 ·rw [List.eq_of_mem_replicate h]; exact ⟨rfl, rfl⟩
 ·rw [List.eq_of_mem_replicate h]; exact ⟨rfl, rfl⟩
theorem repeat_t (b : Nat) : Tri Tryz.prog 107 [.slice (some ⟨b, 0, none⟩) 1 1, .int .i64 16] [arr bE 1 (some ⟨b, 0, none⟩) [255]] [] (fun _ : OA => True) (fun z => .slice z.1 16 z.2) (fun z => [ownB z (List.replicate 16 255)]) := by
 refine Tri_in Tryz.func107 rfl (fun w0 S0 => ?_)
 repeat' (first | refine SX ?_ | (refine KC ?_; refine HO_callq rfl rfl rfl rfl (mul_t) (fun _ _ => rfl) (trivial) rfl rfl sqA ?_) | (refine HO_k 14 rfl ?_; refine HO_mks (n := 16) rfl rfl rfl rfl (by omega) (by omega) (by omega) rfl rfl soA ?_; intro _) | refine SB ?_ | fail)
 rename_i bn
 refine HO_copyW (n2 := 1) 0 0 (l := List.replicate 16 [.int .u8 0]) (l2 := [bE 255]) rfl rfl rfl rfl (fun y hy => by rw [List.eq_of_mem_replicate hy]; exact ⟨rfl, rfl⟩) ⟨_, rfl, arr_raw⟩ rfl (WfL.cons rfl rfl WfL.nil) (by decide) (by decide) rfl rfl rfl soA ?_
 repeat' (first | refine SX ?_ | refine SB ?_ | fail)
 refine HC_loop (α := Nat) (fun j => j ≤ 4) (fun j => [(8, .int .i64 ((2 ^ j : Nat) : Int)), (7, .slice (some ⟨bn, 0, none⟩) 16 16)]) (fun j => [own idE 5 1 (some ⟨bn, 0, none⟩) 16 16 (rpL (2 ^ j))]) (fun j => 4 - j) rfl 0 (by decide) ⟨rfl, rfl, trivial⟩ rfl ?_
 intro j hj
 have h4 : j = 0 ∨ j = 1 ∨ j = 2 ∨ j = 3 ∨ j = 4 := by omega
 rcases h4 with rfl | rfl | rfl | rfl | rfl
 ·repeat' (first | refine SX ?_ | (refine HO_k 19 rfl ?_; refine HO_copyW (n2 := 1) (n := 15) (c := 15) (o := 1) 0 1 (l := rpL 1) (l2 := (rpL 1).take 1) rfl rfl rfl rfl (rpL_wf 1) ⟨_, rfl, fun S w h => arr_take 1 S w (own_wf (rpL_wf 1) S w h)⟩ rfl (fun y hy => rpL_wf 1 y (List.mem_of_mem_take hy)) (by decide) (by decide) rfl rfl rfl soA ?_) | refine SB ?_ | fail)
  exact HX_at 1 ⟨by decide, by decide⟩ ⟨rfl, rfl, trivial⟩ rfl
 ·repeat' (first | refine SX ?_ | (refine HO_k 19 rfl ?_; refine HO_copyW (n2 := 2) (n := 14) (c := 14) (o := 2) 0 1 (l := rpL 2) (l2 := (rpL 2).take 2) rfl rfl rfl rfl (rpL_wf 2) ⟨_, rfl, fun S w h => arr_take 2 S w (own_wf (rpL_wf 2) S w h)⟩ rfl (fun y hy => rpL_wf 2 y (List.mem_of_mem_take hy)) (by decide) (by decide) rfl rfl rfl soA ?_) | refine SB ?_ | fail)
  exact HX_at 2 ⟨by decide, by decide⟩ ⟨rfl, rfl, trivial⟩ rfl
 ·repeat' (first | refine SX ?_ | (refine HO_k 19 rfl ?_; refine HO_copyW (n2 := 4) (n := 12) (c := 12) (o := 4) 0 1 (l := rpL 4) (l2 := (rpL 4).take 4) rfl rfl rfl rfl (rpL_wf 4) ⟨_, rfl, fun S w h => arr_take 4 S w (own_wf (rpL_wf 4) S w h)⟩ rfl (fun y hy => rpL_wf 4 y (List.mem_of_mem_take hy)) (by decide) (by decide) rfl rfl rfl soA ?_) | refine SB ?_ | fail)
  exact HX_at 3 ⟨by decide, by decide⟩ ⟨rfl, rfl, trivial⟩ rfl
 ·repeat' (first | refine SX ?_ | (refine HO_k 19 rfl ?_; refine HO_copyW (n2 := 8) (n := 8) (c := 8) (o := 8) 0 1 (l := rpL 8) (l2 := (rpL 8).take 8) rfl rfl rfl rfl (rpL_wf 8) ⟨_, rfl, fun S w h => arr_take 8 S w (own_wf (rpL_wf 8) S w h)⟩ rfl (fun y hy => rpL_wf 8 y (List.mem_of_mem_take hy)) (by decide) (by decide) rfl rfl rfl soA ?_) | refine SB ?_ | fail)
  exact HX_at 4 ⟨by decide, by decide⟩ ⟨rfl, rfl, trivial⟩ rfl
 ·repeat' (first | refine SX ?_ | refine SB ?_ | fail)
  (refine SRt ?_; unfold RetQ; refine ⟨(some ⟨bn, 0, none⟩, 16), trivial, rfl, permA⟩)
def fpB (k : Int) (b : List UInt8) : List UInt8 := if msgOk k b.length = true then frB k b else []
theorem byte_of {k : Int} (h : 0 ≤ k ∧ k < 256) : Value.int .u8 k = Value.int .u8 ((UInt8.ofNat k.toNat).toNat : Nat) := by
 rw [UInt8.toNat_ofNat']
 congr 1
 omega
theorem fput_t (k : Int) (A : Option Addr) (c : Nat) (b : List UInt8) (hb : b.length ≤ 1000000) : Tri Tryz.prog 72 [mgV k A b.length c] [arr bE 1 A b, leW] [] (fun _ : OA => True)
  (fun z => .tuple #[.slice z.1 (fpB k b).length z.2, .int .i64 (if msgOk k b.length = true then 0 else 30)]) (fun z => [ownB z (fpB k b)]) := by
 have c1 := fcheckM_t k A b.length c (by omega)
 unfold fpB
 cases h : msgOk k b.length with
 | false =>
  rw [h] at c1
  rw [if_neg (by decide)]
  unfold mgV at c1 ⊢
  refine Tri_in Tryz.func72 rfl (fun w0 S0 => ?_)
  repeat' (first | refine SX ?_ | (refine KC ?_; refine HO_callq rfl rfl rfl rfl (c1) (fun _ _ => rfl) ((AllSrc.at_ 1 rfl trivial)) rfl rfl sqA ?_) | refine SB ?_ | (refine S2 ?_; intro _) | fail)
  (refine SRt ?_; unfold RetQ; refine ⟨(none, 0), trivial, rfl, (Keeps.add (fun w => own_nil w) Keeps.nil)⟩)
 | true =>
  rw [h] at c1
  rw [if_pos rfl, if_pos rfl]
  rw [if_pos rfl] at c1
  obtain ⟨hk, h1, h2, h3⟩ := msgOk_iff.1 h
  have c2 := nput_ok 2 (19 + b.length) (by decide) (by decide) (by omega)
  have ek := byte_of (k := k) (by omega)
  have e2 := be_length 2 (19 + b.length)
  have e3 : ∀ A1 c1 A2 c2 A3 c3, cat [⟨A1, c1, List.replicate 16 255⟩, ⟨A2, c2, be 2 (19 + b.length)⟩, ⟨A3, c3, [UInt8.ofNat k.toNat]⟩, ⟨A, c, b⟩] = frB k b := fun _ _ _ _ _ _ => by
   unfold frB cat
   simp only [List.flatMap_cons, List.flatMap_nil, List.append_nil]
   rfl
  have c3 := fun B A1 c1 A2 c2 A3 c3 => concat_t B 4 4 [⟨A1, c1, List.replicate 16 255⟩, ⟨A2, c2, be 2 (19 + b.length)⟩, ⟨A3, c3, [UInt8.ofNat k.toNat]⟩, ⟨A, c, b⟩] rfl (by simp) (by rw [e3, frB_len]; omega)
  simp only [e3] at c3
  unfold mgV at c1 ⊢
  refine Tri_in Tryz.func72 rfl (fun w0 S0 => ?_)
  repeat' (first | refine SX ?_ | (with_reducible refine HO_rw ek ?_) | (refine KC ?_; refine HO_callq rfl rfl rfl rfl (c1) (fun _ _ => rfl) ((AllSrc.at_ 1 rfl trivial)) rfl rfl sqA ?_) | (refine KC ?_; refine HO_call rfl rfl rfl rfl (c2) rfl (trivial) rfl rfl soA ?_; intro ⟨x1, x2⟩ hx; dsimp only [lca, lna]) | (refine HC_lex rfl rfl (by decide +kernel) rfl rfl ?_; refine HO_names (l' := [2, 3, 4, 5, 7, 8, 0, 6, 1, 9, 10, 11, 12]) (by decide +kernel) ?_) | (refine HO_2p 0 6 (by decide +kernel) rfl rfl (by decide +kernel) ?_ ?_) | (refine HO_2p 1 6 (by decide +kernel) rfl rfl (by decide +kernel) ?_ ?_) | (refine KC ?_; refine HO_call rfl rfl rfl rfl (repeat_t _) rfl (srcsA) rfl rfl soA ?_; intro ⟨y1, y2⟩ hy; dsimp only [lca, lna]) | (refine KC ?_; refine HO_call rfl rfl rfl rfl (c3 _ _ _ _ _ _ _) rfl (srcsA) rfl rfl soA ?_; intro ⟨z1, z2⟩ hz; dsimp only [lca, lna]) | refine SB ?_ | (refine S2 ?_; intro _) | fail)
  all_goals (refine SRt ?_; unfold RetQ; refine ⟨(z1, z2), trivial, rfl, permA⟩)
def npB (n : NtQ) : List UInt8 := if ntOk n = true then ntB n else []
theorem nput8_t (n : NtQ) (A : Option Addr) (c : Nat) (hd : n.d.length ≤ 1000000) : Tri Tryz.prog 127 [noV n A c] [arr bE 1 A n.d] [] (fun _ : OA => True)
  (fun z => .tuple #[mgV (if ntOk n = true then 3 else 0) z.1 (npB n).length z.2, .int .i64 (if ntOk n = true then 0 else 80)]) (fun z => [ownB z (npB n)]) := by
 have c1 := nocheck_t n A c
 unfold npB
 obtain ⟨k, s, d⟩ := n
 cases h : ntOk ⟨k, s, d⟩ with
 | false =>
  rw [h] at c1
  rw [if_neg (by decide), if_neg (by decide), if_neg (by decide)]
  unfold mgV
  unfold noV at c1 ⊢
  dsimp only at c1 ⊢
  refine Tri_in Tryz.func127 rfl (fun w0 S0 => ?_)
  repeat' (first | refine SX ?_ | (refine KC ?_; refine HO_callq rfl rfl rfl rfl (c1) (fun _ _ => rfl) (trivial) rfl rfl sqA ?_) | refine SB ?_ | (refine S2 ?_; intro _) | fail)
  (refine SRt ?_; unfold RetQ; refine ⟨(none, 0), trivial, rfl, (Keeps.add (fun w => own_nil w) Keeps.nil)⟩)
 | true =>
  rw [h] at c1
  rw [if_pos rfl, if_pos rfl, if_pos rfl]
  rw [if_pos rfl] at c1
  have hh := h
  simp only [ntOk, Bool.and_eq_true, decide_eq_true_eq] at hh
  obtain ⟨⟨⟨⟨h1, h2⟩, h3⟩, h4⟩, h5⟩ := hh
  have ek := byte_of (k := k) (by omega)
  have es := byte_of (k := s) (by omega)
  have e3 : ∀ A1 c1, cat [⟨A1, c1, [UInt8.ofNat k.toNat, UInt8.ofNat s.toNat]⟩, ⟨A, c, d⟩] = ntB ⟨k, s, d⟩ := fun _ _ => by
   unfold ntB cat
   simp only [List.flatMap_cons, List.flatMap_nil, List.append_nil]
   rfl
  have c3 := fun B A1 c1 => concat_t B 2 2 [⟨A1, c1, [UInt8.ofNat k.toNat, UInt8.ofNat s.toNat]⟩, ⟨A, c, d⟩] rfl (by simp) (by rw [e3]; simp [ntB]; omega)
  simp only [e3] at c3
  unfold mgV
  unfold noV at c1 ⊢
  dsimp only at c1 ⊢
  refine Tri_in Tryz.func127 rfl (fun w0 S0 => ?_)
  repeat' (first | refine SX ?_ | (with_reducible refine HO_rw ek ?_) | (with_reducible refine HO_rw es ?_) | (refine KC ?_; refine HO_callq rfl rfl rfl rfl (c1) (fun _ _ => rfl) (trivial) rfl rfl sqA ?_) | (refine KC ?_; refine HO_call rfl rfl rfl rfl (c3 _ _ _) rfl (srcsA) rfl rfl soA ?_; intro ⟨z1, z2⟩ hz; dsimp only [lca, lna]) | refine SB ?_ | (refine S2 ?_; intro _) | fail)
  (refine SRt ?_; unfold RetQ; refine ⟨(z1, z2), trivial, rfl, permA⟩)
theorem ofN_small {n : Nat} (h : n < 256) : (((UInt8.ofNat n).toNat : Nat) : Int) = (n : Int) := by
 rw [UInt8.toNat_ofNat']
 omega
theorem obytes_t (w k : Nat) (h1 : 1 ≤ w) (h4 : w ≤ 4) (hk : k < 256 ^ w) : Tri Tryz.prog 172 [.int .i64 k, .int .i64 w] [] [] (fun _ : OA => True) (fun z => .slice z.1 (be w k).length z.2) (fun z => [ownB z (be w k)]) := by
 have c1 := nput_ok w k h1 h4 hk
 rw [be_length]
 refine Tri_in Tryz.func172 rfl (fun w0 S0 => ?_)
 repeat' (first | (refine KC ?_; refine HO_call rfl rfl rfl rfl (c1) rfl (trivial) rfl rfl soA ?_; intro z hz; dsimp only [lca, lna]) | refine SB ?_ | fail)
 (refine SRt ?_; unfold RetQ; refine ⟨z, trivial, rfl, (Keeps.own_cons Keeps.nil (be_length w k).symm rfl)⟩)
theorem capa_t (code : UInt8) (A : Option Addr) (c : Nat) (d : List UInt8) (hd : d.length ≤ 255) : Tri Tryz.prog 170 [.int .u8 code.toNat, .slice A d.length c] [arr bE 1 A d] [] (fun _ : OA => True)
  (fun z => .slice z.1 (code :: UInt8.ofNat d.length :: d).length z.2) (fun z => [ownB z (code :: UInt8.ofNat d.length :: d)]) := by
 have e := ofN_small (n := d.length) (by omega)
 have e1 : ([[Value.int .u8 code.toNat], [Value.int .u8 d.length]] : List (List Value)) ++ d.map bE = (code :: UInt8.ofNat d.length :: d).map bE := by
  rw [List.map_cons, List.map_cons]
  unfold bE
  rw [e]
  rfl
 have e2 : 2 + d.length = (code :: UInt8.ofNat d.length :: d).length := by simp; omega
 refine Tri_in Tryz.func170 rfl (fun w0 S0 => ?_)
 repeat' (first | refine SW ?_ | refine SB ?_ | (refine T2 ?_; intros) | fail)
 rename_i A' c'
 rw [e1, e2]
 (refine SRt ?_; unfold RetQ; refine ⟨(A', c'), trivial, rfl, permA⟩)
@[reducible] def opV (o : OpQ) : Value := .agg #[.int .i64 o.as, .int .i64 o.hold, .int .u32 o.id, .bool o.four, .int .i64 o.paths]
theorem ocaps_t (a : Nat) (ha : a < 4294967296) (h i : Int) (f : Bool) (p : Nat) (hp : p ≤ 3) : Tri Tryz.prog 171 [opV ⟨a, h, i, f, p⟩] [] [] (fun _ : OA => True)
  (fun z => .slice z.1 (opCaps ⟨a, h, i, f, p⟩).length z.2) (fun z => [ownB z (opCaps ⟨a, h, i, f, p⟩)]) := by
 have c1 := fun A c => capa_t 1 A c [0, 1, 0, 1] (by decide)
 have c2 := obytes_t 4 a (by decide) (by decide) (by omega)
 have c3 := fun A c => capa_t 65 A c (be 4 a) (by rw [be_length]; decide)
 have c4 := fun A c => capa_t 69 A c [0, 1, 1, UInt8.ofNat p] (by simp)
 have e4 := ofN_small (n := p) (by omega)
 have eA : ∀ n : Nat, n ≤ 255 → Value.int .u8 n = Value.int .u8 ((UInt8.ofNat n).toNat : Nat) := fun n h => by rw [ofN_small (by omega)]
 have ep := eA p (by omega)
 have e5 := be_length 4 a
 by_cases h0 : 0 < p
 ·have h0z : (0 : Int) < (p : Int) := by omega
  have h0n : (p : Int).toNat = p := rfl
  cases f
  ·have eo : opCaps ⟨a, h, i, false, p⟩ = [1, 4, 0, 1, 0, 1] ++ [69, 4, 0, 1, 1, UInt8.ofNat p] := by simp [opCaps, h0]
   rw [eo]
   refine Tri_in Tryz.func171 rfl (fun w0 S0 => ?_)
   repeat' (first | refine SX ?_ | (with_reducible refine HO_rw ep ?_) | (refine KC ?_; refine HO_call rfl rfl rfl rfl (c1 _ _) rfl (srcsA) rfl rfl soA ?_; intro ⟨x1, x2⟩ hz; dsimp only [lca, lna]) | (refine KC ?_; refine HO_call rfl rfl rfl rfl (c4 _ _) rfl (srcsA) rfl rfl soA ?_; intro ⟨y1, y2⟩ hz; dsimp only [lca, lna]) | refine SB ?_ | (refine T2 ?_; intros) | fail)
   rename_i A' c'
   (refine SRt ?_; unfold RetQ; refine ⟨(A', c'), trivial, rfl, permA⟩)
  ·have eo : opCaps ⟨a, h, i, true, p⟩ = ([1, 4, 0, 1, 0, 1] ++ (65 :: 4 :: be 4 a)) ++ [69, 4, 0, 1, 1, UInt8.ofNat p] := by simp [opCaps, h0]
   rw [eo]
   refine Tri_in Tryz.func171 rfl (fun w0 S0 => ?_)
   repeat' (first | refine SX ?_ | (with_reducible refine HO_rw ep ?_) | (refine KC ?_; refine HO_call rfl rfl rfl rfl (c2) rfl (trivial) rfl rfl soA ?_; intro ⟨u1, u2⟩ hz; dsimp only [lca, lna]) | (refine KC ?_; refine HO_call rfl rfl rfl rfl (c1 _ _) rfl (srcsA) rfl rfl soA ?_; intro ⟨x1, x2⟩ hz; dsimp only [lca, lna]) | (refine KC ?_; refine HO_call rfl rfl rfl rfl (c3 _ _) rfl (srcsA) rfl rfl soA ?_; intro ⟨v1, v2⟩ hz; dsimp only [lca, lna]) | (refine KC ?_; refine HO_call rfl rfl rfl rfl (c4 _ _) rfl (srcsA) rfl rfl soA ?_; intro ⟨y1, y2⟩ hz; dsimp only [lca, lna]) | refine SB ?_ | (refine T2 ?_; intros) | fail)
   rename_i A1 c1 b2 y1 y2 hy A' c'
   (refine SRt ?_; unfold RetQ; refine ⟨(A', c'), trivial, rfl, permA⟩)
 ·obtain rfl : p = 0 := by omega
  cases f
  ·have eo : opCaps ⟨a, h, i, false, (0 : Nat)⟩ = [1, 4, 0, 1, 0, 1] := by simp [opCaps]
   rw [eo]
   refine Tri_in Tryz.func171 rfl (fun w0 S0 => ?_)
   repeat' (first | refine SX ?_ | (refine KC ?_; refine HO_call rfl rfl rfl rfl (c1 _ _) rfl (srcsA) rfl rfl soA ?_; intro ⟨x1, x2⟩ hz; dsimp only [lca, lna]) | refine SB ?_ | (refine T2 ?_; intros) | fail)
   (refine SRt ?_; unfold RetQ; refine ⟨(x1, x2), trivial, rfl, permA⟩)
  ·have eo : opCaps ⟨a, h, i, true, (0 : Nat)⟩ = [1, 4, 0, 1, 0, 1] ++ (65 :: 4 :: be 4 a) := by simp [opCaps]
   rw [eo]
   refine Tri_in Tryz.func171 rfl (fun w0 S0 => ?_)
   repeat' (first | refine SX ?_ | (refine KC ?_; refine HO_call rfl rfl rfl rfl (c2) rfl (trivial) rfl rfl soA ?_; intro ⟨u1, u2⟩ hz; dsimp only [lca, lna]) | (refine KC ?_; refine HO_call rfl rfl rfl rfl (c1 _ _) rfl (srcsA) rfl rfl soA ?_; intro ⟨x1, x2⟩ hz; dsimp only [lca, lna]) | (refine KC ?_; refine HO_call rfl rfl rfl rfl (c3 _ _) rfl (srcsA) rfl rfl soA ?_; intro ⟨v1, v2⟩ hz; dsimp only [lca, lna]) | refine SB ?_ | (refine T2 ?_; intros) | fail)
   rename_i A' c'
   (refine SRt ?_; unfold RetQ; refine ⟨(A', c'), trivial, rfl, permA⟩)
end Go.Proofs.YteeogabkkblkgaaGreatDoor
