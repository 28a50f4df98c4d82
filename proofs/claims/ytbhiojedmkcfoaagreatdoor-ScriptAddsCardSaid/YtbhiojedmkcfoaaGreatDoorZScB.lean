/- Part of a proof of many texts: what the theorem at its end leans on. -/
import Derived.Test.YtbhiojedmkcfoaaGreatDoorZScA
namespace Go.Proofs.YtbhiojedmkcfoaaGreatDoor
set_option linter.unusedVariables false
set_option linter.unusedSimpArgs false
open Go.RowKit
attribute [local irreducible] HC HX HO Tri eP adr
structure DoS where
 q : DoQ
 dA : Option Addr
 dc : Nat
 cA : Option Addr
 cc : Nat
 rA : Option Addr
 rc : Nat
def DoS.e (d : DoS) : List Value := [.int .i64 d.q.k, .int .i64 d.q.r, .int .i64 d.q.n, .slice d.dA d.q.data.length d.dc, .int .i64 d.q.cs, .int .i64 d.q.cq, .slice d.cA d.q.cl.length d.cc, .int .i64 d.q.rs, .int .i64 d.q.rq, .slice d.rA d.q.rl.length d.rc]
instance : EncOk DoS.e 10 := ⟨fun _ => ⟨rfl, rfl⟩⟩
@[reducible] def DoS.ro (d : DoS) : List SL := [arr bE 1 d.dA d.q.data, arr CntQ.e 3 d.cA d.q.cl, arr CarQ.e 3 d.rA d.q.rl]
@[reducible] def TDo : Nat := 97
theorem sfits_t (n : Int) (w : Nat) (h1 : 1 ≤ w) (h4 : w ≤ 4) : Tri Tryz.prog 213 [.int .i64 n, .int .i64 w] [] [] (fun _ : Unit => True) (fun _ => .bool (fitW w n)) (fun _ => []) := by
 by_cases h0 : n < 0
 ·have e : fitW w n = false := by unfold fitW; rw [decide_eq_false (by omega)]; rfl
  rw [e]
  refine Tri_of (N := Tryz.f213.ntmps) (c := bodyOf Tryz.f213) Tryz.func213 rfl rfl rfl rfl (fun w0 S0 => ?_)
  repeat' (first | refine SW ?_ | ((refine HO_g 2 rfl ?_); (refine HO_skip rfl rfl rfl rfl rdA ?_)) | refine SD ?_ | exact HO_seg rfl rfl | refine S1 ?_ | (refine S2 ?_; intro _) | (refine S3 ?_; intro _ _) | (refine S4 ?_; intro _ _ _) | (refine HO_g 2 rfl ?_; first | apply HO_a1 rfl | apply HO_o1 rfl) | refine S5 ?_ | (intro hb; try replace hb := simB hb; try exact kill hb))
  (refine SR ?_; unfold RetQ; refine ⟨(), trivial, ?_, Keeps.nil⟩)
  rfl
 ·obtain ⟨k, rfl⟩ : ∃ k : Nat, n = k := ⟨n.toNat, by omega⟩
  have hsh : bShr .i64 (k : Int) (8 * w) = ((k / 256 ^ w : Nat) : Int) := by
   rw [shr_nat _ _ (by omega)]
   have : (256 : Nat) ^ w = 2 ^ (8 * w) := by rw [show (256 : Nat) = 2 ^ 8 from rfl, ← Nat.pow_mul]
   rw [this]
  have e : fitW w k = decide (((k / 256 ^ w : Nat) : Int) = 0) := by
   unfold fitW
   rw [decide_eq_true (by omega), Bool.true_and]
   have hp : 0 < 256 ^ w := Nat.pow_pos (by decide)
   by_cases hk : k < 256 ^ w
   ·rw [Nat.div_eq_of_lt hk, decide_eq_true (by omega)]
    rfl
   ·have h2 : 0 < k / 256 ^ w := Nat.div_pos (by omega) hp
    rw [decide_eq_false (by omega), decide_eq_false (by omega)]
  rw [e]
  refine Tri_of (N := Tryz.f213.ntmps) (c := bodyOf Tryz.f213) Tryz.func213 rfl rfl rfl rfl (fun w0 S0 => ?_)
  repeat' (first | refine SW ?_ | refine SD ?_ | exact HO_seg rfl rfl | refine S1 ?_ | (refine S2 ?_; intro _) | (refine S3 ?_; intro _ _) | (refine S4 ?_; intro _ _ _) | (refine HO_g 2 rfl ?_; first | apply HO_a1 rfl | apply HO_o1 rfl) | refine S5 ?_ | (intro hb; try replace hb := simB hb; try exact kill hb))
  (refine SR ?_; unfold RetQ; refine ⟨(), trivial, ?_, Keeps.nil⟩)
  rw [hsh]
  rfl
set_option maxHeartbeats 4000000 in
theorem scnts_t (s q s' q' : Int) (A A' : Option Addr) (c c' : Nat) (l l' : List CntQ) (hl : l.length ≤ 1000000) (hl' : l'.length ≤ 1000000) : Tri Tryz.prog 169 [.agg #[.int .i64 s, .int .i64 q, .slice A l.length c], .agg #[.int .i64 s', .int .i64 q', .slice A' l'.length c']] [arr CntQ.e 3 A l, arr CntQ.e 3 A' l'] [] (fun _ : Unit => True)
  (fun _ => .bool ((decide (s = s') && decide (q = q')) && decide (l = l'))) (fun _ => []) := by
 have h := ceqC_t A l.length c l rfl A' l'.length c' l' rfl hl hl'
 refine Tri_of (N := Tryz.f169.ntmps) (c := bodyOf Tryz.f169) Tryz.func169 rfl rfl rfl rfl (fun w0 S0 => ?_)
 repeat' (first | refine SW ?_ | (refine HO_k 12 rfl ?_; refine HO_callq rfl rfl rfl rfl (h) (fun _ _ => rfl) (srcsA) rfl rfl sqA ?_) | exact HO_seg rfl rfl | refine S1 ?_ | (refine S2 ?_; intro _) | (refine S3 ?_; intro _ _) | (refine S4 ?_; intro _ _ _) | (refine HO_g 2 rfl ?_; first | apply HO_a1 rfl | apply HO_o1 rfl) | refine S5 ?_ | (intro hb; try replace hb := simB hb; try exact kill hb))
 (refine SR ?_; unfold RetQ; refine ⟨(), trivial, ?_, Keeps.nil⟩)
 rfl
set_option maxHeartbeats 4000000 in
theorem scars_t (s q s' q' : Int) (A A' : Option Addr) (c c' : Nat) (l l' : List CarQ) (hl : l.length ≤ 1000000) (hl' : l'.length ≤ 1000000) : Tri Tryz.prog 170 [.agg #[.int .i64 s, .int .i64 q, .slice A l.length c], .agg #[.int .i64 s', .int .i64 q', .slice A' l'.length c']] [arr CarQ.e 3 A l, arr CarQ.e 3 A' l'] [] (fun _ : Unit => True)
  (fun _ => .bool ((decide (s = s') && decide (q = q')) && decide (l = l'))) (fun _ => []) := by
 have h := ceqR_t A l.length c l rfl A' l'.length c' l' rfl hl hl'
 refine Tri_of (N := Tryz.f170.ntmps) (c := bodyOf Tryz.f170) Tryz.func170 rfl rfl rfl rfl (fun w0 S0 => ?_)
 repeat' (first | refine SW ?_ | (refine HO_k 12 rfl ?_; refine HO_callq rfl rfl rfl rfl (h) (fun _ _ => rfl) (srcsA) rfl rfl sqA ?_) | exact HO_seg rfl rfl | refine S1 ?_ | (refine S2 ?_; intro _) | (refine S3 ?_; intro _ _) | (refine S4 ?_; intro _ _ _) | (refine HO_g 2 rfl ?_; first | apply HO_a1 rfl | apply HO_o1 rfl) | refine S5 ?_ | (intro hb; try replace hb := simB hb; try exact kill hb))
 (refine SR ?_; unfold RetQ; refine ⟨(), trivial, ?_, Keeps.nil⟩)
 rfl
set_option maxHeartbeats 4000000 in
theorem rcnts_t (s q s' q' : Int) (A A' : Option Addr) (c c' : Nat) (l l' : List CntQ) (hl : l.length ≤ 1000000) (hl' : l'.length ≤ 1000000) : Tri Tryz.prog 171 [.agg #[.int .i64 s, .int .i64 q, .slice A l.length c], .agg #[.int .i64 s', .int .i64 q', .slice A' l'.length c']] [arr CntQ.e 3 A l, arr CntQ.e 3 A' l'] [] (fun _ : Unit => True)
  (fun _ => .bool ((decide (s = s') && decide (q = q')) && decide (l = l'))) (fun _ => []) := by
 have h := r17same_t A l.length c l rfl A' l'.length c' l' rfl hl hl'
 refine Tri_of (N := Tryz.f171.ntmps) (c := bodyOf Tryz.f171) Tryz.func171 rfl rfl rfl rfl (fun w0 S0 => ?_)
 repeat' (first | refine SW ?_ | (refine HO_k 12 rfl ?_; refine HO_callq rfl rfl rfl rfl (h) (fun _ _ => rfl) (srcsA) rfl rfl sqA ?_) | exact HO_seg rfl rfl | refine S1 ?_ | (refine S2 ?_; intro _) | (refine S3 ?_; intro _ _) | (refine S4 ?_; intro _ _ _) | (refine HO_g 2 rfl ?_; first | apply HO_a1 rfl | apply HO_o1 rfl) | refine S5 ?_ | (intro hb; try replace hb := simB hb; try exact kill hb))
 (refine SR ?_; unfold RetQ; refine ⟨(), trivial, ?_, Keeps.nil⟩)
 rfl
set_option maxHeartbeats 4000000 in
theorem rcars_t (s q s' q' : Int) (A A' : Option Addr) (c c' : Nat) (l l' : List CarQ) (hl : l.length ≤ 1000000) (hl' : l'.length ≤ 1000000) : Tri Tryz.prog 172 [.agg #[.int .i64 s, .int .i64 q, .slice A l.length c], .agg #[.int .i64 s', .int .i64 q', .slice A' l'.length c']] [arr CarQ.e 3 A l, arr CarQ.e 3 A' l'] [] (fun _ : Unit => True)
  (fun _ => .bool ((decide (s = s') && decide (q = q')) && decide (l = l'))) (fun _ => []) := by
 have h := r18same_t A l.length c l rfl A' l'.length c' l' rfl hl hl'
 refine Tri_of (N := Tryz.f172.ntmps) (c := bodyOf Tryz.f172) Tryz.func172 rfl rfl rfl rfl (fun w0 S0 => ?_)
 repeat' (first | refine SW ?_ | (refine HO_k 12 rfl ?_; refine HO_callq rfl rfl rfl rfl (h) (fun _ _ => rfl) (srcsA) rfl rfl sqA ?_) | exact HO_seg rfl rfl | refine S1 ?_ | (refine S2 ?_; intro _) | (refine S3 ?_; intro _ _) | (refine S4 ?_; intro _ _ _) | (refine HO_g 2 rfl ?_; first | apply HO_a1 rfl | apply HO_o1 rfl) | refine S5 ?_ | (intro hb; try replace hb := simB hb; try exact kill hb))
 (refine SR ?_; unfold RetQ; refine ⟨(), trivial, ?_, Keeps.nil⟩)
 rfl
theorem do_dec (x y : DoQ) : (((((decide (x.k = y.k) && decide (x.r = y.r)) && decide (x.n = y.n)) && decide (x.data = y.data)) && ((decide (x.cs = y.cs) && decide (x.cq = y.cq)) && decide (x.cl = y.cl))) && ((decide (x.rs = y.rs) && decide (x.rq = y.rq)) && decide (x.rl = y.rl))) = decide (x = y) := by
 obtain ⟨x1, x2, x3, x4, x5, x6, x7, x8, x9, x10⟩ := x
 obtain ⟨y1, y2, y3, y4, y5, y6, y7, y8, y9, y10⟩ := y
 rw [Bool.eq_iff_iff]
 simp only [Bool.and_eq_true, decide_eq_true_eq, DoQ.mk.injEq, and_assoc]
def DoL (d : DoQ) : Prop := d.data.length ≤ 1000000 ∧ d.cl.length ≤ 1000000 ∧ d.rl.length ≤ 1000000
set_option maxHeartbeats 8000000 in
theorem sdo_t (x y : DoS) (hx : DoL x.q) (hy : DoL y.q) : Tri Tryz.prog 112 [.agg x.e.toArray, .agg y.e.toArray] (x.ro ++ y.ro) [] (fun _ : Unit => True) (fun _ => .bool (decide (x.q = y.q))) (fun _ => []) := by
 have h1 := bequal_t x.dA y.dA x.dc y.dc x.q.data y.q.data
 have h2 := scnts_t x.q.cs x.q.cq y.q.cs y.q.cq x.cA y.cA x.cc y.cc x.q.cl y.q.cl hx.2.1 hy.2.1
 have h3 := scars_t x.q.rs x.q.rq y.q.rs y.q.rq x.rA y.rA x.rc y.rc x.q.rl y.q.rl hx.2.2 hy.2.2
 rw [← do_dec]
 refine Tri_of (N := Tryz.f112.ntmps) (c := bodyOf Tryz.f112) Tryz.func112 rfl rfl rfl rfl (fun w0 S0 => ?_)
 dsimp only [DoS.e, DoS.ro, lca, lna]
 repeat' (first | refine SW ?_ | (refine HO_k 12 rfl ?_; refine HO_callq rfl rfl rfl rfl (h1) (fun _ _ => rfl) (srcsA) rfl rfl sqA ?_) | (refine HO_k 12 rfl ?_; refine HO_callq rfl rfl rfl rfl (h2) (fun _ _ => rfl) (srcsA) rfl rfl sqA ?_) | (refine HO_k 12 rfl ?_; refine HO_callq rfl rfl rfl rfl (h3) (fun _ _ => rfl) (srcsA) rfl rfl sqA ?_) | exact HO_seg rfl rfl | refine S1 ?_ | (refine S2 ?_; intro _) | (refine S3 ?_; intro _ _) | (refine S4 ?_; intro _ _ _) | (refine HO_g 2 rfl ?_; first | apply HO_a1 rfl | apply HO_o1 rfl) | refine S5 ?_ | (intro hb; try replace hb := simB hb; try exact kill hb))
 (refine SR ?_; unfold RetQ; refine ⟨(), trivial, ?_, Keeps.nil⟩)
 rfl
set_option maxHeartbeats 8000000 in
theorem rdo_t (x y : DoS) (hx : DoL x.q) (hy : DoL y.q) : Tri Tryz.prog 113 [.agg x.e.toArray, .agg y.e.toArray] (x.ro ++ y.ro) [] (fun _ : Unit => True) (fun _ => .bool (decide (x.q = y.q))) (fun _ => []) := by
 have h2 := rcnts_t x.q.cs x.q.cq y.q.cs y.q.cq x.cA y.cA x.cc y.cc x.q.cl y.q.cl hx.2.1 hy.2.1
 have h3 := rcars_t x.q.rs x.q.rq y.q.rs y.q.rq x.rA y.rA x.rc y.rc x.q.rl y.q.rl hx.2.2 hy.2.2
 rw [← do_dec]
 refine Tri_of (N := Tryz.f113.ntmps) (c := bodyOf Tryz.f113) Tryz.func113 rfl rfl rfl rfl (fun w0 S0 => ?_)
 dsimp only [DoS.e, DoS.ro, lca, lna]
 repeat' (first | refine SW ?_ | (with_reducible refine HO_rw (congrArg Value.bool (sba_eq _ _)) ?_) | (refine HO_k 7 rfl ?_; first | refine HO_b2s (l := x.q.data) rfl rfl ⟨_, seeL_ro List.mem_cons_self, arr_raw⟩ rfl rfl rfl rfl ?_ | refine HO_b2s (l := y.q.data) rfl rfl ⟨_, seeL_ro (.tail _ (.tail _ (.tail _ (.head _)))), arr_raw⟩ rfl rfl rfl rfl ?_) | (refine HO_k 12 rfl ?_; refine HO_callq rfl rfl rfl rfl (h2) (fun _ _ => rfl) (srcsA) rfl rfl sqA ?_) | (refine HO_k 12 rfl ?_; refine HO_callq rfl rfl rfl rfl (h3) (fun _ _ => rfl) (srcsA) rfl rfl sqA ?_) | exact HO_seg rfl rfl | refine S1 ?_ | (refine S2 ?_; intro _) | (refine S3 ?_; intro _ _) | (refine S4 ?_; intro _ _ _) | (refine HO_g 2 rfl ?_; first | apply HO_a1 rfl | apply HO_o1 rfl) | refine S5 ?_ | (intro hb; try replace hb := simB hb; try exact kill hb))
 (refine SR ?_; unfold RetQ; refine ⟨(), trivial, ?_, Keeps.nil⟩)
 rfl
def usedS (d : DoS) : DoS := ⟨usedQ d.q, (if d.q.k = 5 then d.dA else none), (if d.q.k = 5 then d.dc else 0), (if d.q.k = 8 then d.cA else none), (if d.q.k = 8 then d.cc else 0), (if d.q.k = 9 then d.rA else none), (if d.q.k = 9 then d.rc else 0)⟩
set_option maxHeartbeats 16000000 in
theorem sused_t (d : DoS) (hk : 1 ≤ d.q.k ∧ d.q.k ≤ 9) : Tri Tryz.prog 176 [.agg d.e.toArray] [] [] (fun _ : Unit => True) (fun _ => .agg (usedS d).e.toArray) (fun _ => []) := by
 obtain ⟨⟨k, r, n, data, cs, cq, cl, rs, rq, rl⟩, dA, dc, cA, cc, rA, rc⟩ := d
 dsimp only at hk
 obtain h | h | h | h | h | h | h | h | h : k = 1 ∨ k = 2 ∨ k = 3 ∨ k = 4 ∨ k = 5 ∨ k = 6 ∨ k = 7 ∨ k = 8 ∨ k = 9 := by omega
 all_goals
  subst h
  refine Tri_of (N := Tryz.f176.ntmps) (c := bodyOf Tryz.f176) Tryz.func176 rfl rfl rfl rfl (fun w0 S0 => ?_)
  dsimp only [DoS.e]
  repeat' (first | refine SW ?_ | refine SD ?_ | exact HO_seg rfl rfl | refine S1 ?_ | (refine S2 ?_; intro _) | (refine S3 ?_; intro _ _) | (refine S4 ?_; intro _ _ _) | (refine HO_g 2 rfl ?_; first | apply HO_a1 rfl | apply HO_o1 rfl) | refine S5 ?_ | (intro hb; try replace hb := simB hb; try exact kill hb))
  (refine SR ?_; unfold RetQ; refine ⟨(), trivial, ?_, Keeps.nil⟩)
  rfl
set_option maxHeartbeats 16000000 in
theorem rused_t (d : DoS) (hk : 1 ≤ d.q.k ∧ d.q.k ≤ 9) : Tri Tryz.prog 173 [.agg d.e.toArray] [] [] (fun _ : Unit => True) (fun _ => .agg (usedS d).e.toArray) (fun _ => []) := by
 obtain ⟨⟨k, r, n, data, cs, cq, cl, rs, rq, rl⟩, dA, dc, cA, cc, rA, rc⟩ := d
 dsimp only at hk
 obtain h | h | h | h | h | h | h | h | h : k = 1 ∨ k = 2 ∨ k = 3 ∨ k = 4 ∨ k = 5 ∨ k = 6 ∨ k = 7 ∨ k = 8 ∨ k = 9 := by omega
 all_goals
  subst h
  refine Tri_of (N := Tryz.f173.ntmps) (c := bodyOf Tryz.f173) Tryz.func173 rfl rfl rfl rfl (fun w0 S0 => ?_)
  dsimp only [DoS.e]
  repeat' (first | refine SW ?_ | refine SD ?_ | exact HO_seg rfl rfl | refine S1 ?_ | (refine S2 ?_; intro _) | (refine S3 ?_; intro _ _) | (refine S4 ?_; intro _ _ _) | (refine HO_g 2 rfl ?_; first | apply HO_a1 rfl | apply HO_o1 rfl) | refine S5 ?_ | (intro hb; try replace hb := simB hb; try exact kill hb))
  (refine SR ?_; unfold RetQ; refine ⟨(), trivial, ?_, Keeps.nil⟩)
  rfl
end Go.Proofs.YtbhiojedmkcfoaaGreatDoor
