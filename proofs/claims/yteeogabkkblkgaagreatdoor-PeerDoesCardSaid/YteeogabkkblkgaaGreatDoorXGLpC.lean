/- Part of a proof. -/
import Derived.Test.YteeogabkkblkgaaGreatDoorXGLpA
namespace Go.Proofs.YteeogabkkblkgaaGreatDoor
set_option maxHeartbeats 1000000000
set_option linter.unusedVariables false
set_option linter.unusedSimpArgs false
open Go.RowKit
attribute [local irreducible] HC HX HO Tri eP adr
structure DoS where
 k : Int
 n : Int
 now : Int
 bA : Option Addr
 bc : Nat
 b : List UInt8
 u : UpS
 c : Int
 s : Int
 dA : Option Addr
 dc : Nat
 d : List UInt8
def DoS.e (o : DoS) : List Value := [.int .i64 o.k, .int .i64 o.n, .int .i64 o.now, .slice o.bA o.b.length o.bc, .slice o.u.gA o.u.gone.length o.u.gc, .slice o.u.rA o.u.routes.length o.u.rc, .int .i64 o.u.a.org, .slice o.u.a.pA o.u.a.path.length o.u.a.pc, .int .u32 o.u.a.nxt, .int .i64 o.u.a.med, .int .i64 o.u.a.pref, .slice o.u.a.cA o.u.a.comms.length o.u.a.cc, .bool o.u.soft, .int .i64 o.c, .int .i64 o.s, .slice o.dA o.d.length o.dc]
@[reducible] def DoS.ro (o : DoS) : List SL := arr bE 1 o.bA o.b :: (o.u.ro ++ [arr bE 1 o.dA o.d])
def bigO (o : DoS) : Bool := decide (5000 < o.b.length) || bigU o.u || decide (5000 < o.d.length)
theorem large12_t (o : DoS) : Tri Tryz.prog 23 [.agg o.e.toArray] o.ro [] (fun _ : Unit => True) (fun _ => .bool (bigO o)) (fun _ => []) := by
 have c1 := rlarge7_t o.u
 unfold bigO
 dsimp only [DoS.e, DoS.ro, UpS.e, UpS.ro, lca, lna] at c1 ⊢
 by_cases h1 : 5000 < o.b.length
 ·have h1z : (o.b.length : Int) > 5000 := by omega
  rw [decide_eq_true h1, Bool.true_or, Bool.true_or]
  refine Tri_in Tryz.func23 rfl (fun w0 S0 => ?_)
  repeat' (first | refine SK ?_ | refine SD ?_ | refine SB ?_ | (refine S2 ?_; intro _) | fail)
  (refine SRt ?_; refine RU ?_)
  rfl
 have h1z : ¬ (o.b.length : Int) > 5000 := by omega
 rw [decide_eq_false h1, Bool.false_or]
 cases h2 : bigU o.u with
 | true =>
  rw [h2] at c1
  rw [Bool.true_or]
  refine Tri_in Tryz.func23 rfl (fun w0 S0 => ?_)
  repeat' (first | refine SK ?_ | refine SD ?_ | (refine KC ?_; refine HO_callq rfl rfl rfl rfl (c1) (fun _ _ => rfl) (srcsA) rfl rfl sqA ?_) | refine SB ?_ | (refine S2 ?_; intro _) | fail)
  (refine SRt ?_; refine RU ?_)
  rfl
 | false =>
  rw [h2] at c1
  rw [Bool.false_or]
  by_cases h3 : 5000 < o.d.length
  ·have h3z : (o.d.length : Int) > 5000 := by omega
   rw [decide_eq_true h3]
   refine Tri_in Tryz.func23 rfl (fun w0 S0 => ?_)
   repeat' (first | refine SK ?_ | refine SD ?_ | (refine KC ?_; refine HO_callq rfl rfl rfl rfl (c1) (fun _ _ => rfl) (srcsA) rfl rfl sqA ?_) | refine SB ?_ | (refine S2 ?_; intro _) | fail)
   (refine SRt ?_; refine RU ?_)
   rfl
  ·have h3z : ¬ (o.d.length : Int) > 5000 := by omega
   rw [decide_eq_false h3]
   refine Tri_in Tryz.func23 rfl (fun w0 S0 => ?_)
   repeat' (first | refine SK ?_ | refine SD ?_ | (refine KC ?_; refine HO_callq rfl rfl rfl rfl (c1) (fun _ _ => rfl) (srcsA) rfl rfl sqA ?_) | refine SB ?_ | (refine S2 ?_; intro _) | fail)
   (refine SRt ?_; refine RU ?_)
   rfl
end Go.Proofs.YteeogabkkblkgaaGreatDoor
