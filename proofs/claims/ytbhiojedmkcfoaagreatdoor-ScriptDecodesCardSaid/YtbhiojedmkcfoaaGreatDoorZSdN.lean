/- Part of a proof of many texts: what the theorem at its end leans on. -/
import Derived.Test.YtbhiojedmkcfoaaGreatDoorZSdE
import Derived.Test.YtbhiojedmkcfoaaGreatDoorZSdL
import Derived.Test.YtbhiojedmkcfoaaGreatDoorZScZ
namespace Go.Proofs.YtbhiojedmkcfoaaGreatDoor
set_option linter.unusedVariables false
set_option linter.unusedSimpArgs false
open Go.RowKit
attribute [local irreducible] HC HX HO Tri eP adr
theorem SYSdN {p q : Prop} (hq : q) (h : q → p := by intro hq; refine HO_k 3 rfl ?_; exact HO_lastG (by decide +kernel) rfl rfl (by decide +kernel) (by decide +kernel) rfl hq) : p := h hq
def mkX3 (q : CfQ) (x : DecX) : ScS := ⟨⟨q, x.1.1.1, x.1.1.2, x.1.2.1, x.1.2.2⟩, x.2.1.1, x.2.1.2, x.2.2⟩
theorem mkX3_L {q : CfQ} {ds : List DoQ} (hw : CfW q) (h : scOk q ds = true) (ha : ∀ d ∈ ds, AllA d) {x : DecX} (hx : x.2.2.map (·.q) = ds) : ScL (mkX3 q x) ∧ scB (mkX3 q x) = true := by
 have hl : x.2.2.length = ds.length := by
  have := congrArg List.length hx
  rw [List.length_map] at this
  exact this
 unfold scOk at h
 simp only [Bool.and_eq_true, decide_eq_true_eq, List.all_eq_true] at h
 have hp := cfOk_parts h.1.1
 refine ⟨⟨⟨by show q.ifs.length ≤ 100000; omega, by show q.deny.length ≤ 100000; omega, hw.2.2.1, hw.2.2.2⟩, by show x.2.2.length ≤ 1000000; omega, fun d hd => ?_⟩, ?_⟩
 ·have hm : d.q ∈ ds := by
   rw [← hx]
   exact List.mem_map.2 ⟨d, hd, rfl⟩
  exact W_one (h.2 _ hm) (ha _ hm)
 ·show (cfOk q && (decide (x.2.2.length ≤ 4096) && (x.2.2.map (·.q)).all oneQ)) = true
  rw [hx, h.1.1, hl, decide_eq_true h.1.2, List.all_eq_true.2 h.2]
  rfl
set_option maxHeartbeats 1000000000 in
theorem lawDecodes (m : Int) (A : Option Addr) (c : Nat) (b : List UInt8) : Tri Tryz.prog 11 [.slice A b.length c] ([tab1, glW, maxLen0 m] ++ [arr bE 1 A b]) [] (fun _ : Unit => True) (fun _ => .bool true) (fun _ => []) := by
 have c3 := lives27_t m
 dsimp only [lca, lna]
 by_cases hl : 20000 < b.length
 ·refine Tri_of (N := Tryz.f11.ntmps) (c := bodyOf Tryz.f11) Tryz.func11 rfl rfl rfl rfl (fun w0 S0 => ?_)
  repeat' (first | refine SW ?_ | ((refine HO_g 2 rfl ?_); (refine HO_skip rfl rfl rfl rfl rdA ?_)) | refine SD ?_ | (refine HO_k 12 rfl ?_; refine HO_callq rfl rfl rfl rfl (c3) (fun _ _ => rfl) (srcsA) rfl rfl sqA ?_) | exact HO_seg rfl rfl | refine S1 ?_ | (refine S2 ?_; intro _) | (refine S3 ?_; intro _ _) | (refine S4 ?_; intro _ _ _) | (refine HO_g 2 rfl ?_; first | apply HO_a1 rfl | apply HO_o1 rfl) | refine SYSdN ?_ | refine S5 ?_ | (intro hb; try replace hb := simB hb; try exact kill hb))
  (refine SR ?_; unfold RetQ; refine ⟨(), trivial, ?_, Keeps.nil⟩)
  rfl
 have c1 := sdec_t m A c b (by omega)
 have c2 := rdec27_t A c b (by omega)
 unfold decP decSc at c1 c2
 cases hd : decM b with
 | none =>
  rw [hd] at c1 c2
  have c4 := Tri_ro (ro' := []) (rsame27_t sc0 sc0 sc0_L sc0_L) (AllSrc.free (fun w => arr_nil _ w) (AllSrc.free (fun w => arr_nil _ w) (AllSrc.free (fun w => arr_nil _ w) (AllSrc.free inn_nil (AllSrc.free (fun w => arr_nil _ w) (AllSrc.free (fun w => arr_nil _ w) (AllSrc.free (fun w => arr_nil _ w) (AllSrc.free inn_nil trivial))))))))
  rw [scsame_q (s := sc0) (t := sc0) rfl rfl] at c4
  dsimp only [ScS.e, ScS.ro, CfS.e, lca, lna] at c1 c2 c4
  refine Tri_of (N := Tryz.f11.ntmps) (c := bodyOf Tryz.f11) Tryz.func11 rfl rfl rfl rfl (fun w0 S0 => ?_)
  repeat' (first | refine SW ?_ | ((refine HO_g 2 rfl ?_); (refine HO_skip rfl rfl rfl rfl rdA ?_)) | refine SD ?_ | (refine HO_k 12 rfl ?_; refine HO_call rfl rfl rfl rfl (c1) rfl (srcsA) rfl rfl soA ?_; intro x1 hx1; dsimp only [lca, lna]) | (refine HO_k 12 rfl ?_; refine HO_call rfl rfl rfl rfl (c2) rfl (srcsA) rfl rfl soA ?_; intro x2 hx2; dsimp only [lca, lna]) | (refine HO_k 12 rfl ?_; refine HO_callq rfl rfl rfl rfl (c3) (fun _ _ => rfl) (srcsA) rfl rfl sqA ?_) | (refine HO_k 12 rfl ?_; refine HO_callq rfl rfl rfl rfl (c4) (fun _ _ => rfl) (trivial) rfl rfl sqA ?_) | exact HO_seg rfl rfl | refine S1 ?_ | (refine S2 ?_; intro _) | (refine S3 ?_; intro _ _) | (refine S4 ?_; intro _ _ _) | (refine HO_g 2 rfl ?_; first | apply HO_a1 rfl | apply HO_o1 rfl) | refine SYSdN ?_ | refine S5 ?_ | (intro hb; try replace hb := simB hb; try exact kill hb))
  (refine SR ?_; unfold RetQ; refine ⟨(), trivial, ?_, Keeps.nil⟩)
  rfl
 | some qd =>
  obtain ⟨q, ds⟩ := qd
  obtain ⟨he, hok, hw, ha⟩ := enc_dec hd
  rw [hd] at c1 c2
  have c1 : Tri Tryz.prog 47 [.slice A b.length c] [arr bE 1 A b, glW, maxLen0 m] [] (fun x : DecX => x.2.2.map (·.q) = ds) (fun x => .tuple #[.agg (mkX3 q x).e.toArray, .int .i64 0]) (fun x => (mkX3 q x).ro) := c1
  have c2 : Tri Tryz.prog 49 [.slice A b.length c] [arr bE 1 A b] [] (fun x : DecX => x.2.2.map (·.q) = ds) (fun x => .tuple #[.agg (mkX3 q x).e.toArray, .bool true]) (fun x => (mkX3 q x).ro) := c2
  have c4 := fun (x y : DecX) (hx : x.2.2.map (·.q) = ds) (hy : y.2.2.map (·.q) = ds) => rsame27_t (mkX3 q x) (mkX3 q y) (mkX3_L hw hok ha hx).1 (mkX3_L hw hok ha hy).1
  have s4 := fun (x y : DecX) (hx : x.2.2.map (·.q) = ds) (hy : y.2.2.map (·.q) = ds) => scsame_q (s := mkX3 q x) (t := mkX3 q y) rfl (hx.trans hy.symm)
  have c4 := fun (x y : DecX) (hx : x.2.2.map (·.q) = ds) (hy : y.2.2.map (·.q) = ds) => (s4 x y hx hy) ▸ (c4 x y hx hy)
  have c5 : ∀ (x : DecX) (hx : x.2.2.map (·.q) = ds), Tri Tryz.prog 42 [.agg (mkX3 q x).e.toArray] ((mkX3 q x).ro ++ [tab1, glW]) [] (fun _ : OA => True) (fun x => .tuple #[.slice x.1 b.length x.2, .int .i64 0]) (fun x => [ownB x b]) := fun x hx => by
   have := senc_yes (mkX3 q x) (mkX3_L hw hok ha hx).1 (mkX3_L hw hok ha hx).2
   have e2 : encM (mkX3 q x).c.q (mkX3 q x).q = b := by
    rw [← he]
    show encM q (x.2.2.map (·.q)) = _
    rw [hx]
   rw [e2] at this
   exact this
  clear s4 he
  dsimp only [ScS.e, ScS.ro, mkX3, CfS.e, lca, lna] at c1 c2 c4 c5
  refine Tri_of (N := Tryz.f11.ntmps) (c := bodyOf Tryz.f11) Tryz.func11 rfl rfl rfl rfl (fun w0 S0 => ?_)
  repeat' (first | refine SW ?_ | (with_reducible refine HO_rw (congrArg Value.bool (sba_eq _ _)) ?_) | ((refine HO_g 2 rfl ?_); (refine HO_skip rfl rfl rfl rfl rdA ?_)) | refine SD ?_ | (refine HO_k 12 rfl ?_; refine HO_call rfl rfl rfl rfl (c1) rfl (srcsA) rfl rfl soA ?_; intro x1 hx1; dsimp only [lca, lna]) | (refine HO_k 12 rfl ?_; refine HO_call rfl rfl rfl rfl (c2) rfl (srcsA) rfl rfl soA ?_; intro x2 hx2; dsimp only [lca, lna]) | (refine HO_k 12 rfl ?_; refine HO_callq rfl rfl rfl rfl (c3) (fun _ _ => rfl) (srcsA) rfl rfl sqA ?_) | (refine HO_k 12 rfl ?_; refine HO_callq rfl rfl rfl rfl (c4 x1 x2 hx1 hx2) (fun _ _ => rfl) (srcM) rfl rfl sqA ?_) | (refine HO_k 12 rfl ?_; refine HO_call rfl rfl rfl rfl (c5 x1 hx1) rfl (srcM) rfl rfl soA ?_; intro x3 hx3; dsimp only [lca, lna]) | (refine HO_k 7 rfl ?_; (first | refine HO_b2sk (l := b) 0 rfl rfl rfl rfl rfl rfl rfl rfl rdA ?_ | refine HO_b2sk (l := b) 1 rfl rfl rfl rfl rfl rfl rfl rfl rdA ?_ | refine HO_b2sk (l := b) 2 rfl rfl rfl rfl rfl rfl rfl rfl rdA ?_ | refine HO_b2sk (l := b) 3 rfl rfl rfl rfl rfl rfl rfl rfl rdA ?_ | refine HO_b2sk (l := b) 4 rfl rfl rfl rfl rfl rfl rfl rfl rdA ?_ | refine HO_b2sk (l := b) 5 rfl rfl rfl rfl rfl rfl rfl rfl rdA ?_ | refine HO_b2sk (l := b) 6 rfl rfl rfl rfl rfl rfl rfl rfl rdA ?_ | refine HO_b2sk (l := b) 7 rfl rfl rfl rfl rfl rfl rfl rfl rdA ?_ | refine HO_b2sk (l := b) 8 rfl rfl rfl rfl rfl rfl rfl rfl rdA ?_ | refine HO_b2sk (l := b) 9 rfl rfl rfl rfl rfl rfl rfl rfl rdA ?_)) | (refine HO_k 7 rfl ?_; refine HO_b2s (l := b) rfl rfl ⟨arr bE 1 A b, seeL_ro (List.mem_of_getElem? (i := 3) rfl), arr_raw⟩ rfl rfl rfl rfl ?_) | exact HO_seg rfl rfl | refine S1 ?_ | (refine S2 ?_; intro _) | (refine S3 ?_; intro _ _) | (refine S4 ?_; intro _ _ _) | (refine HO_g 2 rfl ?_; first | apply HO_a1 rfl | apply HO_o1 rfl) | refine SYSdN ?_ | refine S5 ?_ | (intro hb; try replace hb := simB hb; try exact kill hb))
  (refine SR ?_; unfold RetQ; refine ⟨(), trivial, ?_, Keeps.nil⟩)
  rfl
end Go.Proofs.YtbhiojedmkcfoaaGreatDoor
