/- Part of a proof of many texts: what the theorem at its end leans on. -/
import Derived.Test.YteeogabkkblkgaaGreatDoorVPeQ
import Derived.Test.YteeogabkkblkgaaGreatDoorVFs0
namespace Go.Proofs.YteeogabkkblkgaaGreatDoor
set_option maxHeartbeats 1000000000
set_option linter.unusedVariables false
set_option linter.unusedSimpArgs false
open Go.RowKit
attribute [local irreducible] HC HX HO Tri eP adr
@[reducible] def TriS (g : Nat) (args : List Value) (t : Sta) (acts : List ActS) : Prop :=
 Tri Tryz.prog g args [] [] (fun _ : OA => True) (fun x => outV t x.1 acts.length x.2) (fun x => [own idE 138 5 x.1 acts.length x.2 (acts.map ActS.e)])
theorem ract_t (k n : Int) : Tri Tryz.prog 153 [.int .i64 k, .int .i64 n] [] [] (fun _ : Unit => True) (fun _ => .agg #[.int .i64 k, .int .i64 n, .int .i64 0, .int .i64 0, .slice none 0 0]) (fun _ => []) := by
 refine Tri_in Tryz.func153 rfl (fun w0 S0 => ?_)
 repeat' (first | refine SB ?_ | (refine S2 ?_; intro _) | fail)
 (refine SRt ?_; refine RU ?_)
 rfl
set_option maxRecDepth 100000 in
theorem rend_t (s : Sta) (code sub retry : Int) (dA : Option Addr) (dn dc : Nat) : Tri Tryz.prog 156 [.agg s.c.toArray, .agg #[.int .i64 code, .int .i64 sub, .slice dA dn dc], .int .i64 retry] [] [] (fun _ : OA => True)
  (fun x => .slice x.1 (endA s.ph retry code sub dA dn dc).length x.2) (fun x => [own idE 138 5 x.1 (endA s.ph retry code sub dA dn dc).length x.2 ((endA s.ph retry code sub dA dn dc).map ActS.e)]) := by
 refine Tri_in Tryz.func156 rfl (fun w0 S0 => ?_)
 repeat' (first | (refine KC ?_; refine HO_callq rfl rfl rfl rfl (ract_t _ _) (fun _ _ => rfl) (trivial) rfl rfl sqA ?_) | refine SB ?_ | (refine T2 ?_; intros) | (intro hb; try replace hb := simB hb; try exact kill hb) | refine HC_cond rfl rfl ?_ ?_ | fail)
 all_goals (refine SRt ?_; unfold RetQ; apply Exists.intro (Prod.mk _ _); refine ⟨trivial, ?_, ?_⟩; rotate_left 1; (repeat (first | exact Keeps.nil | refine Keeps.own_cons ?_ ?_ ?_ | refine Keeps.arr_cons ?_ ?_ | refine Keeps.cons Ent.rfl_ ?_ | refine Keeps.skip ?_ | refine Keeps.own_none ?_ ?_ ?_ | refine Keeps.arr_none ?_ ?_)))
 all_goals simp [endA, act0, ActS.e, tupV, *]
set_option maxRecDepth 100000 in
theorem rfall_t (l : Loc) (s : Sta) (code sub : Int) : TriS 155 [.agg l.c.toArray, .agg s.c.toArray, .int .i64 code, .int .i64 sub] conS (endA s.ph l.retry code sub none 0 0) := by
 have c1 := rend_t s code sub l.retry none 0 0
 dsimp only [Sta.c, Loc.c] at c1 ⊢
 refine Tri_in Tryz.func155 rfl (fun w0 S0 => ?_)
 repeat' (first | (refine KC ?_; refine HO_call rfl rfl rfl rfl (c1) rfl (trivial) rfl rfl soA ?_; intro ⟨x1, x2⟩ hx; dsimp only [lca, lna]) | refine SB ?_ | (refine S2 ?_; intro _) | fail)
 (refine SRt ?_; unfold RetQ; apply Exists.intro (Prod.mk _ _); refine ⟨trivial, ?_, ?_⟩; rotate_left 1; (repeat (first | exact Keeps.nil | refine Keeps.own_cons ?_ ?_ ?_ | refine Keeps.arr_cons ?_ ?_ | refine Keeps.cons Ent.rfl_ ?_ | refine Keeps.skip ?_ | refine Keeps.own_none ?_ ?_ ?_ | refine Keeps.arr_none ?_ ?_)))
 all_goals rfl
def stopA (s : Sta) : List ActS := if s.ph = 1 then [] else endA s.ph 0 (if 2 < s.ph then 6 else 0) (if 2 < s.ph then 2 else 0) none 0 0
set_option maxRecDepth 100000 in
theorem rstop_t (s : Sta) (hp : 1 ≤ s.ph) : TriS 151 [.agg s.c.toArray] (if s.ph = 1 then s else idlS) (stopA s) := by
 have c1 := rend_t s 0 0 0 none 0 0
 have c2 := rend_t s 6 2 0 none 0 0
 unfold stopA
 dsimp only [Sta.c] at c1 c2 ⊢
 by_cases h1 : s.ph = 1
 ·rw [if_pos h1, if_pos h1]
  refine Tri_in Tryz.func151 rfl (fun w0 S0 => ?_)
  repeat' (first | refine SD ?_ | refine SB ?_ | (refine S2 ?_; intro _) | fail)
  (refine SRt ?_; unfold RetQ; refine ⟨(none, 0), trivial, rfl, (Keeps.add (fun w => own_nil w) Keeps.nil)⟩)
 rw [if_neg h1, if_neg h1]
 by_cases h2 : s.ph = 2
 ·rw [if_neg (by omega), if_neg (by omega)]
  refine Tri_in Tryz.func151 rfl (fun w0 S0 => ?_)
  repeat' (first | refine SD ?_ | (refine KC ?_; refine HO_call rfl rfl rfl rfl (c1) rfl (trivial) rfl rfl soA ?_; intro ⟨x1, x2⟩ hx; dsimp only [lca, lna]) | refine SB ?_ | (refine S2 ?_; intro _) | fail)
  (refine SRt ?_; unfold RetQ; refine ⟨(x1, x2), trivial, rfl, permA⟩)
 ·rw [if_pos (by omega), if_pos (by omega)]
  refine Tri_in Tryz.func151 rfl (fun w0 S0 => ?_)
  repeat' (first | refine SD ?_ | (refine KC ?_; refine HO_call rfl rfl rfl rfl (c2) rfl (trivial) rfl rfl soA ?_; intro ⟨x1, x2⟩ hx; dsimp only [lca, lna]) | refine SB ?_ | (refine S2 ?_; intro _) | fail)
  (refine SRt ?_; unfold RetQ; refine ⟨(x1, x2), trivial, rfl, permA⟩)
def belowR (l : Loc) (s : Sta) (kind : Int) : Res := if s.ph = 1 then (if kind = 1 then connectR l else stayR s []) else waitingR l s kind
set_option maxRecDepth 100000 in
theorem rbelow_t (l : Loc) (s : Sta) (e : EvS) (hp : s.ph = 1 ∨ s.ph = 2) : TriS 152 [.agg l.c.toArray, .agg s.c.toArray, .agg e.c.toArray] (belowR l s e.kind).t ((belowR l s e.kind).acts none 0) := by
 unfold belowR
 dsimp only [Sta.c, Loc.c, EvS.c]
 rcases hp with h | h
 ·have h2 : ¬ s.ph = 2 := by omega
  rw [if_pos h]
  by_cases hk : e.kind = 1
  ·rw [if_pos hk]
   refine Tri_in Tryz.func152 rfl (fun w0 S0 => ?_)
   repeat' (first | refine SK ?_ | refine SD ?_ | (refine KC ?_; refine HO_callq rfl rfl rfl rfl (ract_t _ _) (fun _ _ => rfl) (trivial) rfl rfl sqA ?_) | (refine HO_2p 3 4 (by decide +kernel) rfl rfl (by decide +kernel) ?_ ?_) | refine SB ?_ | (refine S2 ?_; intro _) | fail)
   all_goals rename_i bn
   all_goals (refine SRt ?_; unfold RetQ; refine ⟨(some ⟨bn, 0, none⟩, 2), trivial, rfl, permA⟩)
  ·rw [if_neg hk]
   refine Tri_in Tryz.func152 rfl (fun w0 S0 => ?_)
   repeat' (first | refine SK ?_ | refine SD ?_ | (refine KC ?_; refine HO_callq rfl rfl rfl rfl (ract_t _ _) (fun _ _ => rfl) (trivial) rfl rfl sqA ?_) | refine SB ?_ | (refine S2 ?_; intro _) | fail)
   (refine SRt ?_; unfold RetQ; refine ⟨(none, 0), trivial, rfl, (Keeps.add (fun w => own_nil w) Keeps.nil)⟩)
 ·have h1 : ¬ s.ph = 1 := by omega
  rw [if_neg h1]
  unfold waitingR
  by_cases k3 : e.kind = 3
  ·rw [if_pos k3]
   refine Tri_in Tryz.func152 rfl (fun w0 S0 => ?_)
   repeat' (first | refine SK ?_ | refine SD ?_ | (refine KC ?_; refine HO_callq rfl rfl rfl rfl (ract_t _ _) (fun _ _ => rfl) (trivial) rfl rfl sqA ?_) | refine SB ?_ | (refine S2 ?_; intro _) | fail)
   rename_i bn
   (refine SRt ?_; unfold RetQ; refine ⟨(some ⟨bn, 0, none⟩, 3), trivial, rfl, permA⟩)
  rw [if_neg k3]
  by_cases k12 : e.kind = 12
  ·rw [if_pos k12]
   refine Tri_in Tryz.func152 rfl (fun w0 S0 => ?_)
   repeat' (first | refine SK ?_ | refine SD ?_ | (refine KC ?_; refine HO_callq rfl rfl rfl rfl (ract_t _ _) (fun _ _ => rfl) (trivial) rfl rfl sqA ?_) | (refine HO_2p 3 4 (by decide +kernel) rfl rfl (by decide +kernel) ?_ ?_) | refine SB ?_ | (refine S2 ?_; intro _) | fail)
   all_goals rename_i bn
   all_goals (refine SRt ?_; unfold RetQ; refine ⟨(some ⟨bn, 0, none⟩, 2), trivial, rfl, permA⟩)
  rw [if_neg k12]
  by_cases k4 : e.kind = 4
  ·rw [if_pos k4]
   refine Tri_in Tryz.func152 rfl (fun w0 S0 => ?_)
   repeat' (first | refine SK ?_ | refine SD ?_ | (refine KC ?_; refine HO_callq rfl rfl rfl rfl (ract_t _ _) (fun _ _ => rfl) (trivial) rfl rfl sqA ?_) | (refine HO_2p 2 3 (by decide +kernel) rfl rfl (by decide +kernel) ?_ ?_) | refine SB ?_ | (refine S2 ?_; intro _) | fail)
   all_goals rename_i bn
   all_goals (refine SRt ?_; unfold RetQ; refine ⟨(some ⟨bn, 0, none⟩, 1), trivial, rfl, permA⟩)
  ·rw [if_neg k4]
   refine Tri_in Tryz.func152 rfl (fun w0 S0 => ?_)
   repeat' (first | refine SK ?_ | refine SD ?_ | (refine KC ?_; refine HO_callq rfl rfl rfl rfl (ract_t _ _) (fun _ _ => rfl) (trivial) rfl rfl sqA ?_) | refine SB ?_ | (refine S2 ?_; intro _) | fail)
   (refine SRt ?_; unfold RetQ; refine ⟨(none, 0), trivial, rfl, (Keeps.add (fun w => own_nil w) Keeps.nil)⟩)
theorem par_eq {p : Int} (h : 0 ≤ p ∧ p ≤ 3) : decide (bRem p 2 = 1) = !decide (bAnd .i64 p 1 = 0) := by
 have : p = 0 ∨ p = 1 ∨ p = 2 ∨ p = 3 := by omega
 rcases this with rfl | rfl | rfl | rfl <;> decide +kernel
set_option maxRecDepth 100000 in
theorem ropened_t (l : Loc) (s : Sta) (oas ohold oid opaths : Int) (ofour : Bool) (h3 : s.ph = 3) (hp : 0 ≤ l.paths ∧ l.paths ≤ 3) :
  TriS 154 [.agg l.c.toArray, .agg s.c.toArray, .agg #[.int .i64 oas, .int .i64 ohold, .int .u32 oid, .bool ofour, .int .i64 opaths]] (openedR l s oas ohold oid opaths ofour).t ((openedR l s oas ohold oid opaths ofour).acts none 0) := by
 have c1 := rfall_t l s 2 2
 have c2 := rfall_t l s 2 3
 have hpe := par_eq hp
 unfold openedR
 rw [if_neg (by omega)]
 dsimp only [Sta.c, Loc.c] at c1 c2 ⊢
 by_cases g1 : oas ≠ l.asn
 ·rw [if_pos g1]
  refine Tri_in Tryz.func154 rfl (fun w0 S0 => ?_)
  repeat' (first | refine SD ?_ | (refine KC ?_; refine HO_call rfl rfl rfl rfl (c1) rfl (trivial) rfl rfl soA ?_; intro ⟨x1, x2⟩ hx; dsimp only [lca, lna]) | exact HO_seg rfl rfl | refine S1 ?_ | (refine S2 ?_; intro _) | (refine HO_g 2 rfl ?_; first | apply HO_a1 rfl | apply HO_o1 rfl) | refine S5 ?_ | (intro hb; try replace hb := simB hb; try exact kill hb))
  (refine SRt ?_; unfold RetQ; refine ⟨(x1, x2), trivial, rfl, permA⟩)
 rw [if_neg g1]
 have g1 : oas = l.asn := by omega
 by_cases g2 : oid = l.id
 ·rw [if_pos g2]
  refine Tri_in Tryz.func154 rfl (fun w0 S0 => ?_)
  repeat' (first | refine SD ?_ | (refine KC ?_; refine HO_call rfl rfl rfl rfl (c2) rfl (trivial) rfl rfl soA ?_; intro ⟨x1, x2⟩ hx; dsimp only [lca, lna]) | exact HO_seg rfl rfl | refine S1 ?_ | (refine S2 ?_; intro _) | (refine HO_g 2 rfl ?_; first | apply HO_a1 rfl | apply HO_o1 rfl) | refine S5 ?_ | (intro hb; try replace hb := simB hb; try exact kill hb))
  (refine SRt ?_; unfold RetQ; refine ⟨(x1, x2), trivial, rfl, permA⟩)
 rw [if_neg g2]
 unfold opSta
 rw [← hpe]
 by_cases g3 : l.hold < ohold
 ·rw [if_pos g3]
  refine Tri_in Tryz.func154 rfl (fun w0 S0 => ?_)
  repeat' (first | refine SD ?_ | (refine KC ?_; refine HO_callq rfl rfl rfl rfl (ract_t _ _) (fun _ _ => rfl) (trivial) rfl rfl sqA ?_) | (refine HO_2p 7 8 (by decide +kernel) rfl rfl (by decide +kernel) ?_ ?_) | exact HO_seg rfl rfl | refine S1 ?_ | (refine S2 ?_; intro _) | (refine HO_g 2 rfl ?_; first | apply HO_a1 rfl | apply HO_o1 rfl) | refine S5 ?_ | (intro hb; try replace hb := simB hb; try exact kill hb))
  all_goals rename_i bn
  all_goals (refine SRt ?_; unfold RetQ; refine ⟨(some ⟨bn, 0, none⟩, 3), trivial, rfl, permA⟩)
 ·rw [if_neg g3]
  refine Tri_in Tryz.func154 rfl (fun w0 S0 => ?_)
  repeat' (first | refine SD ?_ | (refine KC ?_; refine HO_callq rfl rfl rfl rfl (ract_t _ _) (fun _ _ => rfl) (trivial) rfl rfl sqA ?_) | (refine HO_2p 7 8 (by decide +kernel) rfl rfl (by decide +kernel) ?_ ?_) | exact HO_seg rfl rfl | refine S1 ?_ | (refine S2 ?_; intro _) | (refine HO_g 2 rfl ?_; first | apply HO_a1 rfl | apply HO_o1 rfl) | refine S5 ?_ | (intro hb; try replace hb := simB hb; try exact kill hb))
  all_goals rename_i bn
  all_goals (refine SRt ?_; unfold RetQ; refine ⟨(some ⟨bn, 0, none⟩, 3), trivial, rfl, permA⟩)
end Go.Proofs.YteeogabkkblkgaaGreatDoor
