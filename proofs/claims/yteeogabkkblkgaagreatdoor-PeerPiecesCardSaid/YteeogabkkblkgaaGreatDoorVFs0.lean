/- Part of a proof of many texts: what the theorem at its end leans on. -/
import Derived.Test.YteeogabkkblkgaaGreatDoorVAtt0
namespace Go.Proofs.YteeogabkkblkgaaGreatDoor
set_option maxHeartbeats 1000000000
set_option linter.unusedVariables false
set_option linter.unusedSimpArgs false
open Go.RowKit
attribute [local irreducible] HC HX HO Tri eP adr
theorem within_t (n l m : Int) : Tri Tryz.prog 111 [.int .i64 n, .int .i64 l, .int .i64 m] [] [] (fun _ : Unit => True) (fun _ => .bool (decide (l ≤ n) && decide (n ≤ m))) (fun _ => []) := by
 refine Tri_in Tryz.func111 rfl (fun w0 S0 => ?_)
 repeat' (first | exact HO_seg rfl rfl | refine S1 ?_ | (refine HO_g 2 rfl ?_; apply HO_a1 rfl) | refine S5 ?_ | (intro hb; try replace hb := simB hb; try exact kill hb))
 (refine SRt ?_; refine RU ?_)
 rfl
def openOk (a h i p : Int) (f : Bool) : Bool :=
 decide (1 ≤ a ∧ a ≤ 4294967295 ∧ (f = true ∨ a ≤ 65535) ∧ 0 ≤ h ∧ h ≤ 65535 ∧ h ≠ 1 ∧ h ≠ 2 ∧ i ≠ 0 ∧ 0 ≤ p ∧ p ≤ 3)
theorem rcheck4_t (a h i p : Int) (f : Bool) : Tri Tryz.prog 80 [.agg #[.int .i64 a, .int .i64 h, .int .u32 i, .bool f, .int .i64 p]] [] [] (fun _ : Unit => True) (fun _ => .bool (openOk a h i p f)) (fun _ => []) := by
 refine Tri_in Tryz.func80 rfl (fun w0 S0 => ?_)
 repeat' (first | exact HO_seg rfl rfl | refine S1 ?_ | (refine S2 ?_; intro _) | (refine HO_g 2 rfl ?_; first | apply HO_a1 rfl | apply HO_o1 rfl) | refine S5 ?_ | (intro hb; try replace hb := simB hb; try exact kill hb))
 (refine SRt ?_; refine RU ?_)
 exact congrArg Value.bool (by simp [openOk, Bool.and_assoc])
theorem check_t (a h i p : Int) (f : Bool) : Tri Tryz.prog 79 [.agg #[.int .i64 a, .int .i64 h, .int .u32 i, .bool f, .int .i64 p]] [] [] (fun _ : Unit => True) (fun _ => .int .i64 (if openOk a h i p f = true then 0 else 40)) (fun _ => []) := by
 refine Tri_in Tryz.func79 rfl (fun w0 S0 => ?_)
 repeat' (first | (refine KC ?_; refine HO_callq rfl rfl rfl rfl (within_t _ _ _) (fun _ _ => rfl) (trivial) rfl rfl sqA ?_) | exact HO_seg rfl rfl | refine S1 ?_ | (refine S2 ?_; intro _) | (refine HO_g 2 rfl ?_; apply HO_o1 rfl) | refine S5 ?_ | (intro hb; try replace hb := simB hb; try exact kill hb) | refine HC_cond rfl rfl ?_ ?_ | fail)
 all_goals (refine SRt ?_; refine RU ?_)
 ·rw [if_neg (by simp [openOk, *]; omega)]; rfl
 ·rw [if_pos (by simp [openOk, *]; omega)]; rfl
 ·rw [if_neg (by simp [openOk, *]; omega)]; rfl
 ·rw [if_pos (by simp [openOk, *]; omega)]; rfl
theorem known_t (p h i : Int) (f pp : Bool) : Tri Tryz.prog 85 [.agg #[.int .i64 p, .int .i64 h, .bool f, .bool pp, .int .u32 i]] [] [] (fun _ : Unit => True) (fun _ => .bool (decide (1 ≤ p) && decide (p ≤ 5))) (fun _ => []) := by
 refine Tri_in Tryz.func85 rfl (fun w0 S0 => ?_)
 repeat' (first | exact HO_seg rfl rfl | refine S1 ?_ | (refine S2 ?_; intro _) | (refine HO_g 2 rfl ?_; apply HO_a1 rfl) | refine S5 ?_ | (intro hb; try replace hb := simB hb; try exact kill hb))
 (refine SRt ?_; refine RU ?_)
 rfl
def locOk (a h i p r : Int) (f : Bool) : Bool := openOk a h i p f && decide (1 ≤ r) && decide (r ≤ 65535)
theorem rcheck11_t (a h i p r : Int) (f : Bool) : Tri Tryz.prog 55 [.agg #[.int .i64 a, .int .i64 h, .int .u32 i, .bool f, .int .i64 p, .int .i64 r]] [] [] (fun _ : Unit => True) (fun _ => .bool (locOk a h i p r f)) (fun _ => []) := by
 refine Tri_in Tryz.func55 rfl (fun w0 S0 => ?_)
 repeat' (first | (refine KC ?_; refine HO_callq rfl rfl rfl rfl (rcheck4_t _ _ _ _ _) (fun _ _ => rfl) (trivial) rfl rfl sqA ?_) | exact HO_seg rfl rfl | refine S1 ?_ | (refine S2 ?_; intro _) | (refine HO_g 2 rfl ?_; apply HO_a1 rfl) | refine S5 ?_ | (intro hb; try replace hb := simB hb; try exact kill hb))
 (refine SRt ?_; refine RU ?_)
 rfl
theorem fcheck_t (a h i p r : Int) (f : Bool) : Tri Tryz.prog 52 [.agg #[.int .i64 a, .int .i64 h, .int .u32 i, .bool f, .int .i64 p, .int .i64 r]] [] [] (fun _ : Unit => True) (fun _ => .int .i64 (if locOk a h i p r f = true then 0 else if openOk a h i p f = true then 1 else 40)) (fun _ => []) := by
 refine Tri_in Tryz.func52 rfl (fun w0 S0 => ?_)
 repeat' (first | (refine KC ?_; refine HO_callq rfl rfl rfl rfl (check_t _ _ _ _ _) (fun _ _ => rfl) (trivial) rfl rfl sqA ?_) | exact HO_seg rfl rfl | refine S1 ?_ | (refine S2 ?_; intro _) | (refine HO_g 2 rfl ?_; apply HO_o1 rfl) | refine S5 ?_ | (intro hb; try replace hb := simB hb; try exact kill hb) | refine HC_cond rfl rfl ?_ ?_ | fail)
 all_goals (refine SRt ?_; refine RU ?_)
 all_goals (refine congrArg (Value.int .i64) ?_; by_cases ho : openOk a h i p f = true <;> simp [ho, locOk] at * <;> omega)
theorem do_t (k n : Int) : Tri Tryz.prog 121 [.int .i64 k, .int .i64 n] [] [] (fun _ : Unit => True) (fun _ => .agg #[.int .i64 k, .int .i64 n, .int .i64 0, .int .i64 0, .slice none 0 0]) (fun _ => []) := by
 refine Tri_in Tryz.func121 rfl (fun w0 S0 => ?_)
 repeat' (first | refine SB ?_ | (refine S2 ?_; intro _) | fail)
 (refine SRt ?_; refine RU ?_)
 rfl
structure ActS where
 k : Int
 n : Int
 c : Int
 s : Int
 dA : Option Addr
 dn : Nat
 dc : Nat
def ActS.e (a : ActS) : List Value := [.int .i64 a.k, .int .i64 a.n, .int .i64 a.c, .int .i64 a.s, .slice a.dA a.dn a.dc]
def act0 (k n : Int) : ActS := ⟨k, n, 0, 0, none, 0, 0⟩
instance : EncOk ActS.e 5 := ⟨fun _ => ⟨rfl, rfl⟩⟩
structure Loc where
 asn : Int
 hold : Int
 id : Int
 four : Bool
 paths : Int
 retry : Int
structure Sta where
 ph : Int
 hold : Int
 four : Bool
 paths : Bool
 id : Int
def Loc.c (l : Loc) : List Value := [.int .i64 l.asn, .int .i64 l.hold, .int .u32 l.id, .bool l.four, .int .i64 l.paths, .int .i64 l.retry]
def Sta.c (s : Sta) : List Value := [.int .i64 s.ph, .int .i64 s.hold, .bool s.four, .bool s.paths, .int .u32 s.id]
def sesV (l : Loc) (s : Sta) : Value := .agg (l.c ++ s.c).toArray
def endA (ph retry code sub : Int) (dA : Option Addr) (dn dc : Nat) : List ActS :=
 (if code ≠ 0 then [⟨4, 0, code, sub, dA, dn, dc⟩] else []) ++ [act0 5 0, act0 6 0, act0 7 0, act0 8 retry] ++ (if ph = 5 then [act0 10 0] else [])
def endD (code : Int) (data : List UInt8) : List UInt8 := if code ≠ 0 then data else []
structure Got where
 A : Option Addr
 c : Nat
 dA : Option Addr
 dc : Nat
set_option maxRecDepth 100000 in
theorem end_t (l : Loc) (s : Sta) (code sub retry : Int) (dA : Option Addr) (dn dc : Nat) (data : List UInt8) (hdn : dn = data.length) (hd : data.length ≤ 1000000) :
  Tri Tryz.prog 119 [sesV l s, .agg #[.int .i64 code, .int .i64 sub, .slice dA dn dc], .int .i64 retry] [arr bE 1 dA data] [] (fun _ : Got => True)
   (fun x => .slice x.A (endA s.ph retry code sub x.dA (endD code data).length x.dc).length x.c)
   (fun x => [own idE 138 5 x.A (endA s.ph retry code sub x.dA (endD code data).length x.dc).length x.c ((endA s.ph retry code sub x.dA (endD code data).length x.dc).map ActS.e), own idE 5 1 x.dA (endD code data).length x.dc ((endD code data).map bE)]) := by
 refine Tri_in Tryz.func119 rfl (fun w0 S0 => ?_)
 repeat' (first | (refine KC ?_; refine HO_callq rfl rfl rfl rfl (do_t _ _) (fun _ _ => rfl) (trivial) rfl rfl sqA ?_) | refine SB ?_ | (refine T2 ?_; intros) | (intro hb; try replace hb := simB hb; try exact kill hb) | refine HC_cond rfl rfl ?_ ?_ | fail)
 all_goals (refine SRt ?_; unfold RetQ; apply Exists.intro (Got.mk _ _ _ _); refine ⟨trivial, ?_, ?_⟩; rotate_left 1; (repeat (first | exact Keeps.nil | refine Keeps.own_cons ?_ ?_ ?_ | refine Keeps.arr_cons ?_ ?_ | refine Keeps.cons Ent.rfl_ ?_ | refine Keeps.skip ?_ | refine Keeps.own_none ?_ ?_ ?_ | refine Keeps.arr_none ?_ ?_)))
 all_goals simp [endA, endD, act0, ActS.e, tupV, *]
def conS : Sta := ⟨2, 0, false, false, 0⟩
def idlS : Sta := ⟨1, 0, false, false, 0⟩
structure Res where
 t : Sta
 acts : Option Addr → Nat → List ActS
 data : List UInt8
def outV (t : Sta) (A : Option Addr) (n c : Nat) : Value := .tuple #[.agg t.c.toArray, .slice A n c]
def outP (g : Got) (acts : Option Addr → Nat → List ActS) (data : List UInt8) : List SL :=
 [own idE 138 5 g.A (acts g.dA g.dc).length g.c ((acts g.dA g.dc).map ActS.e), own idE 5 1 g.dA data.length g.dc (data.map bE)]
@[reducible] def TriR (g : Nat) (args : List Value) (ro : List SL) (r : Res) : Prop :=
 Tri Tryz.prog g args ro [] (fun _ : Got => True) (fun x => outV r.t x.A (r.acts x.dA x.dc).length x.c) (fun x => outP x r.acts r.data)
def fallR (l : Loc) (s : Sta) (code sub : Int) (data : List UInt8) : Res := ⟨conS, fun dA dc => endA s.ph l.retry code sub dA (endD code data).length dc, endD code data⟩
def stayR (s : Sta) (acts : List ActS) : Res := ⟨s, fun _ _ => acts, []⟩
def strayR (l : Loc) (s : Sta) : Res := fallR l s 5 (s.ph - 2) []
def stopR (s : Sta) : Res := if s.ph = 1 then stayR s [] else
 let code : Int := if 2 < s.ph then 6 else 0
 let sub : Int := if 2 < s.ph then 2 else 0
 ⟨idlS, fun dA dc => endA s.ph 0 code sub dA 0 dc, []⟩
def connectR (l : Loc) : Res := ⟨conS, fun _ _ => [act0 8 l.retry, act0 1 0], []⟩
def waitingR (l : Loc) (s : Sta) (kind : Int) : Res :=
 if kind = 3 then ⟨⟨3, 0, false, false, 0⟩, fun _ _ => [act0 8 0, act0 2 0, act0 6 240], []⟩
 else if kind = 12 then connectR l
 else if kind = 4 then ⟨conS, fun _ _ => [act0 8 l.retry], []⟩
 else stayR s []
set_option maxRecDepth 100000 in
theorem acts_t (A : Option Addr) (n c : Nat) (l : List ActS) (hl : n = l.length) (hn : l.length ≤ 1000) :
  Tri Tryz.prog 120 [.slice A n c] [arr idE 5 A (l.map ActS.e)] [] (fun _ : Option Addr × Nat => True) (fun x => .slice x.1 n x.2) (fun x => [own idE 138 5 x.1 n x.2 (l.map ActS.e)]) := by
 refine Tri_in Tryz.func120 rfl (fun w0 S0 => ?_)
 repeat' (first | refine SB ?_ | (refine T2 ?_; intros) | fail)
 (refine SRt ?_; unfold RetQ; apply Exists.intro (Prod.mk _ _); refine ⟨trivial, ?_, ?_⟩; rotate_left 1; (repeat (first | exact Keeps.nil | refine Keeps.own_cons ?_ ?_ ?_ | refine Keeps.arr_cons ?_ ?_ | refine Keeps.cons Ent.rfl_ ?_ | refine Keeps.skip ?_ | refine Keeps.own_none ?_ ?_ ?_ | refine Keeps.arr_none ?_ ?_)))
 all_goals simp [tupV]
set_option maxRecDepth 100000 in
theorem fall_t (l : Loc) (s : Sta) (code sub : Int) (dA : Option Addr) (dn dc : Nat) (data : List UInt8) (hdn : dn = data.length) (hd : data.length ≤ 1000000) :
  TriR 125 [sesV l s, .agg #[.int .i64 code, .int .i64 sub, .slice dA dn dc]] [arr bE 1 dA data] (fallR l s code sub data) := by
 refine Tri_in Tryz.func125 rfl (fun w0 S0 => ?_)
 repeat' (first | (refine KC ?_; refine HO_call rfl rfl rfl rfl (end_t l s _ _ _ _ _ _ data hdn hd) rfl (AllSrc.at_ 0 rfl trivial) rfl rfl soA ?_; intro x hx; dsimp only [lca, lna]) | refine SB ?_ | (refine S2 ?_; intro _) | fail)
 (refine SRt ?_; unfold RetQ; apply Exists.intro (Got.mk _ _ _ _); refine ⟨trivial, ?_, ?_⟩; rotate_left 1; (repeat (first | exact Keeps.nil | refine Keeps.own_cons ?_ ?_ ?_ | refine Keeps.arr_cons ?_ ?_ | refine Keeps.cons Ent.rfl_ ?_ | refine Keeps.skip ?_ | refine Keeps.own_none ?_ ?_ ?_ | refine Keeps.arr_none ?_ ?_)))
 all_goals rfl
set_option maxRecDepth 100000 in
theorem stray_t (l : Loc) (s : Sta) (hs : 0 ≤ s.ph ∧ s.ph ≤ 10) : TriR 169 [sesV l s] [] (strayR l s) := by
 refine Tri_in Tryz.func169 rfl (fun w0 S0 => ?_)
 repeat' (first | refine SW ?_ | (refine KC ?_; refine HO_call rfl rfl rfl rfl (fall_t l s _ _ _ _ _ [] rfl (by simp)) rfl (AllSrc.free (fun w => arr_nil _ w) trivial) rfl rfl soA ?_; intro x hx; dsimp only [outP, outV, fallR, lca, lna]) | refine SB ?_ | (refine S2 ?_; intro _) | fail)
 (refine SRt ?_; unfold RetQ; apply Exists.intro (Got.mk _ _ _ _); refine ⟨trivial, ?_, ?_⟩; rotate_left 1; (repeat (first | exact Keeps.nil | refine Keeps.own_cons ?_ ?_ ?_ | refine Keeps.arr_cons ?_ ?_ | refine Keeps.cons Ent.rfl_ ?_ | refine Keeps.skip ?_ | refine Keeps.own_none ?_ ?_ ?_ | refine Keeps.arr_none ?_ ?_)))
 all_goals rfl
set_option maxRecDepth 100000 in
theorem stay_t (l : Loc) (s : Sta) (A : Option Addr) (n c : Nat) : Tri Tryz.prog 86 [sesV l s, .slice A n c] [] [] (fun _ : Unit => True) (fun _ => outV s A n c) (fun _ => []) := by
 refine Tri_in Tryz.func86 rfl (fun w0 S0 => ?_)
 repeat' (first | refine SB ?_ | (refine S2 ?_; intro _) | fail)
 (refine SRt ?_; refine RU ?_)
 rfl
set_option maxRecDepth 100000 in
theorem connect_t (l : Loc) (s : Sta) : TriR 88 [sesV l s] [] (connectR l) := by
 refine Tri_in Tryz.func88 rfl (fun w0 S0 => ?_)
 repeat' (first | (refine KC ?_; refine HO_callq rfl rfl rfl rfl (do_t _ _) (fun _ _ => rfl) (trivial) rfl rfl sqA ?_) | (refine KC ?_; refine HO_call rfl rfl rfl rfl (acts_t _ _ _ [act0 8 l.retry, act0 1 0] rfl (Nat.le_of_ble_eq_true rfl)) rfl (by first | exact AllSrc.via 0 rfl (own_wf (l := List.map ActS.e [act0 8 l.retry, act0 1 0]) WfL.map) trivial | exact AllSrc.via 1 rfl (own_wf (l := List.map ActS.e [act0 8 l.retry, act0 1 0]) WfL.map) trivial | exact AllSrc.via 2 rfl (own_wf (l := List.map ActS.e [act0 8 l.retry, act0 1 0]) WfL.map) trivial) rfl rfl soA ?_; intro x hx; dsimp only [lca, lna]) | refine SB ?_ | (refine S2 ?_; intro _) | fail)
 (refine SRt ?_; unfold RetQ; apply Exists.intro (Got.mk _ _ _ _); refine ⟨trivial, ?_, ?_⟩; rotate_left 1; (repeat (first | exact Keeps.nil | refine Keeps.own_cons ?_ ?_ ?_ | refine Keeps.arr_cons ?_ ?_ | refine Keeps.cons Ent.rfl_ ?_ | refine Keeps.skip ?_ | refine Keeps.own_none ?_ ?_ ?_ | refine Keeps.arr_none ?_ ?_)))
 all_goals rfl
set_option maxRecDepth 100000 in
theorem waiting_t (l : Loc) (s : Sta) (kind : Int) : TriR 89 [sesV l s, .int .i64 kind] [] (waitingR l s kind) := by
 refine Tri_in Tryz.func89 rfl (fun w0 S0 => ?_)
 repeat' (first | (refine KC ?_; refine HO_callq rfl rfl rfl rfl (do_t _ _) (fun _ _ => rfl) (trivial) rfl rfl sqA ?_) | (refine KC ?_; refine HO_callq rfl rfl rfl rfl (stay_t l s _ _ _) (fun _ _ => rfl) (trivial) rfl rfl sqA ?_) | (refine KC ?_; refine HO_call rfl rfl rfl rfl (connect_t l s) rfl (trivial) rfl rfl soA ?_; intro x hx; dsimp only [outP, outV, connectR, lca, lna]) | (refine KC ?_; refine HO_call rfl rfl rfl rfl (acts_t _ _ _ [act0 8 0, act0 2 0, act0 6 240] rfl (Nat.le_of_ble_eq_true rfl)) rfl (by first | exact AllSrc.via 0 rfl (own_wf (l := List.map ActS.e [act0 8 0, act0 2 0, act0 6 240]) WfL.map) trivial | exact AllSrc.via 1 rfl (own_wf (l := List.map ActS.e [act0 8 0, act0 2 0, act0 6 240]) WfL.map) trivial | exact AllSrc.via 2 rfl (own_wf (l := List.map ActS.e [act0 8 0, act0 2 0, act0 6 240]) WfL.map) trivial) rfl rfl soA ?_; intro x hx; dsimp only [lca, lna]) | (refine KC ?_; refine HO_call rfl rfl rfl rfl (acts_t _ _ _ [act0 8 l.retry] rfl (Nat.le_of_ble_eq_true rfl)) rfl (by first | exact AllSrc.via 0 rfl (own_wf (l := List.map ActS.e [act0 8 l.retry]) WfL.map) trivial | exact AllSrc.via 1 rfl (own_wf (l := List.map ActS.e [act0 8 l.retry]) WfL.map) trivial | exact AllSrc.via 2 rfl (own_wf (l := List.map ActS.e [act0 8 l.retry]) WfL.map) trivial) rfl rfl soA ?_; intro x hx; dsimp only [lca, lna]) | refine SB ?_ | (refine S2 ?_; intro _) | (intro hb; try replace hb := simB hb; try exact kill hb) | refine HC_cond rfl rfl ?_ ?_ | fail)
 all_goals (refine SRt ?_; unfold RetQ; apply Exists.intro (Got.mk _ _ _ _); refine ⟨trivial, ?_, ?_⟩; rotate_left 1; (repeat (first | exact Keeps.nil | refine Keeps.own_cons ?_ ?_ ?_ | refine Keeps.arr_cons ?_ ?_ | refine Keeps.cons Ent.rfl_ ?_ | refine Keeps.skip ?_ | refine Keeps.own_none ?_ ?_ ?_ | refine Keeps.arr_none ?_ ?_)))
 all_goals first | rfl | (simp [waitingR, connectR, stayR, outV, tupV, Sta.c, conS, idlS, *]; done)
set_option maxRecDepth 100000 in
theorem stop_t (l : Loc) (s : Sta) : TriR 87 [sesV l s] [] (stopR s) := by
 refine Tri_in Tryz.func87 rfl (fun w0 S0 => ?_)
 repeat' (first | (refine KC ?_; refine HO_callq rfl rfl rfl rfl (stay_t l s _ _ _) (fun _ _ => rfl) (trivial) rfl rfl sqA ?_) | (refine KC ?_; refine HO_call rfl rfl rfl rfl (end_t l s _ _ _ _ _ _ [] rfl (by simp)) rfl (AllSrc.free (fun w => arr_nil _ w) trivial) rfl rfl soA ?_; intro x hx; dsimp only [lca, lna]) | refine SB ?_ | (refine S2 ?_; intro _) | (intro hb; try replace hb := simB hb; try exact kill hb) | refine HC_cond rfl rfl ?_ ?_ | fail)
 all_goals (refine SRt ?_; unfold RetQ; apply Exists.intro (Got.mk _ _ _ _); refine ⟨trivial, ?_, ?_⟩; rotate_left 1; (repeat (first | exact Keeps.nil | refine Keeps.own_cons ?_ ?_ ?_ | refine Keeps.arr_cons ?_ ?_ | refine Keeps.cons Ent.rfl_ ?_ | refine Keeps.skip ?_ | refine Keeps.own_none ?_ ?_ ?_ | refine Keeps.arr_none ?_ ?_)))
 all_goals first | rfl | (simp [stopR, stayR, outV, tupV, Sta.c, conS, idlS, endD, *]; done)
def heardR (l : Loc) (s : Sta) (kind : Int) : Res :=
 if s.ph = 5 then stayR s [act0 6 s.hold]
 else if s.ph = 4 ∧ kind = 6 then stayR { s with ph := 5 } [act0 6 s.hold, act0 9 0]
 else strayR l s
set_option maxRecDepth 100000 in
theorem heard_t (l : Loc) (s : Sta) (kind : Int) (h3 : 1 ≤ s.ph ∧ s.ph ≤ 5) : TriR 123 [sesV l s, .int .i64 kind] [] (heardR l s kind) := by
 refine Tri_in Tryz.func123 rfl (fun w0 S0 => ?_)
 repeat' (first | (refine KC ?_; refine HO_callq rfl rfl rfl rfl (do_t _ _) (fun _ _ => rfl) (trivial) rfl rfl sqA ?_) | (refine KC ?_; refine HO_callq rfl rfl rfl rfl (stay_t l s _ _ _) (fun _ _ => rfl) (trivial) rfl rfl sqA ?_) | (refine KC ?_; refine HO_callq rfl rfl rfl rfl (stay_t l { s with ph := 5 } _ _ _) (fun _ _ => rfl) (trivial) rfl rfl sqA ?_) | (refine KC ?_; refine HO_call rfl rfl rfl rfl (stray_t l s (by omega)) rfl (trivial) rfl rfl soA ?_; intro x hx; dsimp only [outP, outV, strayR, fallR, lca, lna]) | exact HO_seg rfl rfl | refine S1 ?_ | (refine S2 ?_; intro _) | (refine HO_g 2 rfl ?_; apply HO_a1 rfl) | refine S5 ?_ | (intro hb; try replace hb := simB hb; try exact kill hb) | refine HC_cond rfl rfl ?_ ?_ | fail)
 all_goals (refine SRt ?_; unfold RetQ; apply Exists.intro (Got.mk _ _ _ _); refine ⟨trivial, ?_, ?_⟩; rotate_left 1; (repeat (first | exact Keeps.nil | refine Keeps.own_cons ?_ ?_ ?_ | refine Keeps.arr_cons ?_ ?_ | refine Keeps.cons Ent.rfl_ ?_ | refine Keeps.skip ?_ | refine Keeps.own_none ?_ ?_ ?_ | refine Keeps.arr_none ?_ ?_)))
 all_goals first | rfl | (simp [heardR, strayR, fallR, stayR, outV, tupV, Sta.c, endD, ActS.e, act0, *]; done) | (rw [show heardR l s kind = strayR l s from by unfold heardR; rw [if_neg (by omega), if_neg (by omega)]]; rfl)
def beatR (s : Sta) : Res := if s.ph = 3 ∨ s.hold = 0 then stayR s [] else stayR s [act0 3 0, act0 7 (bQuo .i64 s.hold 3)]
set_option maxRecDepth 100000 in
theorem beat_t (l : Loc) (s : Sta) : TriR 124 [sesV l s] [] (beatR s) := by
 refine Tri_in Tryz.func124 rfl (fun w0 S0 => ?_)
 repeat' (first | (refine KC ?_; refine HO_callq rfl rfl rfl rfl (do_t _ _) (fun _ _ => rfl) (trivial) rfl rfl sqA ?_) | (refine KC ?_; refine HO_callq rfl rfl rfl rfl (stay_t l s _ _ _) (fun _ _ => rfl) (trivial) rfl rfl sqA ?_) | exact HO_seg rfl rfl | refine S1 ?_ | (refine S2 ?_; intro _) | (refine HO_g 2 rfl ?_; apply HO_o1 rfl) | refine S5 ?_ | (intro hb; try replace hb := simB hb; try exact kill hb) | refine HC_cond rfl rfl ?_ ?_ | fail)
 all_goals (refine SRt ?_; unfold RetQ; apply Exists.intro (Got.mk _ _ _ _); refine ⟨trivial, ?_, ?_⟩; rotate_left 1; (repeat (first | exact Keeps.nil | refine Keeps.own_cons ?_ ?_ ?_ | refine Keeps.arr_cons ?_ ?_ | refine Keeps.cons Ent.rfl_ ?_ | refine Keeps.skip ?_ | refine Keeps.own_none ?_ ?_ ?_ | refine Keeps.arr_none ?_ ?_)))
 all_goals first | rfl | (simp [beatR, stayR, outV, tupV, Sta.c, endD, ActS.e, act0, *]; done)
def opSta (l : Loc) (ohold oid opaths : Int) (ofour : Bool) : Sta := ⟨4, if l.hold < ohold then l.hold else ohold, ofour && l.four, (decide (opaths = 2) || decide (opaths = 3)) && !decide (bAnd .i64 l.paths 1 = 0), oid⟩
def openedR (l : Loc) (s : Sta) (oas ohold oid opaths : Int) (ofour : Bool) : Res :=
 if s.ph ≠ 3 then strayR l s
 else if oas ≠ l.asn then fallR l s 2 2 []
 else if oid = l.id then fallR l s 2 3 []
 else
  let s' := opSta l ohold oid opaths ofour
  ⟨s', fun _ _ => [act0 3 0, act0 7 (bQuo .i64 s'.hold 3), act0 6 s'.hold], []⟩
set_option maxRecDepth 100000 in
theorem opened_t (l : Loc) (s : Sta) (oas ohold oid opaths : Int) (ofour : Bool) (h3 : 1 ≤ s.ph ∧ s.ph ≤ 5) :
  TriR 122 [sesV l s, .agg #[.int .i64 oas, .int .i64 ohold, .int .u32 oid, .bool ofour, .int .i64 opaths]] [] (openedR l s oas ohold oid opaths ofour) := by
 refine Tri_in Tryz.func122 rfl (fun w0 S0 => ?_)
 repeat' (first | (refine KC ?_; refine HO_callq rfl rfl rfl rfl (do_t _ _) (fun _ _ => rfl) (trivial) rfl rfl sqA ?_) | (refine KC ?_; refine HO_call rfl rfl rfl rfl (acts_t _ _ _ [act0 3 0, act0 7 (bQuo .i64 (if l.hold < ohold then l.hold else ohold) 3), act0 6 (if l.hold < ohold then l.hold else ohold)] rfl (Nat.le_of_ble_eq_true rfl)) rfl (by first | exact AllSrc.via 0 rfl (own_wf (l := List.map ActS.e [act0 3 0, act0 7 (bQuo .i64 (if l.hold < ohold then l.hold else ohold) 3), act0 6 (if l.hold < ohold then l.hold else ohold)]) WfL.map) trivial | exact AllSrc.via 1 rfl (own_wf (l := List.map ActS.e [act0 3 0, act0 7 (bQuo .i64 (if l.hold < ohold then l.hold else ohold) 3), act0 6 (if l.hold < ohold then l.hold else ohold)]) WfL.map) trivial | exact AllSrc.via 2 rfl (own_wf (l := List.map ActS.e [act0 3 0, act0 7 (bQuo .i64 (if l.hold < ohold then l.hold else ohold) 3), act0 6 (if l.hold < ohold then l.hold else ohold)]) WfL.map) trivial) rfl rfl soA ?_; intro x hx; dsimp only [lca, lna]) | (refine KC ?_; refine HO_call rfl rfl rfl rfl (stray_t l s (by omega)) rfl (trivial) rfl rfl soA ?_; intro x hx; dsimp only [outP, outV, strayR, fallR, lca, lna]) | (refine KC ?_; refine HO_call rfl rfl rfl rfl (fall_t l s _ _ _ _ _ [] rfl (by simp)) rfl (AllSrc.free (fun w => arr_nil _ w) trivial) rfl rfl soA ?_; intro x hx; dsimp only [outP, outV, fallR, lca, lna]) | exact HO_seg rfl rfl | refine S1 ?_ | (refine S2 ?_; intro _) | (refine HO_g 2 rfl ?_; first | apply HO_a1 rfl | apply HO_o1 rfl) | refine S5 ?_ | (intro hb; try replace hb := simB hb; try exact kill hb) | refine HC_cond rfl rfl ?_ ?_ | fail)
 all_goals (refine SRt ?_; unfold RetQ; apply Exists.intro (Got.mk _ _ _ _); refine ⟨trivial, ?_, ?_⟩; rotate_left 1; (repeat (first | exact Keeps.nil | refine Keeps.own_cons ?_ ?_ ?_ | refine Keeps.arr_cons ?_ ?_ | refine Keeps.cons Ent.rfl_ ?_ | refine Keeps.skip ?_ | refine Keeps.own_none ?_ ?_ ?_ | refine Keeps.arr_none ?_ ?_)))
 all_goals first | rfl | (simp [openedR, strayR, fallR, opSta, outV, tupV, *]; done) | (simp [openedR, strayR, fallR, opSta, outV, tupV, *]; rfl)
structure EvS where
 kind : Int
 oas : Int
 ohold : Int
 oid : Int
 ofour : Bool
 opaths : Int
 nc : Int
 ns : Int
 dA : Option Addr
 dc : Nat
 data : List UInt8
def EvS.c (e : EvS) : List Value := [.int .i64 e.kind, .int .i64 e.oas, .int .i64 e.ohold, .int .u32 e.oid, .bool e.ofour, .int .i64 e.opaths, .int .i64 e.nc, .int .i64 e.ns, .slice e.dA e.data.length e.dc]
def talkingR (l : Loc) (s : Sta) (e : EvS) : Res :=
 if e.kind = 5 then openedR l s e.oas e.ohold e.oid e.opaths e.ofour
 else if e.kind = 6 ∨ e.kind = 7 then heardR l s e.kind
 else if e.kind = 11 then beatR s
 else if e.kind = 10 then fallR l s 4 0 []
 else if e.kind = 4 ∨ e.kind = 8 then fallR l s 0 0 []
 else if e.kind = 9 then fallR l s e.nc e.ns e.data
 else stayR s []
set_option maxRecDepth 100000 in
theorem talking_t (l : Loc) (s : Sta) (e : EvS) (h3 : 1 ≤ s.ph ∧ s.ph ≤ 5) (hd : e.data.length ≤ 1000000) :
  TriR 90 [sesV l s, .agg e.c.toArray] [arr bE 1 e.dA e.data] (talkingR l s e) := by
 refine Tri_in Tryz.func90 rfl (fun w0 S0 => ?_)
 repeat' (first | (refine KC ?_; refine HO_callq rfl rfl rfl rfl (stay_t l s _ _ _) (fun _ _ => rfl) (trivial) rfl rfl sqA ?_) | (refine KC ?_; refine HO_call rfl rfl rfl rfl (opened_t l s _ _ _ _ _ h3) rfl (trivial) rfl rfl soA ?_; intro x hx; dsimp only [outP, outV, lca, lna]) | (refine KC ?_; refine HO_call rfl rfl rfl rfl (heard_t l s _ h3) rfl (trivial) rfl rfl soA ?_; intro x hx; dsimp only [outP, outV, lca, lna]) | (refine KC ?_; refine HO_call rfl rfl rfl rfl (beat_t l s) rfl (trivial) rfl rfl soA ?_; intro x hx; dsimp only [outP, outV, lca, lna]) | (refine KC ?_; refine HO_call rfl rfl rfl rfl (fall_t l s _ _ _ _ _ [] rfl (by simp)) rfl (AllSrc.free (fun w => arr_nil _ w) trivial) rfl rfl soA ?_; intro x hx; dsimp only [outP, outV, lca, lna]) | (refine KC ?_; refine HO_call rfl rfl rfl rfl (fall_t l s _ _ _ _ _ e.data rfl hd) rfl (by first | exact AllSrc.at_ 0 rfl trivial | exact AllSrc.at_ 1 rfl trivial | exact AllSrc.at_ 2 rfl trivial | exact AllSrc.at_ 3 rfl trivial) rfl rfl soA ?_; intro x hx; dsimp only [outP, outV, lca, lna]) | refine SB ?_ | (refine S2 ?_; intro _) | (intro hb; try replace hb := simB hb; try exact kill hb) | refine HC_cond rfl rfl ?_ ?_ | fail)
 all_goals (refine SRt ?_; unfold RetQ; apply Exists.intro (Got.mk _ _ _ _); refine ⟨trivial, ?_, ?_⟩; rotate_left 1; (repeat (first | exact Keeps.nil | refine Keeps.own_cons ?_ ?_ ?_ | refine Keeps.arr_cons ?_ ?_ | refine Keeps.cons Ent.rfl_ ?_ | refine Keeps.skip ?_ | refine Keeps.own_none ?_ ?_ ?_ | refine Keeps.arr_none ?_ ?_)))
 all_goals first | rfl | (simp [talkingR, stayR, Sta.c, outV, tupV, *]; done) | (simp [talkingR, outV, tupV, *]; rfl)
def stepR (l : Loc) (s : Sta) (e : EvS) : Res :=
 if locOk l.asn l.hold l.id l.paths l.retry l.four = true ∧ 1 ≤ s.ph ∧ s.ph ≤ 5 then
  if e.kind = 2 then stopR s
  else if s.ph = 1 then (if e.kind = 1 then connectR l else stayR s [])
  else if s.ph = 2 then waitingR l s e.kind
  else talkingR l s e
 else stayR s []
theorem chk0 (a b : Bool) : ((if a = true then (0 : Int) else if b = true then 1 else 40) = 0) ↔ a = true := by cases a <;> cases b <;> simp
set_option maxRecDepth 100000 in
theorem step_t (l : Loc) (s : Sta) (e : EvS) (hd : e.data.length ≤ 1000000) :
  TriR 63 [.agg l.c.toArray, .agg s.c.toArray, .agg e.c.toArray] [arr bE 1 e.dA e.data] (stepR l s e) := by
 refine Tri_in Tryz.func63 rfl (fun w0 S0 => ?_)
 repeat' (first | (refine KC ?_; refine HO_callq rfl rfl rfl rfl (stay_t l s _ _ _) (fun _ _ => rfl) (trivial) rfl rfl sqA ?_) | (refine KC ?_; refine HO_callq rfl rfl rfl rfl (fcheck_t _ _ _ _ _ _) (fun _ _ => rfl) (trivial) rfl rfl sqA ?_) | (refine KC ?_; refine HO_callq rfl rfl rfl rfl (known_t _ _ _ _ _) (fun _ _ => rfl) (trivial) rfl rfl sqA ?_) | (refine KC ?_; refine HO_call rfl rfl rfl rfl (stop_t l s) rfl (trivial) rfl rfl soA ?_; intro x hx; dsimp only [outP, outV, lca, lna]) | (refine KC ?_; refine HO_call rfl rfl rfl rfl (connect_t l s) rfl (trivial) rfl rfl soA ?_; intro x hx; dsimp only [outP, outV, lca, lna]) | (refine KC ?_; refine HO_call rfl rfl rfl rfl (waiting_t l s _) rfl (trivial) rfl rfl soA ?_; intro x hx; dsimp only [outP, outV, lca, lna]) | (refine KC ?_; refine HO_call rfl rfl rfl rfl (talking_t l s e (by omega) hd) rfl (by first | exact AllSrc.at_ 0 rfl trivial | exact AllSrc.at_ 1 rfl trivial | exact AllSrc.at_ 2 rfl trivial | exact AllSrc.at_ 3 rfl trivial) rfl rfl soA ?_; intro x hx; dsimp only [outP, outV, lca, lna]) | exact HO_seg rfl rfl | refine S1 ?_ | (refine S2 ?_; intro _) | (refine HO_g 2 rfl ?_; apply HO_o1 rfl) | refine S5 ?_ | (intro hb; try replace hb := simB hb; try exact kill hb) | refine HC_cond rfl rfl ?_ ?_ | fail)
 all_goals (refine SRt ?_; unfold RetQ; apply Exists.intro (Got.mk _ _ _ _); refine ⟨trivial, ?_, ?_⟩; rotate_left 1; (repeat (first | exact Keeps.nil | refine Keeps.own_cons ?_ ?_ ?_ | refine Keeps.arr_cons ?_ ?_ | refine Keeps.cons Ent.rfl_ ?_ | refine Keeps.skip ?_ | refine Keeps.own_none ?_ ?_ ?_ | refine Keeps.arr_none ?_ ?_)))
 all_goals simp only [chk0] at *
 all_goals first | rfl | (simp [stepR, stayR, Sta.c, outV, tupV, *]; done) | (simp [stepR, outV, tupV, *]; done) | (simp [stepR, outV, tupV, *]; rfl) | (rw [show stepR l s e = stayR s [] from if_neg (fun hh => by rcases hb with hb | hb; exact hb hh.1; omega)]; first | rfl | (simp [stayR, Sta.c, outV, tupV]; done))
end Go.Proofs.YteeogabkkblkgaaGreatDoor
