/- Part of a proof of many texts: what the theorem at its end leans on. -/
import Derived.Test.YteeogabkkblkgaaGreatDoorVPeQ
import Derived.Test.YteeogabkkblkgaaGreatDoorVKc
import Derived.Test.YteeogabkkblkgaaGreatDoorVAtt0
namespace Go.Proofs.YteeogabkkblkgaaGreatDoor
set_option maxHeartbeats 1000000000
set_option linter.unusedVariables false
set_option linter.unusedSimpArgs false
open Go.RowKit
attribute [local irreducible] HC HX HO Tri eP adr
theorem HO_mx {m : Md} {P : Program} {N : Nat} {w0 : World} {S0 : Foot} {ops : List Oper} {i : Nat} {lq : List Nat} {env : Env} {ro rw : List SL} {K : Act → World → Prop} {d : Nat} {ty : TypeId} {pos : String} {aft : Array Edge} {g : Option (Nat × Bool)}
  {x y : Operand} {k k' : IntKind} {p q : Int} {tys : Array TypeId} (ho : ops[i]? = some ⟨some d, .call { callee := .builtin .max, args := #[x, y], argTypes := tys }, ty, pos, aft, g⟩)
  (hx : Env.ev env x = some (.int k p)) (hy : Env.ev env y = some (.int k' q)) (hw : wantE ops env g = some true) (hN : Nat.blt d N = true) (hr : rdyB m ops i lq = true)
  (h : HO m P N w0 S0 ops lq ((d, .int k (if q > p then q else p)) :: env) ro rw K) : HO m P N w0 S0 ops (i :: lq) env ro rw K := by
 refine HO_val ho hw rfl hN hr (fun a w ha hf => ?_) h
 simp [execOp, resolve, invoke, builtin, Builtin.max_, Builtin.max2, Sem.run_bind, ha.ev hx, ha.ev hy]
section
variable {m : Md} {P : Program} {N : Nat} {w0 : World} {S0 : Foot} {ops : List Oper} {i : Nat} {lq : List Nat} {env : Env} {ro rw : List SL} {K : Act → World → Prop} {d : Nat} {ty : TypeId} {pos : String} {aft : Array Edge} {g : Option (Nat × Bool)}
theorem HO_mkmapT {κ ν : Type} [DecidableEq κ] (ke : κ → Value) (ve : ν → Value) {T Kt E : Nat} [hT : TyMap P T Kt E] [hK : KeyOf P Kt ke] (ho : ops[i]? = some ⟨some d, .makeMap T none, ty, pos, aft, g⟩) (hw : wantE ops env g = some true) (hN : Nat.blt d N = true) (hs : soleB m ops i lq = true)
  (h : ∀ b : Nat, HO (nmM m) P N w0 S0 ops lq ((d, .map (some b)) :: env) ro (mapP ke ve b [] :: rw) K) : HO m P N w0 S0 ops (i :: lq) env ro rw K := HO_mkmap ke ve ho hw hN hs h
theorem HO_mapsetO {κ ν : Type} [DecidableEq κ] {ke : κ → Value} {ve : ν → Value} {T Kt E b : Nat} {x y z : Operand} {l : List (κ × ν)} {rw' : List SL} [hT : TyMap P T Kt E] [hK : KeyOf P Kt ke] (q : Nat) (k : κ) (v : ν) (ho : ops[i]? = some ⟨none, .mapUpdate T x y z, ty, pos, aft, g⟩)
  (hx : Env.ev env x = some (.map (some b))) (hy : Env.ev env y = some (ke k)) (hz : Env.ev env z = some (ve v)) (hq : rw[q]? = some (mapP ke ve b l)) (hrw : setO rw q (mapP ke ve b (stL k v l)) = some rw')
  (hw : wantE ops env g = some true) (hs : soleB m ops i lq = true)
  (h : HO (nmM m) P N w0 S0 ops lq env ro rw' K) : HO m P N w0 S0 ops (i :: lq) env ro rw K := by
 have := setO_eq hrw
 subst this
 exact HO_mapset q k v ho hx hy hz hq hw hs h
end
theorem near_t (n : Int) : Tri Tryz.prog 174 [.int .i64 n] [] [] (fun _ : Unit => True) (fun _ => .int .i64 (nearM n)) (fun _ => []) := by
 refine Tri_in Tryz.func174 rfl (fun w0 S0 => ?_)
 repeat' (first | (refine HO_k 19 rfl ?_; refine HO_mx rfl rfl rfl rfl rfl rdA ?_) | refine SB ?_ | fail)
 (refine SRt ?_; refine RU ?_)
 refine congrArg (Value.int .i64) ?_
 unfold nearM
 split <;> split <;> omega
theorem near_le (n : Int) : 0 ≤ nearM n ∧ nearM n ≤ 9007199254740991 := by
 unfold nearM
 split
 ·omega
 ·split <;> omega
theorem nadd_t (a b : Int) : Tri Tryz.prog 131 [.int .i64 a, .int .i64 b] [] [] (fun _ : Unit => True) (fun _ => .int .i64 (addM a b)) (fun _ => []) := by
 have h1 := near_le a
 have h2 := near_le b
 unfold addM
 obtain ⟨x, hx⟩ : ∃ x, nearM a = x := ⟨_, rfl⟩
 obtain ⟨y, hy⟩ : ∃ y, nearM b = y := ⟨_, rfl⟩
 have c1 := near_t a
 have c2 := near_t b
 have c3 := near_t (x + y)
 rw [hx] at c1 h1 ⊢
 rw [hy] at c2 h2 ⊢
 refine Tri_in Tryz.func131 rfl (fun w0 S0 => ?_)
 repeat' (first | refine SW ?_ | (refine KC ?_; refine HO_callq rfl rfl rfl rfl (c1) (fun _ _ => rfl) (trivial) rfl rfl sqA ?_) | (refine KC ?_; refine HO_callq rfl rfl rfl rfl (c2) (fun _ _ => rfl) (trivial) rfl rfl sqA ?_) | (refine KC ?_; refine HO_callq rfl rfl rfl rfl (c3) (fun _ _ => rfl) (trivial) rfl rfl sqA ?_) | refine SB ?_ | fail)
 (refine SRt ?_; refine RU ?_)
 rfl
def tkC (k : TmK) : List Value := [.int .i64 k.p, .int .i64 k.k]
theorem tk_eq (a b : TmK) : eqZ [0, 0] (tkC a) (tkC b) = some (decide (a = b)) := by
 obtain ⟨a1, a2⟩ := a
 obtain ⟨b1, b2⟩ := b
 show some (decide (a1 = b1) && (decide (a2 = b2) && true)) = _
 congr 1
 by_cases h1 : a1 = b1 <;> by_cases h2 : a2 = b2 <;> simp [h1, h2]
instance : KeyOf Tryz.prog 93 (fun k : TmK => Value.agg (tkC k).toArray) := KeyOf.deep (n := 20) (cells := tkC) (ks := [0, 0]) (by kernel_rfl) (by decide) (by kernel_rfl) (fun _ => rfl) tk_eq (fun k v hv => by
 simp [tkC] at hv
 rcases hv with rfl | rfl
 ·exact ⟨_, _, rfl⟩
 ·exact ⟨_, _, rfl⟩) (by kernel_rfl)
@[reducible] def tkV (k : TmK) : Value := .agg (tkC k).toArray
def iV (n : Int) : Value := .int .i64 n
@[reducible] def tmF (t : Nat) (l : TmM) (mb : Nat) : List SL := [cel t 122 [.map (some mb)], mapP tkV iV mb l]
def tmP (t : Nat) (l : TmM) : SL := exP (fun _ : Nat => True) (tmF t l)
theorem tnew_t : Tri Tryz.prog 27 [] [] [] (fun _ : Nat => True) (fun t => pt t) (fun t => [tmP t []]) := by
 refine Tri_in Tryz.func27 rfl (fun w0 S0 => ?_)
 repeat' (first | (refine HO_k 21 rfl ?_; refine HO_mkmapT tkV iV rfl rfl rfl soA ?_; intro _) | refine SB ?_ | (refine S2 ?_; intro _) | fail)
 rename_i mb t
 (refine SRt ?_; unfold RetQ; refine ⟨t, trivial, rfl, (Keeps.close mb trivial permA)⟩)
theorem tlen_t (t : Nat) (l : TmM) : Tri Tryz.prog 31 [pt t] [] [tmP t l] (fun _ : Unit => True) (fun _ => .int .i64 l.length) (fun _ => [tmP t l]) := by
 refine Tri_open (fun mb _ => ?_)
 dsimp only [tmF, lca, lna]
 refine Tri_in Tryz.func31 rfl (fun w0 S0 => ?_)
 repeat' (first | (refine HO_k 8 rfl ?_; refine HO_maplen (ke := tkV) (ve := iV) 1 rfl rfl rfl rfl rfl rdA ?_) | refine SB ?_ | fail)
 (refine SRt ?_; unfold RetQ; refine ⟨(), trivial, rfl, (Keeps.close mb trivial permA)⟩)
section
variable {m : Md} {P : Program} {N : Nat} {w0 : World} {S0 : Foot} {ops : List Oper} {i : Nat} {lq : List Nat} {env : Env} {ro rw : List SL} {K : Act → World → Prop} {d : Nat} {op : Op} {ty : TypeId} {pos : String} {aft : Array Edge} {g : Option (Nat × Bool)}
theorem eqm_run {T Kt E D : Nat} {A : Option Nat} (w : World) (hT : P.underlying T = some (.map Kt E)) : (Op.equalIn (D + 1) T (.map A) (.map none)).run P w = .ok A.isNone w := by
 cases A <;> simp [Op.equalIn, Sem.run_bind, run_underlying hT]
theorem HO_eqm {bop : BinOp} {T U Kt E : Nat} {A : Option Nat} {x y : Operand} {r : Bool} [hT : TyMap P T Kt E] (ho : ops[i]? = some ⟨some d, .binOp bop T x y U, ty, pos, aft, g⟩) (hx : Env.ev env x = some (.map A)) (hy : Env.ev env y = some (.map none)) (he : eqN bop A.isNone = some r)
  (hw : wantE ops env g = some true) (hN : Nat.blt d N = true) (hr : rdyB m ops i lq = true)
  (h : HO m P N w0 S0 ops lq ((d, .bool r) :: env) ro rw K) : HO m P N w0 S0 ops (i :: lq) env ro rw K := by
 refine HO_val ho hw rfl hN hr (fun a' w ha hf => ?_) h
 cases bop <;> (try (simp [eqN] at he; done)) <;> (injection he with he; subst he) <;>
  simp [execOp, eqGuard, binOp, Sem.run_bind, ha.ev hx, ha.ev hy, Op.equal, show Op.maxDepth = 9999 + 1 from rfl, eqm_run w hT.h]
theorem HO_mapdel0 {κ ν : Type} [DecidableEq κ] {ke : κ → Value} {ve : ν → Value} {T Kt E b : Nat} {x y : Operand} {l : List (κ × ν)} [hT : TyMap P T Kt E] [hK : KeyOf P Kt ke] (q : Nat) (k : κ) (ho : ops[i]? = some ⟨none, .call { callee := .builtin .delete, args := #[x, y], argTypes := #[T, Kt] }, ty, pos, aft, g⟩)
  (hx : Env.ev env x = some (.map (some b))) (hy : Env.ev env y = some (ke k)) (hq : rw[q]? = some (mapP ke ve b l))
  (hw : wantE ops env g = some true) (hs : soleB m ops i lq = true)
  (h : HO (nmM m) P N w0 S0 ops lq env ro (rw.set q (mapP ke ve b (dlL k l))) K) : HO m P N w0 S0 ops (i :: lq) env ro rw K := by
 refine HO_do (α := Unit) (φ := fun _ => True) (val := fun _ => .tuple #[]) (rw' := fun _ => rw.set q (mapP ke ve b (dlL k l))) ho hw hs rfl (fun w1 S1 a S w n ha hf hn => ?_) (fun _ _ => h)
 have hp : ∃ A : Foot, (mapP ke ve b l).p A w := let ⟨A, _, hp, _⟩ := set_get hq (mapP ke ve b l) hf.star; ⟨A, hp⟩
 obtain ⟨A, _, es, clock, hh, he⟩ := hp
 obtain ⟨es', clock', hr, he'⟩ := run_mapDel (ty' := ty) hT.h hK hh he k
 have hb := (MapKept.heap_set (o' := .map es' clock') hh).1
 have h2 : (execOp a.eval ⟨none, .call { callee := .builtin .delete, args := #[x, y], argTypes := #[T, Kt] }, ty, pos, aft, g⟩).run P w = .ok (.value (.tuple #[])) { w with heap := w.heap.setIfInBounds b (.map es' clock') } := by
  simp [execOp, resolve, invoke, builtin, Sem.run_bind, ha.ev hx, ha.ev hy, hr]
 unfold Oper.wp
 rw [h2, Oper.upon_value]
 exact hn () S _ trivial (Fits.setmap hf hq (fun A hA => hA.1) hh (mapP ke ve b (dlL k l)) (o' := .map es' clock') (fun A hA => ⟨hA, es', clock', hb, he'⟩))
end
def upTB (c : Code) : Bool := (cOps c).any fun o => match o.op with
 | .mapUpdate _ _ _ _ => true
 | .call c => match c.callee with
  | .builtin .delete => true
  | _ => false
 | _ => false
theorem HC_lexU {P : Program} {N : Nat} {w0 : World} {S0 : Foot} {c : Code} {env : Env} {ro rw : List SL} {Q : Exit → Act → World → Prop} {l : List Nat} (hu : upTB c = true) (hk : isDraw c = true) (hl : elist (cOps c) = some l) (hs : (dlist (cOps c) l).toList.all (!·) = true) (hn : Nat.beq l.length (cOps c).length = true) (hm : P.follows .mixedOrders = true)
  (h : HO (.lex ro) P N w0 S0 (cOps c) l env ro rw (Q .normal)) : HC P N w0 S0 c env ro rw Q := HC_lex hk hl hs hn hm h
def tmAt (l : TmM) (k : TmK) : Int × Bool := match lkL k l with
 | some t => (t, true)
 | none => (0, false)
theorem dlL_no {κ ν : Type} [DecidableEq κ] {k : κ} : ∀ {l : List (κ × ν)}, lkL k l = none → dlL k l = l
 | [], _ => rfl
 | x :: l, h => by
  unfold lkL at h
  unfold dlL
  by_cases hk : k = x.1
  ·rw [if_pos hk] at h
   cases h
  ·rw [if_neg hk] at h ⊢
   rw [dlL_no h]
theorem tat_t (t : Nat) (l : TmM) (k : TmK) : Tri Tryz.prog 32 [pt t, tkV k] [] [tmP t l] (fun _ : Unit => True) (fun _ => .tuple #[.int .i64 (tmAt l k).1, .bool (tmAt l k).2]) (fun _ => [tmP t l]) := by
 refine Tri_open (fun mb _ => ?_)
 dsimp only [tmF, lca, lna]
 unfold tmAt
 dsimp only [tkV, tkC]
 cases hlk : lkL k l with
 | none =>
  refine Tri_in Tryz.func32 rfl (fun w0 S0 => ?_)
  repeat' (first | (refine HO_k 21 rfl ?_; refine HO_maplook (ke := tkV) (ve := iV) (v := .tuple #[.int .i64 0, .bool false]) 2 k rfl rfl rfl rfl (by rw [hlk] <;> rfl) rfl rfl rdA ?_) | refine SB ?_ | (refine S2 ?_; intro _) | fail)
  (refine SRt ?_; unfold RetQ; refine ⟨(), trivial, rfl, (Keeps.close mb trivial permA)⟩)
 | some v =>
  refine Tri_in Tryz.func32 rfl (fun w0 S0 => ?_)
  repeat' (first | (refine HO_k 21 rfl ?_; refine HO_maplook (ke := tkV) (ve := iV) (v := .tuple #[.int .i64 v, .bool true]) 2 k rfl rfl rfl rfl (by rw [hlk] <;> rfl) rfl rfl rdA ?_) | refine SB ?_ | (refine S2 ?_; intro _) | fail)
  (refine SRt ?_; unfold RetQ; refine ⟨(), trivial, rfl, (Keeps.close mb trivial permA)⟩)
theorem tset_t (t : Nat) (l : TmM) (k : TmK) (a : Int) (hl : l.length ≤ 1000000) : Tri Tryz.prog 130 [pt t, tkV k, .int .i64 a] [] [tmP t l] (fun _ : Unit => True) (fun _ => .int .i64 (tmSet l k a).2) (fun _ => [tmP t (tmSet l k a).1]) := by
 refine Tri_open (fun mb _ => ?_)
 dsimp only [tmF, lca, lna]
 unfold tmSet
 dsimp only [tkV, tkC]
 cases hlk : lkL k l with
 | none =>
  by_cases h1 : a < 0
  ·rw [if_pos (.inl h1)]
   refine Tri_in Tryz.func130 rfl (fun w0 S0 => ?_)
   repeat' (first | (refine HC_lexU rfl rfl rfl (by decide +kernel) rfl rfl ?_) | refine SK ?_ | refine SD ?_ | (refine HO_k 0 rfl ?_; refine HO_eqm rfl rfl rfl rfl rfl rfl rdA ?_) | (refine HO_k 21 rfl ?_; refine HO_maplook (ke := tkV) (ve := iV) (v := .tuple #[.int .i64 0, .bool false]) 2 k rfl rfl rfl rfl (by rw [hlk] <;> rfl) rfl rfl rdA ?_) | refine SB ?_ | (refine S2 ?_; intro _) | fail)
   (refine SRt ?_; unfold RetQ; refine ⟨(), trivial, rfl, (Keeps.close mb trivial permA)⟩)
  by_cases h2 : 9007199254740991 < a
  ·rw [if_pos (.inr h2)]
   refine Tri_in Tryz.func130 rfl (fun w0 S0 => ?_)
   repeat' (first | (refine HC_lexU rfl rfl rfl (by decide +kernel) rfl rfl ?_) | refine SK ?_ | refine SD ?_ | (refine HO_k 0 rfl ?_; refine HO_eqm rfl rfl rfl rfl rfl rfl rdA ?_) | (refine HO_k 21 rfl ?_; refine HO_maplook (ke := tkV) (ve := iV) (v := .tuple #[.int .i64 0, .bool false]) 2 k rfl rfl rfl rfl (by rw [hlk] <;> rfl) rfl rfl rdA ?_) | refine SB ?_ | (refine S2 ?_; intro _) | fail)
   (refine SRt ?_; unfold RetQ; refine ⟨(), trivial, rfl, (Keeps.close mb trivial permA)⟩)
  rw [if_neg (by omega)]
  by_cases h3 : 1024 ≤ l.length
  ·have h3z : (1024 : Int) ≤ (l.length : Int) := by omega
   rw [if_pos ⟨rfl, h3⟩]
   refine Tri_in Tryz.func130 rfl (fun w0 S0 => ?_)
   repeat' (first | (refine HC_lexU rfl rfl rfl (by decide +kernel) rfl rfl ?_) | refine SK ?_ | refine SD ?_ | (refine HO_k 0 rfl ?_; refine HO_eqm rfl rfl rfl rfl rfl rfl rdA ?_) | (refine HO_k 21 rfl ?_; refine HO_maplook (ke := tkV) (ve := iV) (v := .tuple #[.int .i64 0, .bool false]) 2 k rfl rfl rfl rfl (by rw [hlk] <;> rfl) rfl rfl rdA ?_) | (refine HO_k 8 rfl ?_; refine HO_maplen (ke := tkV) (ve := iV) 2 rfl rfl rfl rfl rfl rdA ?_) | refine SB ?_ | (refine S2 ?_; intro _) | fail)
   (refine SRt ?_; unfold RetQ; refine ⟨(), trivial, rfl, (Keeps.close mb trivial permA)⟩)
  ·have h3z : ¬ (1024 : Int) ≤ (l.length : Int) := by omega
   rw [if_neg (fun h => h3 h.2)]
   refine Tri_in Tryz.func130 rfl (fun w0 S0 => ?_)
   repeat' (first | (refine HC_lexU rfl rfl rfl (by decide +kernel) rfl rfl ?_) | refine SK ?_ | refine SD ?_ | (refine HO_k 0 rfl ?_; refine HO_eqm rfl rfl rfl rfl rfl rfl rdA ?_) | (refine HO_k 21 rfl ?_; refine HO_maplook (ke := tkV) (ve := iV) (v := .tuple #[.int .i64 0, .bool false]) 2 k rfl rfl rfl rfl (by rw [hlk] <;> rfl) rfl rfl rdA ?_) | (refine HO_k 8 rfl ?_; refine HO_maplen (ke := tkV) (ve := iV) 2 rfl rfl rfl rfl rfl rdA ?_) | (refine HO_k 21 rfl ?_; first | refine HO_mapsetO (ke := tkV) (ve := iV) 0 k a rfl rfl rfl rfl rfl rfl rfl soA ?_ | refine HO_mapsetO (ke := tkV) (ve := iV) 1 k a rfl rfl rfl rfl rfl rfl rfl soA ?_ | refine HO_mapsetO (ke := tkV) (ve := iV) 2 k a rfl rfl rfl rfl rfl rfl rfl soA ?_) | refine SB ?_ | (refine S2 ?_; intro _) | fail)
   (refine SRt ?_; unfold RetQ; refine ⟨(), trivial, rfl, (Keeps.close mb trivial permA)⟩)
 | some v =>
  by_cases h1 : a < 0
  ·rw [if_pos (.inl h1)]
   refine Tri_in Tryz.func130 rfl (fun w0 S0 => ?_)
   repeat' (first | (refine HC_lexU rfl rfl rfl (by decide +kernel) rfl rfl ?_) | refine SK ?_ | refine SD ?_ | (refine HO_k 0 rfl ?_; refine HO_eqm rfl rfl rfl rfl rfl rfl rdA ?_) | (refine HO_k 21 rfl ?_; refine HO_maplook (ke := tkV) (ve := iV) (v := .tuple #[.int .i64 v, .bool true]) 2 k rfl rfl rfl rfl (by rw [hlk] <;> rfl) rfl rfl rdA ?_) | refine SB ?_ | (refine S2 ?_; intro _) | fail)
   (refine SRt ?_; unfold RetQ; refine ⟨(), trivial, rfl, (Keeps.close mb trivial permA)⟩)
  by_cases h2 : 9007199254740991 < a
  ·rw [if_pos (.inr h2)]
   refine Tri_in Tryz.func130 rfl (fun w0 S0 => ?_)
   repeat' (first | (refine HC_lexU rfl rfl rfl (by decide +kernel) rfl rfl ?_) | refine SK ?_ | refine SD ?_ | (refine HO_k 0 rfl ?_; refine HO_eqm rfl rfl rfl rfl rfl rfl rdA ?_) | (refine HO_k 21 rfl ?_; refine HO_maplook (ke := tkV) (ve := iV) (v := .tuple #[.int .i64 v, .bool true]) 2 k rfl rfl rfl rfl (by rw [hlk] <;> rfl) rfl rfl rdA ?_) | refine SB ?_ | (refine S2 ?_; intro _) | fail)
   (refine SRt ?_; unfold RetQ; refine ⟨(), trivial, rfl, (Keeps.close mb trivial permA)⟩)
  rw [if_neg (by omega), if_neg (fun h => by cases h.1)]
  refine Tri_in Tryz.func130 rfl (fun w0 S0 => ?_)
  repeat' (first | (refine HC_lexU rfl rfl rfl (by decide +kernel) rfl rfl ?_) | refine SK ?_ | refine SD ?_ | (refine HO_k 0 rfl ?_; refine HO_eqm rfl rfl rfl rfl rfl rfl rdA ?_) | (refine HO_k 21 rfl ?_; refine HO_maplook (ke := tkV) (ve := iV) (v := .tuple #[.int .i64 v, .bool true]) 2 k rfl rfl rfl rfl (by rw [hlk] <;> rfl) rfl rfl rdA ?_) | (refine HO_k 21 rfl ?_; first | refine HO_mapsetO (ke := tkV) (ve := iV) 0 k a rfl rfl rfl rfl rfl rfl rfl soA ?_ | refine HO_mapsetO (ke := tkV) (ve := iV) 1 k a rfl rfl rfl rfl rfl rfl rfl soA ?_ | refine HO_mapsetO (ke := tkV) (ve := iV) 2 k a rfl rfl rfl rfl rfl rfl rfl soA ?_) | refine SB ?_ | (refine S2 ?_; intro _) | fail)
  (refine SRt ?_; unfold RetQ; refine ⟨(), trivial, rfl, (Keeps.close mb trivial permA)⟩)
theorem tstop_t (t : Nat) (l : TmM) (k : TmK) : Tri Tryz.prog 129 [pt t, tkV k] [] [tmP t l] (fun _ : Unit => True) (fun _ => .bool (tmAt l k).2) (fun _ => [tmP t (dlL k l)]) := by
 have c1 := tat_t t l k
 unfold tmAt at c1 ⊢
 dsimp only [tkV, tkC] at c1 ⊢
 cases hlk : lkL k l with
 | none =>
  rw [hlk] at c1
  dsimp only at c1
  rw [dlL_no hlk]
  refine Tri_in Tryz.func129 rfl (fun w0 S0 => ?_)
  repeat' (first | (refine KC ?_; refine HO_callP rfl rfl rfl rfl c1 findA trivial rfl rfl soA ?_; intro _ _; dsimp only [lca, lna]) | refine SB ?_ | (refine S2 ?_; intro _) | fail)
  (refine SRt ?_; unfold RetQ; refine ⟨(), trivial, rfl, permA⟩)
 | some v =>
  rw [hlk] at c1
  dsimp only at c1
  refine Tri_in Tryz.func129 rfl (fun w0 S0 => ?_)
  repeat' (first | (refine KC ?_; refine HO_callP rfl rfl rfl rfl c1 findA trivial rfl rfl soA ?_; intro _ _; dsimp only [lca, lna]) | refine S1 ?_ | (refine S2 ?_; intro _) | refine S5n ?_ | fail)
  refine HC_open 0 rfl rfl (fun mb _ => ?_)
  dsimp only [tmF, lca, lna]
  repeat' (first | (refine HC_lexU rfl rfl rfl (by decide +kernel) rfl rfl ?_) | refine SB ?_ | (refine S2 ?_; intro _) | fail)
  refine HO_mapdel0 (Kt := 93) (ke := tkV) (ve := iV) 0 k rfl rfl rfl rfl rfl soA ?_
  repeat' (first | refine SB ?_ | (refine S2 ?_; intro _) | fail)
  (refine SRt ?_; unfold RetQ; refine ⟨(), trivial, rfl, (Keeps.close mb trivial permA)⟩)
end Go.Proofs.YteeogabkkblkgaaGreatDoor
