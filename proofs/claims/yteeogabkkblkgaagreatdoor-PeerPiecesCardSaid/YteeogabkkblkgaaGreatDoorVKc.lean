/- Part of a proof of many texts: what the theorem at its end leans on. -/
import Derived.Test.YteeogabkkblkgaaGreatDoorVKb
import Derived.MapKept
import Derived.Lib.AppendStr
import Derived.Lib.UnsafeStr
namespace Go.Proofs.YteeogabkkblkgaaGreatDoor
set_option maxHeartbeats 1000000000
set_option linter.unusedVariables false
set_option linter.unusedSimpArgs false
open Go.RowKit
theorem sba_loop (l : List UInt8) : ∀ (n i : Nat) (r : List UInt8), l.length - i = n → i ≤ l.length → ByteArray.toList.loop ⟨l.toArray⟩ i r = r.reverse ++ l.drop i := by
 intro n
 induction n with
 | zero =>
  intro i r h hi
  rw [ByteArray.toList.loop, if_neg (by show ¬ i < l.toArray.size; rw [List.size_toArray]; omega), List.drop_of_length_le (by omega), List.append_nil]
 | succ n ih =>
  intro i r h hi
  have hil : i < l.length := by omega
  have hg : ByteArray.get! ⟨l.toArray⟩ i = l[i] := by
   show l.toArray[i]! = l[i]
   rw [getElem!_pos l.toArray i (by rw [List.size_toArray]; exact hil), List.getElem_toArray]
  rw [ByteArray.toList.loop, if_pos (by show i < l.toArray.size; rw [List.size_toArray]; omega), ih _ _ (by omega) (by omega), hg, List.drop_eq_getElem_cons hil, List.reverse_cons, List.append_assoc]
  rfl
theorem sba_list (l : List UInt8) : ByteArray.toList ⟨l.toArray⟩ = l := by
 unfold ByteArray.toList
 rw [sba_loop l l.length 0 [] (by omega) (by omega)]
 rfl
theorem sba_eq (l l' : List UInt8) : (ByteArray.toList ⟨l.toArray⟩ == ByteArray.toList ⟨l'.toArray⟩) = decide (l = l') := by
 rw [sba_list, sba_list, Bool.eq_iff_iff, beq_iff_eq, decide_eq_true_eq]
section
variable {m : Md} {P : Program} {N : Nat} {w0 : World} {S0 : Foot} {ops : List Oper} {i : Nat} {lq : List Nat} {env : Env} {ro rw : List SL} {K : Act → World → Prop} {d : Nat} {ty : TypeId} {pos : String} {aft : Array Edge} {g : Option (Nat × Bool)}
end
def glbs (g : Nat) (cs : Array Value) : SL where
 p S w := S g ∧ ∃ T fz, w.heap[g]? = some (.cells cs T fz)
 st S w w' h hp := ⟨hp.1, by rw [h g hp.1]; exact hp.2⟩
end Go.Proofs.YteeogabkkblkgaaGreatDoor
namespace Go.Proofs.YteeogabkkblkgaaGreatDoor
set_option linter.unusedVariables false
set_option linter.unusedSimpArgs false
open Go.RowKit
def ixL {κ ν : Type} [DecidableEq κ] (k : κ) : List (κ × ν) → Option (Nat × ν)
 | [] => none
 | x :: l => if k = x.1 then some (0, x.2) else (ixL k l).map fun y => (y.1 + 1, y.2)
def lkL {κ ν : Type} [DecidableEq κ] (k : κ) : List (κ × ν) → Option ν
 | [] => none
 | x :: l => if k = x.1 then some x.2 else lkL k l
def stL {κ ν : Type} [DecidableEq κ] (k : κ) (v : ν) : List (κ × ν) → List (κ × ν)
 | [] => [(k, v)]
 | x :: l => if k = x.1 then (k, v) :: l else x :: stL k v l
def dlL {κ ν : Type} [DecidableEq κ] (k : κ) : List (κ × ν) → List (κ × ν)
 | [] => []
 | x :: l => if k = x.1 then l else x :: dlL k l
theorem lkL_ix {κ ν : Type} [DecidableEq κ] (k : κ) : ∀ l : List (κ × ν), lkL k l = (ixL k l).map (·.2)
 | [] => rfl
 | x :: l => by
  unfold lkL ixL
  split
  ·rfl
  ·rw [lkL_ix k l]
   cases ixL k l <;> rfl
def entsL (es : List MapEntry) : List (Value × Value) := es.map fun e => (e.key, e.val)
def mapP {κ ν : Type} (ke : κ → Value) (ve : ν → Value) (b : Nat) (l : List (κ × ν)) : SL where
 p S w := S b ∧ ∃ es clock, w.heap[b]? = some (.map es clock) ∧ entsL es.toList = l.map fun x => (ke x.1, ve x.2)
 st S w w' h hp := ⟨hp.1, by rw [h b hp.1]; exact hp.2⟩
class KeyOf (P : Program) (K : Nat) {κ : Type} [DecidableEq κ] (ke : κ → Value) : Prop where
 chk : ∀ (e : Bool) (k : κ) (w : World), (Instr.checkKey e 10000 K (ke k)).run P w = .ok () w
 fnd : ∀ {ν : Type} (ve : ν → Value) (k : κ) (es : List MapEntry) (l : List (κ × ν)), entsL es = l.map (fun x => (ke x.1, ve x.2)) → ∀ w : World, (Instr.findKey K (ke k) es).run P w = .ok ((ixL k l).map fun y => (y.1, ve y.2)) w
 bits : ∀ k : κ, Instr.sameBits 10000 (ke k) (ke k) = true
theorem ents_set {κ ν : Type} [DecidableEq κ] (ke : κ → Value) (ve : ν → Value) (k : κ) (v : ν) : ∀ (es : List MapEntry) (l : List (κ × ν)) (i : Nat) (u : ν), entsL es = l.map (fun x => (ke x.1, ve x.2)) → ixL k l = some (i, u) →
  ∃ e, es[i]? = some e ∧ e.key = ke k ∧ entsL (es.modify i fun e => { e with key := ke k, val := ve v }) = (stL k v l).map fun x => (ke x.1, ve x.2)
 | es, [], i, u, _, h => by cases h
 | [], x :: l, i, u, h, _ => by simp [entsL] at h
 | e :: es, x :: l, i, u, h, hi => by
  simp only [entsL, List.map_cons, List.cons.injEq, Prod.mk.injEq] at h
  obtain ⟨⟨h1, h2⟩, h3⟩ := h
  unfold ixL at hi
  unfold stL
  by_cases hk : k = x.1
  ·rw [if_pos hk] at hi ⊢
   injection hi with hi
   injection hi with hi1 hi2
   subst hi1
   refine ⟨e, rfl, by rw [h1, hk], ?_⟩
   simp [entsL, h3]
  ·rw [if_neg hk] at hi ⊢
   cases hx : ixL k l with
   | none => rw [hx] at hi; cases hi
   | some y =>
    rw [hx] at hi
    injection hi with hi
    injection hi with hi1 hi2
    subst hi1
    obtain ⟨e', he1, he2, he3⟩ := ents_set ke ve k v es l y.1 y.2 h3 (by rw [hx])
    refine ⟨e', by simpa using he1, he2, ?_⟩
    simp only [List.modify_succ_cons, entsL, List.map_cons] at he3 ⊢
    rw [he3, h1, h2]
theorem ents_new {κ ν : Type} [DecidableEq κ] (k : κ) (v : ν) : ∀ (l : List (κ × ν)), ixL k l = none → stL k v l = l ++ [(k, v)]
 | [], _ => rfl
 | x :: l, h => by
  unfold ixL at h
  unfold stL
  by_cases hk : k = x.1
  ·rw [if_pos hk] at h
   cases h
  ·rw [if_neg hk] at h ⊢
   rw [ents_new k v l (by cases hx : ixL k l with | none => rfl | some y => rw [hx] at h; cases h)]
   rfl
theorem ents_del {κ ν : Type} [DecidableEq κ] (ke : κ → Value) (ve : ν → Value) (k : κ) : ∀ (es : List MapEntry) (l : List (κ × ν)) (i : Nat) (u : ν), entsL es = l.map (fun x => (ke x.1, ve x.2)) → ixL k l = some (i, u) →
  i < es.length ∧ entsL (es.eraseIdx i) = (dlL k l).map fun x => (ke x.1, ve x.2)
 | es, [], i, u, _, h => by cases h
 | [], x :: l, i, u, h, _ => by simp [entsL] at h
 | e :: es, x :: l, i, u, h, hi => by
  simp only [entsL, List.map_cons, List.cons.injEq, Prod.mk.injEq] at h
  obtain ⟨⟨h1, h2⟩, h3⟩ := h
  unfold ixL at hi
  unfold dlL
  by_cases hk : k = x.1
  ·rw [if_pos hk] at hi ⊢
   injection hi with hi
   injection hi with hi1 hi2
   subst hi1
   exact ⟨by simp, h3⟩
  ·rw [if_neg hk] at hi ⊢
   cases hx : ixL k l with
   | none => rw [hx] at hi; cases hi
   | some y =>
    rw [hx] at hi
    injection hi with hi
    injection hi with hi1 hi2
    subst hi1
    obtain ⟨he1, he2⟩ := ents_del ke ve k es l y.1 y.2 h3 (by rw [hx])
    refine ⟨by simp; exact he1, ?_⟩
    simp only [List.eraseIdx_cons_succ, entsL, List.map_cons] at he2 ⊢
    rw [he2, h1, h2]
theorem dlL_none {κ ν : Type} [DecidableEq κ] (k : κ) : ∀ (l : List (κ × ν)), ixL k l = none → dlL k l = l
 | [], _ => rfl
 | x :: l, h => by
  unfold ixL at h
  unfold dlL
  by_cases hk : k = x.1
  ·rw [if_pos hk] at h
   cases h
  ·rw [if_neg hk] at h ⊢
   rw [dlL_none k l (by cases hx : ixL k l with | none => rfl | some y => rw [hx] at h; cases h)]
section
variable {m : Md} {P : Program} {N : Nat} {w0 : World} {S0 : Foot} {ops : List Oper} {i : Nat} {lq : List Nat} {env : Env} {ro rw : List SL} {K : Act → World → Prop} {d : Nat} {ty : TypeId} {pos : String} {aft : Array Edge} {g : Option (Nat × Bool)}
theorem HO_mkmap {κ ν : Type} (ke : κ → Value) (ve : ν → Value) {T : Nat} (ho : ops[i]? = some ⟨some d, .makeMap T none, ty, pos, aft, g⟩) (hw : wantE ops env g = some true) (hN : Nat.blt d N = true) (hs : soleB m ops i lq = true)
  (h : ∀ b : Nat, HO (nmM m) P N w0 S0 ops lq ((d, .map (some b)) :: env) ro (mapP ke ve b [] :: rw) K) : HO m P N w0 S0 ops (i :: lq) env ro rw K := by
 refine HO_act_ex (α := Nat) (φ := fun _ => True) (v := fun b => .map (some b)) (rw' := fun b => mapP ke ve b [] :: rw) ho hw rfl hN hs (fun w1 S1 a S w ha hf => ?_) (fun b _ => h b)
 have hn := hf.new (w' := w.alloc (.map #[] 0)) ((Below.refl _ _).alloc (Nat.le_refl _) _) [mapP ke ve w.heap.size []] (fun b => b = w.heap.size) (fun b hb => by subst hb; simp)
  ⟨fun b => b = w.heap.size, fun _ => False, fun _ h => h, fun _ h => h.elim, fun _ _ h => h, ⟨rfl, #[], 0, heap_alloc_new w _, rfl⟩, trivial⟩
 obtain ⟨T', hT'⟩ := hn
 exact ⟨w.heap.size, T', w.alloc (.map #[] 0), trivial, by simp [execOp, Instr.makeMap, newObj, Sem.run], by simpa using hT'⟩
theorem run_mapSet {κ ν : Type} [DecidableEq κ] {ke : κ → Value} {ve : ν → Value} {T Kt E b : Nat} (hT : P.underlying T = some (.map Kt E)) (hk : KeyOf P Kt ke) {w : World} {es : Array MapEntry} {clock : Nat} {l : List (κ × ν)}
  (hh : w.heap[b]? = some (.map es clock)) (he : entsL es.toList = l.map fun x => (ke x.1, ve x.2)) (k : κ) (v : ν) :
  ∃ es' clock', (Instr.mapUpdate T (.map (some b)) (ke k) (ve v)).run P w = .ok () { w with heap := w.heap.setIfInBounds b (.map es' clock') } ∧ entsL es'.toList = (stL k v l).map fun x => (ke x.1, ve x.2) := by
 have hf := hk.fnd ve k es.toList l he w
 cases hx : ixL k l with
 | none =>
  rw [hx] at hf
  refine ⟨es.push { key := ke k, val := ve v, born := clock }, clock + 1, ?_, ?_⟩
  ·simp only [Instr.mapUpdate, Sem.run_bind, run_underlying hT, Result.andThen_ok, MapKept.run_getObj_map hh, hk.chk, hf, Option.map_none, MapKept.run_setObj_map _ hh]
  ·rw [ents_new k v l hx]
   simp only [entsL] at he
   simp [entsL, he]
 | some y =>
  rw [hx] at hf
  obtain ⟨e, e1, e2, e3⟩ := ents_set ke ve k v es.toList l y.1 y.2 he (by rw [hx])
  refine ⟨es.modify y.1 fun e => { e with key := ke k, val := ve v }, clock, ?_, ?_⟩
  ·have e1' : es[y.1]? = some e := by simpa using e1
   simp only [Instr.mapUpdate, Sem.run_bind, run_underlying hT, Result.andThen_ok, MapKept.run_getObj_map hh, hk.chk, hf, Option.map_some, e1', Option.getD_some, e2, Instr.keyThatStays, hk.bits, if_true, Sem.run_pure, MapKept.run_setObj_map _ hh]
  ·rw [Array.toList_modify]
   exact e3
theorem Fits.setmap {S : Foot} {w : World} {k b : Nat} {e : SL} {o o' : Obj} (hf : Fits w0 S0 ro rw S w) (hk : rw[k]? = some e) (hb : ∀ A, e.p A w → A b) (hh : w.heap[b]? = some o) (e' : SL) (he' : ∀ A, A b → e'.p A { w with heap := w.heap.setIfInBounds b o' }) :
  Fits w0 S0 ro (rw.set k e') S { w with heap := w.heap.setIfInBounds b o' } := by
 obtain ⟨A, hA, hp, hss⟩ := set_get hk e' hf.star
 have hAb := hb A hp
 obtain ⟨h1, h2⟩ := MapKept.heap_set (o' := o') hh
 have hsz : ({ w with heap := w.heap.setIfInBounds b o' } : World).heap.size = w.heap.size := by simp
 refine ⟨⟨hf.fr.os, hf.fr.tape, hf.fr.output, by rw [hsz]; exact hf.fr.size, fun c hc hn' => ?_⟩, fun c hc => by rw [hsz]; exact hf.lt c hc, hf.sub, ?_, fun f he => ?_⟩
 ·by_cases hcb : c = b
  ·subst hcb
   exact absurd ((hf.sub c (hA c hAb)).resolve_left hn') (by omega)
  ·exact (h2 c hcb).trans (hf.fr.block c hc hn')
 ·exact hss _ (fun c hc hn' => by
   by_cases hcb : c = b
   ·subst hcb; exact absurd hAb hn'
   ·exact h2 c hcb) (he' A hAb)
 ·obtain ⟨F, hF, hpe⟩ := hf.ros f he
  refine ⟨F, fun c hc => ⟨by rw [hsz]; exact (hF c hc).1, (hF c hc).2⟩, f.st F w _ (fun c hc => ?_) hpe⟩
  by_cases hcb : c = b
  ·subst hcb; exact absurd (hA c hAb) (hF c hc).2
  ·exact h2 c hcb
theorem HO_mapset {κ ν : Type} [DecidableEq κ] {ke : κ → Value} {ve : ν → Value} {T Kt E b : Nat} {x y z : Operand} {l : List (κ × ν)} [hT : TyMap P T Kt E] [hK : KeyOf P Kt ke] (q : Nat) (k : κ) (v : ν) (ho : ops[i]? = some ⟨none, .mapUpdate T x y z, ty, pos, aft, g⟩)
  (hx : Env.ev env x = some (.map (some b))) (hy : Env.ev env y = some (ke k)) (hz : Env.ev env z = some (ve v)) (hq : rw[q]? = some (mapP ke ve b l))
  (hw : wantE ops env g = some true) (hs : soleB m ops i lq = true)
  (h : HO (nmM m) P N w0 S0 ops lq env ro (rw.set q (mapP ke ve b (stL k v l))) K) : HO m P N w0 S0 ops (i :: lq) env ro rw K := by
 refine HO_unit ho hw rfl hs (fun w1 S1 a S w ha hf => ?_) h
 have hp : ∃ A : Foot, (mapP ke ve b l).p A w := let ⟨A, _, hp, _⟩ := set_get hq (mapP ke ve b l) hf.star; ⟨A, hp⟩
 obtain ⟨A, _, es, clock, hh, he⟩ := hp
 obtain ⟨es', clock', hr, he'⟩ := run_mapSet hT.h hK hh he k v
 have hb := (MapKept.heap_set (o' := .map es' clock') hh).1
 refine ⟨S, _, ?_, Fits.setmap hf hq (fun A hA => hA.1) hh (mapP ke ve b (stL k v l)) (o' := .map es' clock') (fun A hA => ⟨hA, es', clock', hb, he'⟩)⟩
 simp only [execOp, ha.ev hx, ha.ev hy, ha.ev hz, Sem.run_bind, hr, Result.andThen_ok]
 rfl
theorem run_mapDel {κ ν : Type} [DecidableEq κ] {ke : κ → Value} {ve : ν → Value} {T Kt E b : Nat} {ty' : TypeId} (hT : P.underlying T = some (.map Kt E)) (hk : KeyOf P Kt ke) {w : World} {es : Array MapEntry} {clock : Nat} {l : List (κ × ν)}
  (hh : w.heap[b]? = some (.map es clock)) (he : entsL es.toList = l.map fun x => (ke x.1, ve x.2)) (k : κ) :
  ∃ es' clock', (Builtin.delete_ #[T, Kt] ty' #[.map (some b), ke k]).run P w = .ok (.tuple #[]) { w with heap := w.heap.setIfInBounds b (.map es' clock') } ∧ entsL es'.toList = (dlL k l).map fun x => (ke x.1, ve x.2) := by
 have hf := hk.fnd ve k es.toList l he w
 cases hx : ixL k l with
 | none =>
  rw [hx] at hf
  refine ⟨es, clock, ?_, ?_⟩
  ·simp [Builtin.delete_, Sem.run_bind, run_underlying hT, MapKept.run_getObj_map hh, hk.chk, hf, MapKept.run_setObj_map _ hh]
  ·rw [dlL_none k l hx]
   exact he
 | some y =>
  rw [hx] at hf
  obtain ⟨e1, e2⟩ := ents_del ke ve k es.toList l y.1 y.2 he (by rw [hx])
  refine ⟨es.eraseIdxIfInBounds y.1, clock, ?_, ?_⟩
  ·simp [Builtin.delete_, Sem.run_bind, run_underlying hT, MapKept.run_getObj_map hh, hk.chk, hf, MapKept.run_setObj_map _ hh]
  ·have : y.1 < es.size := by simpa using e1
   rw [Array.eraseIdxIfInBounds, dif_pos this, Array.toList_eraseIdx]
   exact e2
theorem ro_map {κ ν : Type} {ke : κ → Value} {ve : ν → Value} {b : Nat} {l : List (κ × ν)} {L : List SL} {w : World} (hf : RoOk L w) (hm : mapP ke ve b l ∈ L) : ∃ es clock, w.heap[b]? = some (.map es clock) ∧ entsL es.toList = l.map fun x => (ke x.1, ve x.2) := by
 obtain ⟨F, _, hp⟩ := hf _ hm
 exact hp.2
theorem HO_maplen {κ ν : Type} {ke : κ → Value} {ve : ν → Value} {T Kt E b : Nat} {x : Operand} {l : List (κ × ν)} [hT : TyMap P T Kt E] (q : Nat) (ho : ops[i]? = some ⟨some d, .call { callee := .builtin .len, args := #[x], argTypes := #[T] }, ty, pos, aft, g⟩)
  (hx : Env.ev env x = some (.map (some b))) (hq : (seeL m ro rw)[q]? = some (mapP ke ve b l)) (hw : wantE ops env g = some true) (hN : Nat.blt d N = true) (hr : rdyB m ops i lq = true)
  (h : HO m P N w0 S0 ops lq ((d, .int .i64 (l.length : Int)) :: env) ro rw K) : HO m P N w0 S0 ops (i :: lq) env ro rw K := by
 refine HO_val ho hw rfl hN hr (fun a w ha hf => ?_) h
 obtain ⟨es, clock, hh, he⟩ := ro_map hf (List.mem_of_getElem? hq)
 have hl : es.size = l.length := by
  have := congrArg List.length he
  simpa [entsL] using this
 simp [execOp, resolve, invoke, builtin, Builtin.len_, Sem.run_bind, run_underlying hT.h, ha.ev hx, goInt, MapKept.run_getObj_map hh, hl]
theorem run_mapLook {κ ν : Type} [DecidableEq κ] {ke : κ → Value} {ve : ν → Value} {T Kt E b : Nat} {z : Value} (hT : P.underlying T = some (.map Kt E)) (hk : KeyOf P Kt ke) {w : World} (hz : (zeroValue E).run P w = .ok z w) {es : Array MapEntry} {clock : Nat} {l : List (κ × ν)}
  (hh : w.heap[b]? = some (.map es clock)) (he : entsL es.toList = l.map fun x => (ke x.1, ve x.2)) (k : κ) (ok : Bool) :
  (Instr.lookup T (.map (some b)) (ke k) ok).run P w = .ok (match lkL k l with
   | none => if ok then .tuple #[z, .bool false] else z
   | some v => if ok then .tuple #[ve v, .bool true] else ve v) w := by
 have hf := hk.fnd ve k es.toList l he w
 rw [lkL_ix]
 cases hx : ixL k l with
 | none =>
  rw [hx] at hf
  cases ok <;> simp [Instr.lookup, Sem.run_bind, run_underlying hT, MapKept.run_getObj_map hh, hk.chk, hf, hz]
 | some y =>
  rw [hx] at hf
  cases ok <;> simp [Instr.lookup, Sem.run_bind, run_underlying hT, MapKept.run_getObj_map hh, hk.chk, hf]
theorem HO_maplook {κ ν : Type} [DecidableEq κ] {ke : κ → Value} {ve : ν → Value} {T Kt E b : Nat} {z v : Value} {x y : Operand} {l : List (κ × ν)} {ok : Bool} [hT : TyMap P T Kt E] [hK : KeyOf P Kt ke] [hz : TyZero P E z] (q : Nat) (k : κ) (ho : ops[i]? = some ⟨some d, .lookup T x y ok, ty, pos, aft, g⟩)
  (hx : Env.ev env x = some (.map (some b))) (hy : Env.ev env y = some (ke k)) (hq : (seeL m ro rw)[q]? = some (mapP ke ve b l)) (hv : (match lkL k l with
   | none => if ok then Value.tuple #[z, .bool false] else z
   | some v => if ok then Value.tuple #[ve v, .bool true] else ve v) = v) (hw : wantE ops env g = some true) (hN : Nat.blt d N = true) (hr : rdyB m ops i lq = true)
  (h : HO m P N w0 S0 ops lq ((d, v) :: env) ro rw K) : HO m P N w0 S0 ops (i :: lq) env ro rw K := by
 refine HO_val ho hw rfl hN hr (fun a w ha hf => ?_) h
 obtain ⟨es, clock, hh, he⟩ := ro_map hf (List.mem_of_getElem? hq)
 subst hv
 simp only [execOp, ha.ev hx, ha.ev hy, Sem.run_bind, run_mapLook hT.h hK (zero_run w hz.h) hh he, Result.andThen_ok]
 rfl
end
def fieldsD (P : Program) (g : TypeId → Option (List Nat)) : Nat → List Field → Option (List Nat)
 | _, [] => some []
 | k, f :: fs => match (f.name != "_") && Nat.beq f.offset k with
  | true => match g f.type with
   | some q => match fieldsD P g (k + q.length) fs with
    | some r => some (q ++ r)
    | none => none
   | none => none
  | false => none
def kindsD (P : Program) : Nat → TypeId → Option (List Nat)
 | 0, _ => none
 | n + 1, T => match kindB P T with
  | some q => match tyOneB P T with
   | true => some [q]
   | false => none
  | none => match P.underlying T with
   | some (.struct fs) => match fieldsD P (kindsD P n) 0 fs.toList with
    | some ks => match !(P.stoodInHeld T) && tyAggB P T ks.length with
     | true => some ks
     | false => none
    | none => none
   | _ => none
def eqZ : List Nat → List Value → List Value → Option Bool
 | [], [], [] => some true
 | k :: ks, x :: xs, y :: ys => match eq1 k x y with
  | some b => match eqZ ks xs ys with
   | some r => some (b && r)
   | none => none
  | none => none
 | _, _, _ => none
def valD (P : Program) (T : TypeId) (xs : List Value) : Value := match kindB P T with
 | some _ => xs.headD undef
 | none => .agg xs.toArray
theorem eqZ_len : ∀ (ks : List Nat) (xs ys : List Value) (b : Bool), eqZ ks xs ys = some b → xs.length = ks.length ∧ ys.length = ks.length
 | [], [], [], _, _ => ⟨rfl, rfl⟩
 | [], _ :: _, _, _, h => by simp [eqZ] at h
 | [], [], _ :: _, _, h => by simp [eqZ] at h
 | _ :: _, [], _, _, h => by simp [eqZ] at h
 | _ :: _, _ :: _, [], _, h => by simp [eqZ] at h
 | k :: ks, x :: xs, y :: ys, b, h => by
  simp only [eqZ] at h
  cases h1 : eq1 k x y with
  | none => simp [h1] at h
  | some b1 =>
   cases h2 : eqZ ks xs ys with
   | none => simp [h1, h2] at h
   | some b2 =>
    obtain ⟨e1, e2⟩ := eqZ_len ks xs ys b2 h2
    simp [e1, e2]
theorem eqZ_app : ∀ (ks rs : List Nat) (xs ys : List Value) (b : Bool), eqZ (ks ++ rs) xs ys = some b → ∃ b1 b2, eqZ ks (xs.take ks.length) (ys.take ks.length) = some b1 ∧ eqZ rs (xs.drop ks.length) (ys.drop ks.length) = some b2 ∧ b = (b1 && b2)
 | [], rs, xs, ys, b, h => ⟨true, b, rfl, by simpa using h, by simp⟩
 | k :: ks, rs, xs, ys, b, h => by
  cases xs with
  | nil => simp [eqZ] at h
  | cons x xs =>
   cases ys with
   | nil => simp [eqZ] at h
   | cons y ys =>
    simp only [List.cons_append, eqZ] at h
    cases h1 : eq1 k x y with
    | none => simp [h1] at h
    | some b1 =>
     cases h2 : eqZ (ks ++ rs) xs ys with
     | none => simp [h1, h2] at h
     | some b2 =>
      simp [h1, h2] at h
      obtain ⟨c1, c2, g1, g2, g3⟩ := eqZ_app ks rs xs ys b2 h2
      refine ⟨b1 && c1, c2, ?_, by simpa using g2, by rw [← h, g3, Bool.and_assoc]⟩
      simp only [List.length_cons, List.take_succ_cons, eqZ, h1, g1]
section
variable {P : Program}
theorem part_D {n : Nat} {T : TypeId} {ks : List Nat} (hk : kindsD P n T = some ks) (w : World) (cs : List Value) (off : Nat) (hl : off + ks.length ≤ cs.length) : (part T cs.toArray off).run P w = .ok (valD P T ((cs.drop off).take ks.length)) w := by
 cases n with
 | zero => simp [kindsD] at hk
 | succ n =>
  simp only [kindsD] at hk
  unfold valD
  cases hb : kindB P T with
  | some q =>
   simp only [hb] at hk
   cases ho : tyOneB P T with
   | false => simp [ho] at hk
   | true =>
    simp [ho] at hk
    subst hk
    simp only [List.length_singleton] at hl ⊢
    have hlt : off < cs.length := by omega
    rw [part_run w ho (v := cs[off]) (by simp [hlt])]
    congr 1
    rw [List.drop_eq_getElem_cons hlt]
    rfl
  | none =>
   simp only [hb] at hk
   cases hu : P.underlying T with
   | none => simp [hu] at hk
   | some D =>
    cases D <;> simp [hu] at hk
    rename_i fs
    cases hf : fieldsD P (kindsD P n) 0 fs.toList with
    | none => simp [hf] at hk
    | some ks' =>
     simp only [hf] at hk
     cases ha : !(P.stoodInHeld T) && tyAggB P T ks'.length with
     | false => simp [ha] at hk
     | true =>
      simp [ha] at hk
      subst hk
      simp only [Bool.and_eq_true] at ha
      simp only [part, Sem.run_bind, isAgg_agg w ha.2, Result.andThen_ok, if_true, size_agg w ha.2]
      simp [Sem.run_pure, List.extract_toArray, List.extract_eq_take_drop]
theorem eqFs_D (n : Nat) (IH : ∀ (T : TypeId) (ks : List Nat), kindsD P n T = some ks → ∀ (d : Nat) (w : World) (xs ys : List Value) (b : Bool), eqZ ks xs ys = some b → (Op.equalIn (n + d) T (valD P T xs) (valD P T ys)).run P w = .ok b w) : ∀ (fs : List Field) (k : Nat) (ks : List Nat), fieldsD P (kindsD P n) k fs = some ks → ∀ (d : Nat) (w : World) (xs ys : List Value) (b : Bool), eqZ ks (xs.drop k) (ys.drop k) = some b → xs.length = k + ks.length ∧ ys.length = k + ks.length →
  (Op.eqFields (n + d) xs.toArray ys.toArray fs).run P w = .ok b w
 | [], k, ks, hf, d, w, xs, ys, b, h, hl => by
  simp [fieldsD] at hf
  subst hf
  have e1 : xs.drop k = [] := List.drop_of_length_le (by simp at hl; omega)
  have e2 : ys.drop k = [] := List.drop_of_length_le (by simp at hl; omega)
  rw [e1, e2] at h
  simp [eqZ] at h
  subst h
  simp [Op.eqFields]
 | f :: fs, k, ks, hf, d, w, xs, ys, b, h, hl => by
  simp only [fieldsD] at hf
  cases hc : ((f.name != "_") && Nat.beq f.offset k) with
  | false => simp [hc] at hf
  | true =>
   simp only [hc] at hf
   simp only [Bool.and_eq_true] at hc
   have ho := Nat.eq_of_beq_eq_true hc.2
   have hn' : f.name ≠ "_" := by simpa using hc.1
   cases hk : kindsD P n f.type with
   | none => simp [hk] at hf
   | some q =>
    simp only [hk] at hf
    cases hr : fieldsD P (kindsD P n) (k + q.length) fs with
    | none => simp [hr] at hf
    | some r =>
     simp [hr] at hf
     subst hf
     simp only [List.length_append] at hl
     obtain ⟨b1, b2, g1, g2, g3⟩ := eqZ_app q r _ _ b h
     have h1 := IH f.type q hk d w _ _ b1 g1
     rw [List.drop_drop, List.drop_drop] at g2
     have h2 := eqFs_D n IH fs (k + q.length) r hr d w xs ys b2 g2 (by omega)
     simp only [Op.eqFields, if_pos hn', Sem.run_bind, ho]
     rw [part_D hk w xs k (by omega), Result.andThen_ok, part_D hk w ys k (by omega), Result.andThen_ok, h1, Result.andThen_ok]
     subst g3
     cases b1 with
     | true => simpa using h2
     | false => simp
theorem eqIn_D : ∀ (n : Nat) (T : TypeId) (ks : List Nat), kindsD P n T = some ks → ∀ (d : Nat) (w : World) (xs ys : List Value) (b : Bool), eqZ ks xs ys = some b → (Op.equalIn (n + d) T (valD P T xs) (valD P T ys)).run P w = .ok b w
 | 0, T, ks, hk, d, w, xs, ys, b, h => by simp [kindsD] at hk
 | n + 1, T, ks, hk, d, w, xs, ys, b, h => by
  have hl := eqZ_len _ _ _ _ h
  simp only [kindsD] at hk
  unfold valD
  rw [show n + 1 + d = (n + d) + 1 by omega]
  cases hb : kindB P T with
  | some q =>
   simp only [hb] at hk
   cases ho : tyOneB P T with
   | false => simp [ho] at hk
   | true =>
    simp [ho] at hk
    subst hk
    match xs, ys, hl with
    | [x], [y], _ =>
     simp only [eqZ] at h
     cases h1 : eq1 q x y with
     | none => simp [h1] at h
     | some b1 =>
      simp [h1] at h
      subst h
      exact eq1_run w hb h1
  | none =>
   simp only [hb] at hk
   cases hu : P.underlying T with
   | none => simp [hu] at hk
   | some D =>
    cases D <;> simp [hu] at hk
    rename_i fs
    cases hf : fieldsD P (kindsD P n) 0 fs.toList with
    | none => simp [hf] at hk
    | some ks' =>
     simp only [hf] at hk
     cases ha : !(P.stoodInHeld T) && tyAggB P T ks'.length with
     | false => simp [ha] at hk
     | true =>
      simp [ha] at hk
      subst hk
      simp only [Bool.and_eq_true, Bool.not_eq_true'] at ha
      have hfo : P.fieldsOf T = fs := by simp [Program.fieldsOf, hu]
      rw [run_equalIn_struct w (n + d) T _ _ (by rw [hfo]; exact hu) ha.1, hfo]
      exact eqFs_D n (eqIn_D n) fs.toList 0 ks' hf d w xs ys b (by simpa using h) (by simpa using hl)
end
theorem chk_one {P : Program} {T q : Nat} (hb : kindB P T = some q) (e : Bool) (n : Nat) (v : Value) (w : World) : (Instr.checkKey e (n + 1) T v).run P w = .ok () w := by
 unfold kindB at hb
 cases hu : P.underlying T with
 | none => simp [hu] at hb
 | some D =>
  unfold Instr.checkKey
  simp only [Sem.run_bind, run_underlying hu, Result.andThen_ok]
  cases D <;> simp [hu] at hb <;> simp
theorem chk_D {P : Program} : ∀ (n : Nat) (T : TypeId) (ks : List Nat), kindsD P n T = some ks → ∀ (e : Bool) (d : Nat) (w : World) (xs : List Value), xs.length = ks.length → (Instr.checkKey e (n + d) T (valD P T xs)).run P w = .ok () w
 | 0, T, ks, hk, e, d, w, xs, hl => by simp [kindsD] at hk
 | n + 1, T, ks, hk, e, d, w, xs, hl => by
  simp only [kindsD] at hk
  rw [show n + 1 + d = (n + d) + 1 by omega]
  cases hb : kindB P T with
  | some q => exact chk_one hb e _ _ w
  | none =>
   unfold valD
   simp only [hb] at hk ⊢
   cases hu : P.underlying T with
   | none => simp [hu] at hk
   | some D =>
    cases D <;> simp [hu] at hk
    rename_i fs
    cases hf : fieldsD P (kindsD P n) 0 fs.toList with
    | none => simp [hf] at hk
    | some ks' =>
     simp only [hf] at hk
     cases ha : !(P.stoodInHeld T) && tyAggB P T ks'.length with
     | false => simp [ha] at hk
     | true =>
      simp [ha] at hk
      subst hk
      unfold Instr.checkKey
      simp only [Sem.run_bind, run_underlying hu, Result.andThen_ok]
      have key : ∀ (l : List Field) (k : Nat) (r : List Nat), fieldsD P (kindsD P n) k l = some r → xs.length = k + r.length →
        (forIn l PUnit.unit fun f _ => if f.name ≠ "_" then (do Instr.checkKey e (n + d) f.type (← part f.type xs.toArray f.offset); pure (ForInStep.yield PUnit.unit)) else pure (ForInStep.yield PUnit.unit) : Sem PUnit).run P w = .ok PUnit.unit w := by
       intro l
       induction l with
       | nil => intro k r _ _; simp
       | cons f l ih =>
        intro k r hr hlr
        simp only [fieldsD] at hr
        cases hc : ((f.name != "_") && Nat.beq f.offset k) with
        | false => simp [hc] at hr
        | true =>
         simp only [hc] at hr
         simp only [Bool.and_eq_true] at hc
         have ho := Nat.eq_of_beq_eq_true hc.2
         have hn' : f.name ≠ "_" := by simpa using hc.1
         cases hk1 : kindsD P n f.type with
         | none => simp [hk1] at hr
         | some q =>
          simp only [hk1] at hr
          cases hr1 : fieldsD P (kindsD P n) (k + q.length) l with
          | none => simp [hr1] at hr
          | some r1 =>
           simp [hr1] at hr
           subst hr
           simp only [List.length_append] at hlr
           have h1 := chk_D n f.type q hk1 e d w ((xs.drop k).take q.length) (by simp; omega)
           have h2 := ih (k + q.length) r1 hr1 (by omega)
           simp only [List.forIn_cons, Sem.run_bind, if_pos hn', ho]
           rw [part_D hk1 w xs k (by omega), Result.andThen_ok, h1, Result.andThen_ok]
           simpa using h2
      rw [← Array.forIn_toList]
      rw [key fs.toList 0 ks' hf (by omega), Result.andThen_ok]
      rfl
theorem same_ints (n : Nat) (l : List Value) (h : ∀ v ∈ l, ∃ q z, v = .int q z) : Instr.sameBits (n + 1) (.agg l.toArray) (.agg l.toArray) = true := by
 simp only [Instr.sameBits, beq_self_eq_true, Bool.true_and, List.all_eq_true]
 rintro ⟨x, y⟩ hp
 have h2 : x = y ∧ x ∈ l := by
  obtain ⟨i, hi⟩ := List.getElem?_of_mem hp
  rw [List.getElem?_zip_eq_some] at hi
  exact ⟨Option.some.inj (hi.1.symm.trans hi.2), List.mem_of_getElem? hi.1⟩
 obtain ⟨rfl, hm⟩ := h2
 obtain ⟨q, z, rfl⟩ := h _ hm
 show Instr.sameBits n (.int q z) (.int q z) = true
 unfold Instr.sameBits
 simp
theorem KeyOf.deep {P : Program} {Kt n : Nat} {κ : Type} [DecidableEq κ] {cells : κ → List Value} {ks : List Nat} (hk : kindsD P n Kt = some ks) (hn : n ≤ 10000) (hb : kindB P Kt = none) (hl : ∀ k, (cells k).length = ks.length)
  (he : ∀ a b, eqZ ks (cells a) (cells b) = some (decide (a = b))) (hi : ∀ k, ∀ v ∈ cells k, ∃ q z, v = .int q z) (hs : (match P.underlying Kt with | some (.struct _) => true | _ => false) = true) : KeyOf P Kt (fun k => Value.agg (cells k).toArray) where
 chk e k w := by
  have := chk_D n Kt ks hk e (10000 - n) w (cells k) (hl k)
  unfold valD at this
  rw [hb, show n + (10000 - n) = 10000 by omega] at this
  exact this
 fnd ve k es l h w := by
  cases hu : P.underlying Kt with
  | none => simp [hu] at hs
  | some D =>
   cases D <;> simp [hu] at hs
   rename_i fs
   have ask : ∀ (es : List MapEntry) (l : List (κ × _)) (i : Nat), entsL es = l.map (fun x => (Value.agg (cells x.1).toArray, ve x.2)) → (Instr.findAsking Kt (.agg (cells k).toArray) es i).run P w = .ok ((ixL k l).map fun y => (i + y.1, ve y.2)) w := by
    intro es
    induction es with
    | nil =>
     intro l i h
     cases l with
     | nil => rfl
     | cons x l => simp [entsL] at h
    | cons e es ih =>
     intro l i h
     cases l with
     | nil => simp [entsL] at h
     | cons x l =>
      simp only [entsL, List.map_cons, List.cons.injEq, Prod.mk.injEq] at h
      obtain ⟨⟨h1, h2⟩, h3⟩ := h
      have h4 := eqIn_D n Kt ks hk (10000 - n) w _ _ _ (he k x.1)
      unfold valD at h4
      rw [hb, show n + (10000 - n) = 10000 by omega] at h4
      have h5 : (Op.equal Kt (.agg (cells k).toArray) (.agg (cells x.1).toArray)).run P w = .ok (decide (k = x.1)) w := h4
      unfold ixL
      simp only [Instr.findAsking, Sem.run_bind, h1, h5, Result.andThen_ok]
      by_cases hkx : k = x.1
      ·rw [if_pos hkx, decide_eq_true hkx]
       simp [h2]
      ·rw [if_neg hkx, decide_eq_false hkx]
       have := ih l (i + 1) h3
       simp only [Bool.false_eq_true, if_false, this]
       cases ixL k l with
       | none => rfl
       | some y => simp; omega
   have hask := ask es l 0 h
   have hz : (ixL k l).map (fun y => (0 + y.1, ve y.2)) = (ixL k l).map fun y => (y.1, ve y.2) := by cases ixL k l <;> simp
   rw [hz] at hask
   cases es with
   | nil =>
    cases l with
    | nil => simp [Instr.findKey, Sem.run_bind, run_underlying hu, Instr.findNow, ixL]
    | cons x l => simp [entsL] at h
   | cons e es =>
    have hsn : Instr.sameNow (.struct fs) (.agg (cells k).toArray) e.key = none := by cases e.key <;> rfl
    simp only [Instr.findKey, Sem.run_bind, run_underlying hu, Result.andThen_ok, Instr.findNow, hsn]
    exact hask
 bits k := same_ints 9999 _ (hi k)
section
variable {m : Md} {P : Program} {N : Nat} {w0 : World} {S0 : Foot} {ops : List Oper} {i : Nat} {lq : List Nat} {env : Env} {ro rw : List SL} {K : Act → World → Prop} {d : Nat} {ty : TypeId} {pos : String} {aft : Array Edge} {g : Option (Nat × Bool)}
end
end Go.Proofs.YteeogabkkblkgaaGreatDoor
namespace Go.Proofs.YteeogabkkblkgaaGreatDoor
set_option linter.unusedVariables false
set_option linter.unusedSimpArgs false
open Go.RowKit
section
variable {m : Md} {P : Program} {N : Nat} {w0 : World} {S0 : Foot} {ops : List Oper} {i : Nat} {lq : List Nat} {env : Env} {ro rw : List SL} {K : Act → World → Prop} {d : Nat} {ty : TypeId} {pos : String} {aft : Array Edge} {g : Option (Nat × Bool)}
end
end Go.Proofs.YteeogabkkblkgaaGreatDoor
namespace Go.Proofs.YteeogabkkblkgaaGreatDoor
set_option linter.unusedVariables false
set_option linter.unusedSimpArgs false
open Go.RowKit
section
variable {m : Md} {P : Program} {N : Nat} {w0 : World} {S0 : Foot} {ops : List Oper} {i : Nat} {lq : List Nat} {env : Env} {ro rw : List SL} {K : Act → World → Prop} {d : Nat} {ty : TypeId} {pos : String} {aft : Array Edge} {g : Option (Nat × Bool)}
theorem HO_ixa {T n e b j by_ : Nat} {x y : Operand} {k : IntKind} {q : Int} [hT : TyArr P T n e] [hI : TyInfo P e 1 by_] (ho : ops[i]? = some ⟨some d, .indexAddr T x y, ty, pos, aft, g⟩)
  (hx : Env.ev env x = some (.pointer (some ⟨b, 0, none⟩))) (hy : Env.ev env y = some (.int k q)) (hj : q = (j : Int)) (hn : j < n)
  (hw : wantE ops env g = some true) (hN : Nat.blt d N = true) (hr : rdyB m ops i lq = true)
  (h : HO m P N w0 S0 ops lq ((d, .pointer (some ⟨b, j, none⟩)) :: env) ro rw K) : HO m P N w0 S0 ops (i :: lq) env ro rw K := by
 refine HO_val ho hw rfl hN hr (fun a w ha hf => ?_) h
 subst hj
 have hI := hI.h
 cases hin : P.info? e with
 | none => simp [hin] at hI
 | some inf =>
  simp [hin] at hI
  have hlt : ((j : Int) < (n : Int)) := by omega
  have hadd : (Addr.add ⟨b, 0, none⟩ j) = (⟨b, j, none⟩ : Addr) := by
   unfold Addr.add
   by_cases h0 : j = 0
   ·subst h0; rfl
   ·rw [if_neg h0]; simp
  simp [execOp, Instr.indexAt, Sem.run_bind, run_underlying hT.h, asIntOf, ha.ev hx, ha.ev hy, hlt, run_sizeOf w hin, Program.cellsOf, hin, hI.1, Instr.sureAddr, hadd]
  intro hbad
  omega
theorem HO_ldg {T gb j : Nat} {x : Operand} {cs : Array Value} {v : Value} [hO : TyOne P T] (ho : ops[i]? = some ⟨some d, .load T x, ty, pos, aft, g⟩)
  (hx : Env.ev env x = some (.pointer (some ⟨gb, j, none⟩))) (hm : glbs gb cs ∈ ro) (hv : cs[j]? = some v)
  (hw : wantE ops env g = some true) (hN : Nat.blt d N = true) (hr : rdyB m ops i lq = true)
  (h : HO m P N w0 S0 ops lq ((d, v) :: env) ro rw K) : HO m P N w0 S0 ops (i :: lq) env ro rw K := by
 refine HO_val ho hw rfl hN hr (fun a w ha hf => ?_) h
 obtain ⟨F, _, _, T', fz, hp⟩ := hf (glbs gb cs) (seeL_ro hm)
 have hc : w.cell? ⟨gb, j, none⟩ = some v := by simp [World.cell?, hp, hv]
 simp [execOp, Instr.loadAt, Instr.sureAddr, ha.ev hx, Sem.run_bind, run_loadVar_one w hO.h hc]
end
end Go.Proofs.YteeogabkkblkgaaGreatDoor
namespace Go.Proofs.YteeogabkkblkgaaGreatDoor
set_option linter.unusedVariables false
set_option linter.unusedSimpArgs false
open Go.RowKit
section
variable {m : Md} {P : Program} {N : Nat} {w0 : World} {S0 : Foot} {ops : List Oper} {i : Nat} {lq : List Nat} {env : Env} {ro rw : List SL} {K : Act → World → Prop} {d : Nat} {ty : TypeId} {pos : String} {aft : Array Edge} {g : Option (Nat × Bool)}
def pullN (q : Nat) : List Nat → Option (List Nat)
 | [] => none
 | x :: l => match Nat.beq x q with
  | true => some l
  | false => match pullN q l with
   | some r => some (x :: r)
   | none => none
@[reducible] def pickOk (ops : List Oper) (l : List Nat) (q : Nat) (l' : List Nat) : Prop := (dlist ops (q :: l')).toList = (dlist ops l).toList ∧ memN q l' = false ∧ l'.length + 1 = l.length
theorem HO_many {ro0 : List SL} {l R : List Nat} (hr : Region.ready .any ops.toArray (dlist ops l) = R) (hne : R.isEmpty = false)
  (h : ∀ q ∈ R, ∃ l', pickOk ops l q l' ∧ HO (.pick ro0) P N w0 S0 ops (q :: l') env ro rw K) : HO (.lex ro0) P N w0 S0 ops l env ro rw K := by
 intro held hro a S w ha hf
 obtain ⟨q0, hq0⟩ : ∃ q, q ∈ R := by
  cases R with
  | nil => cases hne
  | cons q R => exact ⟨q, List.mem_cons_self⟩
 obtain ⟨l0, ⟨_, _, k0⟩, _⟩ := h q0 hq0
 rw [← k0]
 refine ⟨fun _ e he => ?_, fun hnil => ?_, fun q hq => ?_⟩
 ·rw [hro] at he
  exact hf.see (by simp only [List.mem_append] at he ⊢; rcases he with he | he <;> simp [he])
 ·rw [hr] at hnil
  subst hnil
  cases hne
 ·rw [hr] at hq
  obtain ⟨l', ⟨e1, n1, k1⟩, g1⟩ := h q hq
  have e1' : dlist ops (q :: l') = dlist ops l := Array.ext' e1
  rw [← e1', dlist_set n1]
  have : l0.length = l'.length := by omega
  rw [this]
  exact g1 held hro a S w ha hf
theorem HO_2p {ro0 : List SL} {l l1 l2 : List Nat} (i1 i2 : Nat) (hr : Region.ready .any ops.toArray (dlist ops l) = [i1, i2]) (p1 : pullN i1 l = some l1) (p2 : pullN i2 l = some l2) (ok : pickOk ops l i1 l1 ∧ pickOk ops l i2 l2)
  (g1 : HO (.pick ro0) P N w0 S0 ops (i1 :: l1) env ro rw K) (g2 : HO (.pick ro0) P N w0 S0 ops (i2 :: l2) env ro rw K) : HO (.lex ro0) P N w0 S0 ops l env ro rw K :=
 HO_many hr rfl fun q hq => by
  simp only [List.mem_cons, List.not_mem_nil, or_false] at hq
  rcases hq with rfl | rfl
  ·exact ⟨l1, ok.1, g1⟩
  ·exact ⟨l2, ok.2, g2⟩
theorem HO_3p {ro0 : List SL} {l l1 l2 l3 : List Nat} (i1 i2 i3 : Nat) (hr : Region.ready .any ops.toArray (dlist ops l) = [i1, i2, i3]) (p1 : pullN i1 l = some l1) (p2 : pullN i2 l = some l2) (p3 : pullN i3 l = some l3) (ok : pickOk ops l i1 l1 ∧ pickOk ops l i2 l2 ∧ pickOk ops l i3 l3)
  (g1 : HO (.pick ro0) P N w0 S0 ops (i1 :: l1) env ro rw K) (g2 : HO (.pick ro0) P N w0 S0 ops (i2 :: l2) env ro rw K) (g3 : HO (.pick ro0) P N w0 S0 ops (i3 :: l3) env ro rw K) : HO (.lex ro0) P N w0 S0 ops l env ro rw K :=
 HO_many hr rfl fun q hq => by
  simp only [List.mem_cons, List.not_mem_nil, or_false] at hq
  rcases hq with rfl | rfl | rfl
  ·exact ⟨l1, ok.1, g1⟩
  ·exact ⟨l2, ok.2.1, g2⟩
  ·exact ⟨l3, ok.2.2, g3⟩
theorem HO_names {ro0 : List SL} {l l' : List Nat} (h1 : (dlist ops l').toList = (dlist ops l).toList ∧ l'.length = l.length) (h : HO (.lex ro0) P N w0 S0 ops l' env ro rw K) : HO (.lex ro0) P N w0 S0 ops l env ro rw K := by
 intro held hro a S w ha hf
 have := h held hro a S w ha hf
 rw [Array.ext' h1.1, h1.2] at this
 exact this
theorem HO_loT {x : Operand} {T b off k U n : Nat} {ag : Bool} {v : Value} {l cs : List Value} [hT : TyKind P T ag n] (ho : ops[i]? = some ⟨some d, .load T x, ty, pos, aft, g⟩) (hx : Env.ev env x = some (.pointer (some ⟨b, off, none⟩)))
  [hk : CelAt rw b k U cs] (hv : subL cs off n = some l) (hl : valOf ag l = some v) (hw : wantE ops env g = some true) (hN : Nat.blt d N = true) (hs : soleB m ops i lq = true)
  (h : HO (nmM m) P N w0 S0 ops lq ((d, v) :: env) ro rw K) : HO m P N w0 S0 ops (i :: lq) env ro rw K := by
 refine HO_act_ex (α := Unit) (φ := fun _ => True) (v := fun _ => v) (rw' := fun _ => rw) ho hw rfl hN hs (fun w1 S1 a S w ha hf => ?_) (fun _ _ => h)
 obtain ⟨F, _, hp⟩ := hf.see (e := cel b U cs) (List.mem_append.2 (.inr (List.mem_of_getElem? hk.h)))
 exact ⟨(), S, w, trivial, by simp [execOp, Instr.loadAt, Instr.sureAddr, ha.ev hx, Sem.run_bind, loadVar_kind hT hp hv hl], hf⟩
end
def exP {β : Type} (φ : β → Prop) (f : β → List SL) : SL where
 p S w := ∃ x, φ x ∧ Star (f x) S w
 st S w w' h := fun ⟨x, hp, hx⟩ => ⟨x, hp, hx.st h⟩
theorem Keeps.close {β : Type} {φ : β → Prop} {f : β → List SL} {rw rw' : List SL} (x : β) (hx : φ x) (h : Keeps rw (f x ++ rw')) : Keeps rw (exP φ f :: rw') := fun S w hs => by
 obtain ⟨T, h1, h2⟩ := h S w hs
 obtain ⟨A, B, hA, hB, hd, ha, hb⟩ := Star.split h2
 exact ⟨T, h1, A, B, hA, hB, hd, ⟨x, hx, ha⟩, hb⟩
section
variable {P : Program} {N : Nat} {w0 : World} {S0 : Foot} {c : Code} {env : Env} {ro rw rw' : List SL} {Q : Exit → Act → World → Prop} {β : Type} {φ : β → Prop} {f : β → List SL}
theorem HQ_open {K : Act → World → Prop} (h : ∀ x, φ x → HQ N w0 S0 env ro (f x ++ rw) K) : HQ N w0 S0 env ro (exP φ f :: rw) K := fun a S w ha hf => by
 obtain ⟨A, B, hA, hB, hd, ⟨x, hx, hp⟩, hs⟩ := hf.star
 exact h x hx a S w ha ⟨hf.fr, hf.lt, hf.sub, Star.append hA hB hd hp hs, hf.ros⟩
theorem HQ_keepsK {K : Act → World → Prop} (hk : Keeps rw rw') (h : HQ N w0 S0 env ro rw' K) : HQ N w0 S0 env ro rw K := fun a S w ha hf => by
 obtain ⟨T, hT⟩ := hf.keeps hk
 exact h a T w ha hT
theorem HC_open (k : Nat) (hk : rw[k]? = some (exP φ f)) (hr : eraseO rw k = some rw') (h : ∀ x, φ x → HC P N w0 S0 c env ro (f x ++ rw') Q) : HC P N w0 S0 c env ro rw Q :=
 HQ_keepsK (Keeps.pick k hk hr Keeps.refl) (HQ_open h)
end
theorem Tri_open {P : Program} {g : Nat} {args : List Value} {ro rw : List SL} {β : Type} {ψ : β → Prop} {f : β → List SL} {α : Type} {φ : α → Prop} {val : α → Value} {es : α → List SL}
  (h : ∀ x, ψ x → Tri P g args ro (f x ++ rw) φ val es) : Tri P g args ro (exP ψ f :: rw) φ val es := by
 unfold Tri at h ⊢
 intro w S hf
 obtain ⟨A, B, hA, hB, hd, ⟨x, hx, hp⟩, hs⟩ := hf.star
 exact h x hx w S ⟨hf.fr, hf.lt, hf.sub, Star.append hA hB hd hp hs, hf.ros⟩
theorem Tri_keeps {P : Program} {g : Nat} {args : List Value} {ro rw rw' : List SL} {α : Type} {φ : α → Prop} {val : α → Value} {es : α → List SL} (hk : Keeps rw rw') (h : Tri P g args ro rw' φ val es) : Tri P g args ro rw φ val es := by
 unfold Tri at h ⊢
 intro w S hf
 obtain ⟨T, hT1, hT2⟩ := hk S w hf.star
 have hf2 : Fits w T ro rw' T w := ⟨Fr.refl _ _, fun b hb => hf.lt b (hT1 b hb), fun b hb => .inl hb, hT2, fun e he => by
  obtain ⟨F, hF, hp⟩ := hf.ros e he
  exact ⟨F, fun b hb => ⟨(hF b hb).1, fun hc => (hF b hb).2 (hT1 b hc)⟩, hp⟩⟩
 exact (h w T hf2).mono fun e w' ⟨x, U, hx, he, hfx⟩ => ⟨x, U, hx, he, ⟨hfx.fr.os, hfx.fr.tape, hfx.fr.output, hfx.fr.size, fun b hb hn => hfx.fr.block b hb (fun h => hn (hT1 b h))⟩, hfx.lt, fun b hb => (hfx.sub b hb).imp (hT1 b) id, hfx.star, hfx.ros⟩
section
variable {m : Md} {P : Program} {N : Nat} {w0 : World} {S0 : Foot} {ops : List Oper} {i : Nat} {lq : List Nat} {env : Env} {ro rw : List SL} {K : Act → World → Prop} {ty : TypeId} {pos : String} {aft : Array Edge} {g : Option (Nat × Bool)}
theorem HO_callP [hm : NoQ m] {f : Operand} {args : List Operand} {tys : Array TypeId} {d : Nat} {vf : Value} {vs cap : List Value} {gn : Nat} [hf : FnOk P gn] {roC rwC rest : List SL} {α : Type} {φ : α → Prop} {val : α → Value} {es : α → List SL}
  (ho : ops[i]? = some ⟨some d, .call { callee := .value f, args := args.toArray, argTypes := tys }, ty, pos, aft, g⟩)
  (hvf : Env.ev env f = some vf) (hc : calE vf = some (gn, cap)) (hvs : evL env args = some vs)
  (hT : Tri P gn (vs ++ cap) roC rwC φ val es) (hk : Keeps rw (rwC ++ rest)) (hro : AllSrc (ro ++ rest) roC)
  (hw : wantE ops env g = some true) (hN : Nat.blt d N = true) (hs : soleB m ops i lq = true)
  (h : ∀ x, φ x → HO (nmM m) P N w0 S0 ops lq ((d, val x) :: env) ro (es x ++ rest) K) : HO m P N w0 S0 ops (i :: lq) env ro rw K :=
 HO_keeps hk (HO_call ho hvf hc hvs hT rfl hro hw hN hs h)
end
theorem findA {rw rwC rest : List SL} (h : Keeps rw (rwC ++ rest) := by repeat (first | exact Keeps.refl | refine Keeps.pick 0 rfl rfl ?_ | refine Keeps.pick 1 rfl rfl ?_ | refine Keeps.pick 2 rfl rfl ?_ | refine Keeps.pick 3 rfl rfl ?_ | refine Keeps.pick 4 rfl rfl ?_ | refine Keeps.pick 5 rfl rfl ?_ | refine Keeps.pick 6 rfl rfl ?_ | refine Keeps.pick 7 rfl rfl ?_ | refine Keeps.pick 8 rfl rfl ?_ | refine Keeps.pick 9 rfl rfl ?_ | refine Keeps.pick 10 rfl rfl ?_ | refine Keeps.pick 11 rfl rfl ?_ | refine Keeps.pick 12 rfl rfl ?_ | refine Keeps.pick 13 rfl rfl ?_ | refine Keeps.pick 14 rfl rfl ?_ | refine Keeps.pick 15 rfl rfl ?_)) : Keeps rw (rwC ++ rest) := h
theorem HO_holdA {P : Program} {N : Nat} {w0 : World} {S0 : Foot} {ops : List Oper} {env : Env} {ro rw rw' : List SL} {K : Act → World → Prop} {ro0 : List SL} {l : List Nat} (k : Nat) {e : SL} (hk : rw[k]? = some e) (hr : eraseO rw k = some rw') (h : HO (.lex ro0) P N w0 S0 ops l env (e :: ro) rw' K) : HO (.lex ro0) P N w0 S0 ops l env ro rw K := by
 have e := eraseO_eq hr
 subst e
 exact HO_hold hk h
theorem HO_knowO {P : Program} {N : Nat} {w0 : World} {S0 : Foot} {ops : List Oper} {l : List Nat} {env : Env} {ro rw : List SL} {C : Prop} {K : Act → World → Prop} (hC : ∀ w, RoOk (ro ++ rw) w → C) (h : C → HO .ord P N w0 S0 ops l env ro rw K) : HO .ord P N w0 S0 ops l env ro rw K :=
 fun a S w ha hf => h (hC w hf.roOk) a S w ha hf
theorem S5n {p q : Prop} (hq : q) (h : q → p := by
 intro hq
 first
 | exact HX_then hq
 | exact HC_seq rfl hq
 | exact HC_ord rfl rfl rfl rfl hq
 | exact HC_block rfl hq
 | exact HC_skip rfl hq
 | exact HC_exit rfl hq
 | exact HC_ret rfl hq
 | exact HC_condT rfl rfl hq
 | exact HC_condF rfl rfl hq
 | exact HX_block_normal hq
 | exact HX_block_ret hq
 | exact HX_then_ret hq
 | exact HX_then_exit hq
 | exact HX_block_hit rfl hq
 | exact HX_block_miss rfl hq) : p := h hq
end Go.Proofs.YteeogabkkblkgaaGreatDoor
