/- The symbolic walk: slices (what they read as; rows of the call's own), structs that are built, conversions, lengths. -/
import Derived.Test.YtdeeokkkcfkbjaaDoorEng4
namespace Go.Proofs.YtdeeokkkcfkbjaaDoor
set_option linter.unusedVariables false
set_option linter.unusedSimpArgs false
open Go.RowKit

class TyFields (P : Program) (T : Nat) (fs : outParam (List (Nat × Nat))) : Prop where
  h : (match P.underlying T with
    | some (.struct l) => l.toList.mapM fun f => (P.info? f.type).map fun i => (f.offset, i.size)
    | _ => none) = some fs
class TyArr (P : Program) (T : Nat) (n e : outParam Nat) : Prop where h : P.underlying T = some (.array n e)
class TyMap (P : Program) (T : Nat) (k e : outParam Nat) : Prop where h : P.underlying T = some (.map k e)
class TyIface (P : Program) (T : Nat) : Prop where h : (match P.underlying T with | some (.interface _) => true | _ => false) = true
class TyInfo (P : Program) (T : Nat) (cells bytes : outParam Nat) : Prop where h : (P.info? T).map (fun i => (i.size, i.bytes)) = some (cells, bytes)

/-! ## values by the walk: structs, numbers -/
def lenE : Value → Option Nat
  | .slice _ n _ => some n
  | _ => none

section
variable {m : Md} {P : Program} {N : Nat} {w0 : World} {S0 : Foot} {ops : List Oper} {i : Nat} {lq : List Nat} {env : Env} {ro rw : List SL} {K : Act → World → Prop} {d : Nat} {op : Op} {ty : TypeId} {pos : String} {aft : Array Edge} {g : Option (Nat × Bool)}

def partsE (env : Env) : List (Nat × Operand) → Option (List (Nat × Value))
  | [] => some []
  | (i, x) :: l => match Env.ev env x with
    | some v => match partsE env l with
      | some r => some ((i, v) :: r)
      | none => none
    | none => none
theorem partsE_spec {a : Act} (ha : Agree N env a) : ∀ {l : List (Nat × Operand)} {r : List (Nat × Value)}, partsE env l = some r → l.map (fun p => (p.1, a.eval p.2)) = r
  | [], r, h => by simp [partsE] at h; simp [h]
  | (i, x) :: l, r, h => by
    simp only [partsE] at h
    cases hx : Env.ev env x with
    | none => simp [hx] at h
    | some v =>
      cases hl : partsE env l with
      | none => simp [hx, hl] at h
      | some q =>
        simp [hx, hl] at h
        subst h
        simp [ha.ev hx, partsE_spec ha hl]

def cellsL : Value → List Value
  | .agg cs => cs.toList
  | v => [v]
theorem cellsL_eq (v : Value) : v.cells = (cellsL v).toArray := by cases v <;> simp [Value.cells, cellsL]

theorem putL_fold : ∀ (vs : List Value) (cs : List Value) (off k : Nat) (l : List Value), putL cs (off + k) vs = some l →
    (vs.zipIdx k).foldl (fun (cs : Array Value) (p : Value × Nat) => cs.setIfInBounds (off + p.2) p.1) cs.toArray = l.toArray ∧ (vs ≠ [] → off + k + vs.length ≤ cs.length)
  | [], cs, off, k, l, h => by
    simp [putL] at h
    subst h
    exact ⟨rfl, fun h => absurd rfl h⟩
  | v :: vs, cs, off, k, l, h => by
    obtain ⟨h1, h2⟩ := putL_cons _ _ _ _ _ h
    obtain ⟨h3, h4⟩ := putL_fold vs (cs.set (off + k) v) off (k + 1) l (by rw [← Nat.add_assoc]; exact h2)
    simp only [List.zipIdx_cons, List.foldl_cons, List.setIfInBounds_toArray]
    refine ⟨h3, fun _ => ?_⟩
    cases vs with
    | nil => simp; omega
    | cons u us => have := h4 (by simp); simp at this ⊢; omega

/-- the parts laid into their places, written out -/
def fillE (place : Nat → Option (Nat × Nat)) : List Value → List (Nat × Value) → Option (List Value)
  | cs, [] => some cs
  | cs, (i, v) :: rest => match place i with
    | none => none
    | some (off, size) => match Nat.beq (cellsL v).length size with
      | false => none
      | true => match Nat.blt 0 size with
        | false => none
        | true => match putL cs off (cellsL v) with
          | none => none
          | some cs' => fillE place cs' rest
theorem fillE_spec {place : Nat → Option (Nat × Nat)} : ∀ (parts : List (Nat × Value)) (cs l : List Value), fillE place cs parts = some l → Instr.fill place cs.toArray parts = some l.toArray
  | [], cs, l, h => by simp [fillE] at h; subst h; rfl
  | (i, v) :: rest, cs, l, h => by
    simp only [fillE] at h
    cases hp : place i with
    | none => simp [hp] at h
    | some q =>
      obtain ⟨off, size⟩ := q
      simp only [hp] at h
      cases hb : Nat.beq (cellsL v).length size with
      | false => simp [hb] at h
      | true =>
        simp only [hb] at h
        cases hb0 : Nat.blt 0 size with
        | false => simp [hb0] at h
        | true =>
          simp only [hb0] at h
          cases hq : putL cs off (cellsL v) with
          | none => simp [hq] at h
          | some cs' =>
            simp only [hq] at h
            have e1 := Nat.eq_of_beq_eq_true hb
            have e0 : 0 < size := by simpa [Nat.blt_eq] using hb0
            obtain ⟨h3, h4⟩ := putL_fold (cellsL v) cs off 0 cs' (by simpa using hq)
            have hsz : v.cells.size = size := by rw [cellsL_eq]; simpa using e1
            unfold Instr.fill
            simp only [hp]
            have h4' := h4 (by intro e; rw [e] at e1; simp at e1; omega)
            rw [if_neg (by simp [hsz]; omega)]
            have : (v.cells.zipIdx.foldl (fun (cs : Array Value) (x : Value × Nat) => match x with | (c, j) => cs.setIfInBounds (off + j) c) cs.toArray) = cs'.toArray := by
              rw [← h3, cellsL_eq, ← Array.foldl_toList, Array.toList_zipIdx]
            rw [this]
            exact fillE_spec rest cs' l h

/-- a struct that is built -/
theorem HO_build {T : Nat} {fs : List (Nat × Nat)} {z : List Value} {l : List (Nat × Operand)} {parts : List (Nat × Value)} {cs : List Value} [hF : TyFields P T fs] [hz : TyZero P T (.agg z.toArray)]
    (ho : ops[i]? = some ⟨some d, .build T l.toArray, ty, pos, aft, g⟩) (hl : partsE env l = some parts) (hc : fillE (fs[·]?) z parts = some cs)
    (hw : wantE ops env g = some true) (hN : Nat.blt d N = true) (hr : rdyB m ops i lq = true)
    (h : HO m P N w0 S0 ops lq ((d, .agg cs.toArray) :: env) ro rw K) : HO m P N w0 S0 ops (i :: lq) env ro rw K := by
  refine HO_val ho hw rfl hN hr (fun a w ha hf => ?_) h
  have hp := partsE_spec ha hl
  have hm := fillE_spec _ _ _ hc
  have hb : P.built T parts = some cs.toArray := by
    have hF := hF.h
    have hz := hz.h
    unfold Program.built
    cases hin : P.info? T with
    | none => simp [hin] at hz
    | some it =>
      cases hu : P.underlying T with
      | none => simp [hu] at hF
      | some dd =>
        cases dd <;> simp [hu] at hF
        rename_i fl
        simp [hin] at hz
        simp only [hF, hz, List.getElem?_toArray, Value.cells]
        exact hm
  simp only [execOp, Sem.run_bind]
  have hmap : (l.toArray.map fun (x : Nat × Operand) => match x with | (i, x) => (i, a.eval x)) = parts.toArray := by
    rw [List.map_toArray, ← hp]
  rw [hmap, run_build w T parts.toArray cs.toArray (by simpa using hb)]
  simp

/-- int(x), uint32(x), .. of a number -/
theorem HO_conv {T U : Nat} {x : Operand} {k k' : IntKind} {n : Int} [hU : TyInt P U k] [hT : TyInt P T k'] (ho : ops[i]? = some ⟨some d, .convert T U x, ty, pos, aft, g⟩) (hx : Env.ev env x = some (.int k' n))
    (hw : wantE ops env g = some true) (hN : Nat.blt d N = true) (hr : rdyB m ops i lq = true)
    (h : HO m P N w0 S0 ops lq ((d, .int k (k.wrap n)) :: env) ro rw K) : HO m P N w0 S0 ops (i :: lq) env ro rw K := by
  refine HO_val ho hw rfl hN hr (fun a w ha hf => ?_) h
  simp [execOp, convert, Sem.run_bind, run_underlying hT.h, run_underlying hU.h, ha.ev hx, Conv.intToInt]

theorem HO_len {T e n : Nat} {x : Operand} {v : Value} [hT : TySlice P T e] (ho : ops[i]? = some ⟨some d, .call { callee := .builtin .len, args := #[x], argTypes := #[T] }, ty, pos, aft, g⟩)
    (hx : Env.ev env x = some v) (hv : lenE v = some n) (hw : wantE ops env g = some true) (hN : Nat.blt d N = true) (hr : rdyB m ops i lq = true)
    (h : HO m P N w0 S0 ops lq ((d, .int .i64 (n : Int)) :: env) ro rw K) : HO m P N w0 S0 ops (i :: lq) env ro rw K := by
  refine HO_val ho hw rfl hN hr (fun a w ha hf => ?_) h
  cases v <;> simp [lenE] at hv
  subst hv
  simp [execOp, resolve, invoke, builtin, Builtin.len_, Sem.run_bind, run_underlying hT.h, ha.ev hx, goInt]
theorem HO_lens {T : Nat} {x : Operand} {s : ByteArray} [hT : TyStr P T] (ho : ops[i]? = some ⟨some d, .call { callee := .builtin .len, args := #[x], argTypes := #[T] }, ty, pos, aft, g⟩)
    (hx : Env.ev env x = some (.string s)) (hw : wantE ops env g = some true) (hN : Nat.blt d N = true) (hr : rdyB m ops i lq = true)
    (h : HO m P N w0 S0 ops lq ((d, .int .i64 (s.size : Int)) :: env) ro rw K) : HO m P N w0 S0 ops (i :: lq) env ro rw K := by
  refine HO_val ho hw rfl hN hr (fun a w ha hf => ?_) h
  simp [execOp, resolve, invoke, builtin, Builtin.len_, Sem.run_bind, run_underlying hT.h, ha.ev hx, goInt]
theorem HO_min {x y : Operand} {k k' : IntKind} {p q : Int} {tys : Array TypeId} (ho : ops[i]? = some ⟨some d, .call { callee := .builtin .min, args := #[x, y], argTypes := tys }, ty, pos, aft, g⟩)
    (hx : Env.ev env x = some (.int k p)) (hy : Env.ev env y = some (.int k' q)) (hw : wantE ops env g = some true) (hN : Nat.blt d N = true) (hr : rdyB m ops i lq = true)
    (h : HO m P N w0 S0 ops lq ((d, .int k (if q < p then q else p)) :: env) ro rw K) : HO m P N w0 S0 ops (i :: lq) env ro rw K := by
  refine HO_val ho hw rfl hN hr (fun a w ha hf => ?_) h
  simp [execOp, resolve, invoke, builtin, Builtin.min_, Builtin.min2, Sem.run_bind, ha.ev hx, ha.ev hy]

/-- a function value that captures -/
theorem HO_func {fn : Fn} {first cap : List Operand} {f1 c1 : List Value} (ho : ops[i]? = some ⟨some d, .makeFunc fn first.toArray cap.toArray, ty, pos, aft, g⟩) (h1 : evL env first = some f1) (h2 : evL env cap = some c1)
    (hw : wantE ops env g = some true) (hN : Nat.blt d N = true) (hr : rdyB m ops i lq = true)
    (h : HO m P N w0 S0 ops lq ((d, .func fn f1.toArray c1.toArray) :: env) ro rw K) : HO m P N w0 S0 ops (i :: lq) env ro rw K := by
  refine HO_val ho hw rfl hN hr (fun a w ha hf => ?_) h
  simp [execOp, Instr.makeFunc, Sem.run_bind, evL_spec ha h1, evL_spec ha h2]
end

/-! ## what a slice reads as -/
section
variable {α : Type}

/-- a slice value that reads as the list l, each element by its cells -/
def arr (enc : α → List Value) (sz : Nat) (A : Option Addr) (l : List α) : SL where
  p S w := l ≠ [] → ∃ ad, A = some ad ∧ S ad.block ∧ ∀ q x, l[q]? = some x → ∀ k u, (enc x)[k]? = some u → w.cell? (ad.add (q * sz + k)) = some u
  st S w w' h hp := fun hl => by
    obtain ⟨ad, hA, hS, hc⟩ := hp hl
    exact ⟨ad, hA, hS, fun q x hq k u hk => by
      rw [World.cell?_of_block (w := w) (by rw [block_of_add]; exact h _ hS)]
      exact hc q x hq k u hk⟩

def eP (ad : Addr) (q sz off : Nat) : Addr := (ad.add (q * sz)).add off
theorem eP_eq (ad : Addr) (q sz off : Nat) : eP ad q sz off = ad.add (q * sz + off) := add_of_add _ _ _
theorem eP_add (ad : Addr) (q sz off o : Nat) : (eP ad q sz off).add o = eP ad q sz (off + o) := by unfold eP; rw [add_of_add]

/-- a row of the call's own -/
def own (enc : α → List Value) (T sz : Nat) (A : Option Addr) (n c : Nat) (l : List α) : SL where
  p S w := n = l.length ∧ w.ownsRow 0 T sz (.slice A n c) n (l.flatMap enc) ∧ ∀ ad, A = some ad → S ad.block
  st S w w' h hp := by
    obtain ⟨h1, ⟨h2, h3⟩, h4⟩ := hp
    refine ⟨h1, ⟨h2, ?_⟩, h4⟩
    rcases h3 with h3 | ⟨g, cap, cur, hv, hg, hh, r⟩
    · exact .inl h3
    · have hA : A = some ⟨g, 0, none⟩ := by injection hv
      exact .inr ⟨g, cap, cur, hv, hg, (h g (h4 _ hA)).trans hh, r⟩

theorem flatMap_at {β : Type} {enc : α → List β} {sz : Nat} : ∀ (l : List α), (∀ x ∈ l, (enc x).length = sz) → ∀ (q : Nat) (x : α), l[q]? = some x → ∀ k u, (enc x)[k]? = some u → (l.flatMap enc)[q * sz + k]? = some u
  | [], _, q, x, h, _, _, _ => by simp at h
  | y :: l, henc, 0, x, h, k, u, hk => by
    simp at h
    subst h
    have hlt := (List.getElem?_eq_some_iff.1 hk).1
    simpa [List.flatMap_cons, List.getElem?_append, hlt] using hk
  | y :: l, henc, q + 1, x, h, k, u, hk => by
    have hy := henc y (by simp)
    have := flatMap_at l (fun x hx => henc x (by simp [hx])) q x (by simpa using h) k u hk
    rw [List.flatMap_cons, List.getElem?_append_right (by rw [hy, Nat.add_mul]; omega), hy]
    rw [show (q + 1) * sz + k - sz = q * sz + k from by rw [Nat.add_mul]; omega]
    exact this

theorem own_arr {enc : α → List Value} {T sz : Nat} {A : Option Addr} {n c : Nat} {l : List α} (henc : ∀ x ∈ l, (enc x).length = sz) : Ent (own enc T sz A n c l) (arr enc sz A l) := by
  intro S w ⟨hn, how, hS⟩ hl
  have hpos : 0 < n := by
    rw [hn]
    exact List.length_pos_iff.2 hl
  obtain ⟨g, cap, hv, _, hlt⟩ := how.form hpos
  have hA : A = some ⟨g, 0, none⟩ := by injection hv
  subst hA
  exact ⟨_, rfl, hS _ rfl, fun q x hq k u hk => how.cells (g := g) rfl _ _ (flatMap_at l henc q x hq k u hk)⟩

theorem own_len {enc : α → List Value} {T sz : Nat} {A : Option Addr} {n c : Nat} {l : List α} {S : Foot} {w : World} (h : (own enc T sz A n c l).p S w) : n = l.length := h.1
end
end Go.Proofs.YtdeeokkkcfkbjaaDoor
