/- The symbolic walk: rows by their cells, found by their address; literals of slices; append. -/
import Derived.Test.YtdeeokkkcfkbjaaDoorEng6
namespace Go.Proofs.YtdeeokkkcfkbjaaDoor
set_option linter.unusedVariables false
set_option linter.unusedSimpArgs false
open Go.RowKit

def idE (x : List Value) : List Value := x
def WfL (sz : Nat) (l : List (List Value)) : Prop := ∀ x ∈ l, x.length = sz ∧ oneB x = true
theorem WfL.nil {sz : Nat} : WfL sz [] := fun _ h => by cases h
theorem WfL.cons {sz : Nat} {x : List Value} {l : List (List Value)} (h1 : x.length = sz) (h2 : oneB x = true) (h : WfL sz l) : WfL sz (x :: l) := fun y hy => by
  cases hy with
  | head => exact ⟨h1, h2⟩
  | tail _ hy => exact h y hy
theorem WfL.append {sz : Nat} {l m : List (List Value)} (h1 : WfL sz l) (h2 : WfL sz m) : WfL sz (l ++ m) := fun y hy => (List.mem_append.1 hy).elim (h1 y) (h2 y)
class EncOk {α : Type} (enc : α → List Value) (sz : outParam Nat) : Prop where h : ∀ x, (enc x).length = sz ∧ oneB (enc x) = true
theorem WfL.map {α : Type} {enc : α → List Value} {sz : Nat} [h : EncOk enc sz] {l : List α} : WfL sz (l.map enc) := fun y hy => by
  obtain ⟨x, _, rfl⟩ := List.mem_map.1 hy
  exact h.h x

theorem flatMap_idE (l : List (List Value)) : l.flatMap idE = l.flatten := by
  induction l with
  | nil => rfl
  | cons x l ih => rw [List.flatMap_cons, ih]; rfl
theorem flatMap_map {α : Type} (enc : α → List Value) (l : List α) : (l.map enc).flatMap idE = l.flatMap enc := by
  induction l with
  | nil => rfl
  | cons x l ih => rw [List.map_cons, List.flatMap_cons, List.flatMap_cons, ih]; rfl
theorem own_raw {α : Type} {enc : α → List Value} {T sz : Nat} {A : Option Addr} {n c : Nat} {l : List α} : Ent (own enc T sz A n c l) (own idE T sz A n c (l.map enc)) :=
  fun S w ⟨h1, h2, h3⟩ => ⟨by simpa using h1, by rw [flatMap_map]; exact h2, h3⟩
theorem own_typed {α : Type} {enc : α → List Value} {T sz : Nat} {A : Option Addr} {n c : Nat} (l : List α) : Ent (own idE T sz A n c (l.map enc)) (own enc T sz A n c l) :=
  fun S w ⟨h1, h2, h3⟩ => ⟨by simpa using h1, by rw [flatMap_map] at h2; exact h2, h3⟩
theorem arr_raw {α : Type} {enc : α → List Value} {sz : Nat} {A : Option Addr} {l : List α} : Ent (arr enc sz A l) (arr idE sz A (l.map enc)) := fun S w h hl => by
  obtain ⟨ad, hA, hS, hc⟩ := h (by intro e; subst e; exact hl rfl)
  refine ⟨ad, hA, hS, fun q x hq k u hk => ?_⟩
  rw [List.getElem?_map, Option.map_eq_some_iff] at hq
  obtain ⟨y, hy, rfl⟩ := hq
  exact hc q y hy k u hk
theorem arr_typed {α : Type} {enc : α → List Value} {sz : Nat} {A : Option Addr} (l : List α) : Ent (arr idE sz A (l.map enc)) (arr enc sz A l) := fun S w h hl => by
  obtain ⟨ad, hA, hS, hc⟩ := h (by intro e; exact hl (List.map_eq_nil_iff.1 e))
  exact ⟨ad, hA, hS, fun q x hq k u hk => hc q (enc x) (by rw [List.getElem?_map, hq]; rfl) k u hk⟩

/-- where the row of a slice value stands -/
class OwnAt (l : List SL) (A : Option Addr) (k T sz n c : outParam Nat) (xs : outParam (List (List Value))) : Prop where h : l[k]? = some (own idE T sz A n c xs)
instance (priority := high) {A : Option Addr} {T sz n c : Nat} {xs : List (List Value)} {l : List SL} : OwnAt (own idE T sz A n c xs :: l) A 0 T sz n c xs := ⟨rfl⟩
instance {A : Option Addr} {k T sz n c : Nat} {xs : List (List Value)} {e : SL} {l : List SL} [h : OwnAt l A k T sz n c xs] : OwnAt (e :: l) A (k + 1) T sz n c xs := ⟨by simpa using h.h⟩
class SrcAt (l : List SL) (A : Option Addr) (k sz : outParam Nat) (xs : outParam (List (List Value))) : Prop where h : ∃ e, l[k]? = some e ∧ (WfL sz xs → Ent e (arr idE sz A xs))
instance (priority := high) {A : Option Addr} {T sz n c : Nat} {xs : List (List Value)} {l : List SL} : SrcAt (own idE T sz A n c xs :: l) A 0 sz xs := ⟨⟨_, rfl, fun h => own_arr fun x hx => (h x hx).1⟩⟩
instance (priority := high) {A : Option Addr} {sz : Nat} {xs : List (List Value)} {l : List SL} : SrcAt (arr idE sz A xs :: l) A 0 sz xs := ⟨⟨_, rfl, fun _ => Ent.rfl_⟩⟩
instance {α : Type} {enc : α → List Value} {A : Option Addr} {sz : Nat} {xs : List α} {l : List SL} : SrcAt (arr enc sz A xs :: l) A 0 sz (xs.map enc) := ⟨⟨_, rfl, fun _ => arr_raw⟩⟩
instance {α : Type} {enc : α → List Value} {A : Option Addr} {T sz n c : Nat} {xs : List α} {l : List SL} : SrcAt (own enc T sz A n c xs :: l) A 0 sz (xs.map enc) := ⟨⟨_, rfl, fun h S w hp => own_arr (fun x hx => (h x hx).1) S w (own_raw S w hp)⟩⟩
instance (priority := low) {A : Option Addr} {k sz : Nat} {xs : List (List Value)} {e : SL} {l : List SL} [h : SrcAt l A k sz xs] : SrcAt (e :: l) A (k + 1) sz xs := ⟨by simpa using h.h⟩

theorem Keeps.own_cons {α : Type} {enc : α → List Value} {T sz n n' c : Nat} {A : Option Addr} {l l' : List α} {rw rw' : List SL} (h : Keeps rw rw') (h1 : n = n') (h2 : l = l') : Keeps (own enc T sz A n c l :: rw) (own enc T sz A n' c l' :: rw') := by
  subst h1 h2
  exact Keeps.cons Ent.rfl_ h
theorem Keeps.arr_cons {α : Type} {enc : α → List Value} {sz : Nat} {A : Option Addr} {l l' : List α} {rw rw' : List SL} (h : Keeps rw rw') (h2 : l = l') : Keeps (arr enc sz A l :: rw) (arr enc sz A l' :: rw') := by
  subst h2
  exact Keeps.cons Ent.rfl_ h
theorem Keeps.own_none {α : Type} {enc : α → List Value} {T sz n : Nat} {l : List α} {rw' : List SL} (h : Keeps [] rw') (h1 : n = 0) (h2 : l = []) : Keeps [] (own enc T sz none n 0 l :: rw') := by
  subst h1 h2
  exact Keeps.add (fun w => own_nil w) h
theorem Keeps.arr_none {α : Type} {enc : α → List Value} {sz : Nat} {A : Option Addr} {l : List α} {rw' : List SL} (h : Keeps [] rw') (h2 : l = []) : Keeps [] (arr enc sz A l :: rw') := by
  subst h2
  exact Keeps.add (fun w => arr_nil _ w) h
theorem wrap_i64 {e : Int} (h : -9223372036854775808 ≤ e ∧ e ≤ 9223372036854775807) : Value.int .i64 (IntKind.i64.wrap e) = Value.int .i64 e := by
  rw [IntKind.wrap_i64]; congr 1; omega
theorem wrap_u32 {e : Int} (h : 0 ≤ e ∧ e ≤ 4294967295) : Value.int .u32 (IntKind.u32.wrap e) = Value.int .u32 e := by
  have : IntKind.u32.wrap e = e := by simp [IntKind.wrap, IntKind.bits, IntKind.signed]; omega
  rw [this]
theorem wrap_u8 {e : Int} (h : 0 ≤ e ∧ e ≤ 255) : Value.int .u8 (IntKind.u8.wrap e) = Value.int .u8 e := by
  have : IntKind.u8.wrap e = e := by simp [IntKind.wrap, IntKind.bits, IntKind.signed]; omega
  rw [this]
theorem own_wf {T sz n c : Nat} {A : Option Addr} {l : List (List Value)} (h : WfL sz l) : Ent (own idE T sz A n c l) (arr idE sz A l) := own_arr fun x hx => (h x hx).1
theorem slice_eq {A : Option Addr} {n n' c : Nat} (h : n = n') : Value.slice A n c = Value.slice A n' c := by rw [h]

section
variable {m : Md} {P : Program} {N : Nat} {w0 : World} {S0 : Foot} {ops : List Oper} {i : Nat} {lq : List Nat} {env : Env} {ro rw : List SL} {K : Act → World → Prop} {d : Nat} {op : Op} {ty : TypeId} {pos : String} {aft : Array Edge} {g : Option (Nat × Bool)}

/-- a literal of a slice: one new row -/
def chunk (sz : Nat) : Nat → List Value → Option (List (List Value))
  | 0, [] => some []
  | n + 1, l => match subL l 0 sz with
    | some x => match chunk sz n (l.drop sz) with
      | some r => some (x :: r)
      | none => none
    | none => none
  | _, _ => none
theorem chunk_spec {sz : Nat} : ∀ {n : Nat} {l : List Value} {r : List (List Value)}, chunk sz n l = some r → r.length = n ∧ r.flatMap idE = l ∧ ∀ x ∈ r, x.length = sz
  | 0, [], r, h => by simp [chunk] at h; subst h; simp
  | 0, _ :: _, r, h => by simp [chunk] at h
  | n + 1, l, r, h => by
    simp only [chunk] at h
    cases hs : subL l 0 sz with
    | none => simp [hs] at h
    | some x =>
      cases hc : chunk sz n (l.drop sz) with
      | none => simp [hs, hc] at h
      | some q =>
        simp [hs, hc] at h
        subst h
        obtain ⟨h1, h2, h3⟩ := chunk_spec hc
        obtain ⟨h4, h5⟩ := subL_spec _ _ _ _ hs
        have hx : x = l.take sz := by
          apply List.ext_getElem?
          intro k
          rcases Nat.lt_or_ge k sz with hk | hk
          · rw [← h5 k hk, List.getElem?_take_of_lt hk, Nat.zero_add]
          · rw [List.getElem?_eq_none (by omega), List.getElem?_eq_none (by simp; omega)]
        refine ⟨by simp [h1], ?_, fun y hy => ?_⟩
        · rw [List.flatMap_cons, h2, hx]; exact List.take_append_drop _ _
        · cases hy with
          | head => exact h4
          | tail _ hy => exact h3 y hy

def sliceZ (z : List Value) : Nat → List Value
  | 0 => []
  | n + 1 => app z (sliceZ z n)
where app : List Value → List Value → List Value
  | [], l => l
  | x :: xs, l => x :: app xs l
theorem sliceZ.app_eq : ∀ (a b : List Value), sliceZ.app a b = a ++ b
  | [], b => rfl
  | x :: a, b => by simp [sliceZ.app, sliceZ.app_eq a b]
theorem sliceZ_at (z : List Value) : ∀ (n k : Nat), (sliceZ z n)[k]? = if k < n * z.length then z[k % z.length]? else none
  | 0, k => by simp [sliceZ]
  | n + 1, k => by
    rw [sliceZ, sliceZ.app_eq]
    rcases Nat.lt_or_ge k z.length with h | h
    · rw [List.getElem?_append_left h, if_pos (by rw [Nat.add_mul]; omega), Nat.mod_eq_of_lt h]
    · rw [List.getElem?_append_right h, sliceZ_at z n (k - z.length)]
      have hm : (k - z.length) % z.length = k % z.length := (Nat.mod_eq_sub_mod h).symm
      rw [hm]
      by_cases hk : k - z.length < n * z.length
      · rw [if_pos hk, if_pos (by rw [Nat.add_mul]; omega)]
      · rw [if_neg hk, if_neg (by rw [Nat.add_mul]; omega)]

def initC (n sz : Nat) (z : Value) : Array Value :=
  if n * sz = 0 then (Array.range (n * sz)).map ((#[] : Array Value)[· % (#[] : Array Value).size]!) else (Array.range (n * sz)).map (z.cells[· % z.cells.size]!)
def initL (n sz : Nat) (z : Value) : List Value := (List.range (n * sz)).map (z.cells[· % z.cells.size]!)
theorem initC_eq (n sz : Nat) (z : Value) : initC n sz z = (initL n sz z).toArray := by
  unfold initC initL
  by_cases h : n * sz = 0
  · rw [if_pos h, h]; simp
  · rw [if_neg h]
    apply Array.ext'
    simp [Array.toList_map, Array.toList_range]
theorem initL_eq {n sz : Nat} {z : Value} (hz : (cellsL z).length = sz) (hsz : 0 < sz) : initL n sz z = sliceZ (cellsL z) n := by
  apply List.ext_getElem?
  intro k
  rw [sliceZ_at, hz]
  unfold initL
  have hs : z.cells.size = sz := by rw [cellsL_eq]; simpa using hz
  rw [List.getElem?_map]
  by_cases hk : k < n * sz
  · rw [if_pos hk, List.getElem?_range hk]
    have hm : k % sz < (cellsL z).length := by rw [hz]; exact Nat.mod_lt _ hsz
    simp only [Option.map_some, hs]
    rw [List.getElem?_eq_getElem hm, cellsL_eq]
    simp [hm]
  · rw [if_neg hk, List.getElem?_eq_none (by simp; omega)]
    rfl
theorem HO_bslice {T e sz by_ n : Nat} {z : Value} {l : List (Nat × Operand)} {parts : List (Nat × Value)} {cs : List Value} {xs : List (List Value)} [hT : TySlice P T e] [hI : TyInfo P e sz by_] [hZ : TyZero P e z]
    (ho : ops[i]? = some ⟨some d, .buildSlice T n l.toArray, ty, pos, aft, g⟩) (hl : partsE env l = some parts) (hc : fillE (fun i => some (i * sz, sz)) (sliceZ (cellsL z) n) parts = some cs) (hx : chunk sz n cs = some xs)
    (hzz : Nat.beq (cellsL z).length sz = true) (hsm : Nat.ble (n * sz) 16777216 = true) (hsz : Nat.blt 0 sz = true)
    (hw : wantE ops env g = some true) (hN : Nat.blt d N = true) (hs : soleB m ops i lq = true)
    (h : ∀ b : Nat, HO (nmM m) P N w0 S0 ops lq ((d, .slice (some ⟨b, 0, none⟩) n n) :: env) ro (own idE e sz (some ⟨b, 0, none⟩) n n xs :: rw) K) : HO m P N w0 S0 ops (i :: lq) env ro rw K := by
  refine HO_act_ex (α := Nat) (φ := fun _ => True) (v := fun b => .slice (some ⟨b, 0, none⟩) n n) (rw' := fun b => own idE e sz (some ⟨b, 0, none⟩) n n xs :: rw) ho hw rfl hN hs (fun w1 S1 a S w ha hf => ?_) (fun b _ => h b)
  have hp := partsE_spec ha hl
  obtain ⟨h1, h2, h3⟩ := chunk_spec hx
  have hsm' : n * sz ≤ 16777216 := by simpa using hsm
  have hsz' : 0 < sz := by simpa [Nat.blt_eq] using hsz
  have hm' := fillE_spec _ _ _ hc
  rw [← initL_eq (Nat.eq_of_beq_eq_true hzz) hsz'] at hm'
  have hI := hI.h
  have hz := hZ.h
  cases hin : P.info? e with
  | none => simp [hin] at hI
  | some inf =>
    simp [hin] at hI
    have hcs : cs.length = n * sz := by rw [← h2, flatMap_len (enc := idE) xs (fun x hx => h3 x hx), h1]
    obtain ⟨T', hf'⟩ := hf.new (w' := w.alloc (.cells cs.toArray e)) ((Below.refl _ _).alloc (Nat.le_refl _) _) [own idE e sz (some ⟨w.heap.size, 0, none⟩) n n xs] (fun b => b = w.heap.size) (fun b hb => by subst hb; simp)
      ⟨fun b => b = w.heap.size, fun _ => False, fun _ h => h, fun _ h => h.elim, fun _ _ h => h, ⟨h1.symm, ⟨by rw [h2, hcs], .inr ⟨w.heap.size, n, cs.toArray, rfl, Nat.zero_le _, heap_alloc_new w _, Nat.le_refl _, by unfold maxLen; have := Nat.le_mul_of_pos_right n hsz'; omega, by simp [hcs], by
        rw [h2]
        simp
        rw [List.take_of_length_le (by omega)]⟩⟩, fun ad hA => by injection hA with hA; rw [← hA]⟩, trivial⟩
    refine ⟨w.heap.size, T', _, trivial, ?_, by simpa using hf'⟩
    have hmap : (l.toArray.map fun (x : Nat × Operand) => match x with | (i, x) => (i, a.eval x)) = parts.toArray := by
      rw [List.map_toArray, ← hp]
    have hbs : (Instr.buildSlice T n parts.toArray).run P w = .ok (.slice (some ⟨w.heap.size, 0, none⟩) n n) (w.alloc (.cells cs.toArray e)) := by
      have hgt : ¬ n * sz > 2 ^ 24 := by omega
      simp only [Instr.buildSlice, Sem.run_bind, run_underlying hT.h, Result.andThen_ok, run_sizeOf w hin, Program.cellsOf, hin, Option.map_some, Option.getD_some, hI.1]
      have hm := hm'
      rw [← initC_eq] at hm
      unfold initC at hm
      by_cases h0 : n * sz = 0
      · rw [if_pos h0] at hm
        simp only [h0, if_true, Sem.run_bind, Sem.run_pure, Result.andThen_ok]
        rw [if_neg (by omega)]
        simp only [h0] at hm
        simp only [Sem.run_bind, Sem.run_pure, Result.andThen_ok, hm, newRow, newObj, Sem.run]
        rfl
      · rw [if_neg h0] at hm
        simp only [h0, if_false, zero_run w hz, Sem.run_bind, Result.andThen_ok, Sem.run_pure]
        rw [if_neg hgt]
        simp only [Sem.run_bind, Sem.run_pure, Result.andThen_ok, zero_run w hz, hm, newRow, newObj, Sem.run]
        rfl
    simp only [execOp, Sem.run_bind]
    rw [hmap, hbs]
    simp

/-- append onto a row of the call's own: the row comes to stand first -/
theorem HO_app {T e sz by_ n c n2 c2 k k2 sz' e' n' c' : Nat} {A A2 : Option Addr} {l l2 : List (List Value)} {x y : Operand} {z : Value} {rest : List SL} [hT : TySlice P T e] [hI : TyInfo P e sz by_] [hZ : TyZero P e z]
    (ho : ops[i]? = some ⟨some d, .call { callee := .builtin .append, args := #[x, y], argTypes := #[T, T] }, ty, pos, aft, g⟩) (hx : Env.ev env x = some (.slice A n c)) (hy : Env.ev env y = some (.slice A2 n2 c2))
    (hk : rw[k]? = some (own idE e' sz' A n' c' l)) (hke : Nat.beq e e' = true) (hks : Nat.beq sz sz' = true) (hkn : n = n') (hkc : c = c') (hk2 : ∃ e, (ro ++ rw)[k2]? = some e ∧ (WfL sz l2 → Ent e (arr idE sz A2 l2))) (hn2 : n2 = l2.length) (hwf : WfL sz l2)
    (hzs : Nat.beq z.cells.size sz = true) (hsz : Nat.blt 0 sz = true) (hb : (l.length + l2.length) * by_ ≤ 140737488355328) (hb2 : l.length + l2.length ≤ 9223372036854775807)
    (hrw : eraseO rw k = some rest)
    (hw : wantE ops env g = some true) (hN : Nat.blt d N = true) (hs : soleB m ops i lq = true)
    (h : ∀ A' c', HO (nmM m) P N w0 S0 ops lq ((d, .slice A' (n + n2) c') :: env) ro (own idE e sz A' (n + n2) c' (l ++ l2) :: rest) K) : HO m P N w0 S0 ops (i :: lq) env ro rw K := by
  obtain ⟨src, hs1, hs2⟩ := hk2
  subst hkn hkc
  have e1 := Nat.eq_of_beq_eq_true hke
  have e2 := Nat.eq_of_beq_eq_true hks
  have e3 := eraseO_eq hrw
  subst e1 e2 e3
  exact HO_append k k2 ho hx hy hk hs1 (hs2 hwf) hn2 (fun x hx => (hwf x hx).1) (fun x hx => (hwf x hx).2) (Nat.eq_of_beq_eq_true hzs) (by simpa [Nat.blt_eq] using hsz) hb hb2 hw hN hs h

theorem src_right {A2 : Option Addr} {k sz sz' : Nat} {l2 : List (List Value)} [h : SrcAt rw A2 k sz' l2] (hs : Nat.beq sz sz' = true) : ∃ e, (ro ++ rw)[ro.length + k]? = some e ∧ (WfL sz l2 → Ent e (arr idE sz A2 l2)) := by
  have := Nat.eq_of_beq_eq_true hs
  subst this
  obtain ⟨e, h1, h2⟩ := h.h
  exact ⟨e, at_right h1, h2⟩
theorem src_left {A2 : Option Addr} {k sz sz' : Nat} {l2 : List (List Value)} [h : SrcAt ro A2 k sz' l2] (hs : Nat.beq sz sz' = true) : ∃ e, (ro ++ rw)[k]? = some e ∧ (WfL sz l2 → Ent e (arr idE sz A2 l2)) := by
  have := Nat.eq_of_beq_eq_true hs
  subst this
  obtain ⟨e, h1, h2⟩ := h.h
  exact ⟨e, by rw [List.getElem?_append_left (List.getElem?_eq_some_iff.1 h1).1]; exact h1, h2⟩

theorem HO_appw {T e sz by_ n c n2 c2 k k2 sz' e' n' c' sz2 : Nat} {A A2 : Option Addr} {l l2 : List (List Value)} {x y : Operand} {z : Value} {rest : List SL} [hT : TySlice P T e] [hI : TyInfo P e sz by_] [hZ : TyZero P e z]
    (ho : ops[i]? = some ⟨some d, .call { callee := .builtin .append, args := #[x, y], argTypes := #[T, T] }, ty, pos, aft, g⟩) (hx : Env.ev env x = some (.slice A n c)) (hy : Env.ev env y = some (.slice A2 n2 c2))
    [hk : OwnAt rw A k e' sz' n' c' l] (hke : Nat.beq e e' = true) (hks : Nat.beq sz sz' = true) (hkn : n = n') (hkc : c = c') [hk2 : SrcAt rw A2 k2 sz2 l2] (hs2 : Nat.beq sz sz2 = true) (hn2 : n2 = l2.length) (hwf : WfL sz l2)
    (hzs : Nat.beq z.cells.size sz = true) (hsz : Nat.blt 0 sz = true) (hb : (l.length + l2.length) * by_ ≤ 140737488355328) (hb2 : l.length + l2.length ≤ 9223372036854775807)
    (hrw : eraseO rw k = some rest) (hw : wantE ops env g = some true) (hN : Nat.blt d N = true) (hs : soleB m ops i lq = true)
    (h : ∀ A' c', HO (nmM m) P N w0 S0 ops lq ((d, .slice A' (n + n2) c') :: env) ro (own idE e sz A' (n + n2) c' (l ++ l2) :: rest) K) : HO m P N w0 S0 ops (i :: lq) env ro rw K :=
  HO_app ho hx hy hk.h hke hks hkn hkc (src_right hs2) hn2 hwf hzs hsz hb hb2 hrw hw hN hs h
theorem HO_appr {T e sz by_ n c n2 c2 k k2 sz' e' n' c' sz2 : Nat} {A A2 : Option Addr} {l l2 : List (List Value)} {x y : Operand} {z : Value} {rest : List SL} [hT : TySlice P T e] [hI : TyInfo P e sz by_] [hZ : TyZero P e z]
    (ho : ops[i]? = some ⟨some d, .call { callee := .builtin .append, args := #[x, y], argTypes := #[T, T] }, ty, pos, aft, g⟩) (hx : Env.ev env x = some (.slice A n c)) (hy : Env.ev env y = some (.slice A2 n2 c2))
    [hk : OwnAt rw A k e' sz' n' c' l] (hke : Nat.beq e e' = true) (hks : Nat.beq sz sz' = true) (hkn : n = n') (hkc : c = c') [hk2 : SrcAt ro A2 k2 sz2 l2] (hs2 : Nat.beq sz sz2 = true) (hn2 : n2 = l2.length) (hwf : WfL sz l2)
    (hzs : Nat.beq z.cells.size sz = true) (hsz : Nat.blt 0 sz = true) (hb : (l.length + l2.length) * by_ ≤ 140737488355328) (hb2 : l.length + l2.length ≤ 9223372036854775807)
    (hrw : eraseO rw k = some rest) (hw : wantE ops env g = some true) (hN : Nat.blt d N = true) (hs : soleB m ops i lq = true)
    (h : ∀ A' c', HO (nmM m) P N w0 S0 ops lq ((d, .slice A' (n + n2) c') :: env) ro (own idE e sz A' (n + n2) c' (l ++ l2) :: rest) K) : HO m P N w0 S0 ops (i :: lq) env ro rw K :=
  HO_app ho hx hy hk.h hke hks hkn hkc (src_left hs2) hn2 hwf hzs hsz hb hb2 hrw hw hN hs h

theorem HO_addnil {T e sz by_ : Nat} {x y : Operand} [hT : TySlice P T e] [hI : TyInfo P e sz by_] (ho : ops[i]? = some ⟨some d, .call { callee := .builtin .append, args := #[x, y], argTypes := #[T, T] }, ty, pos, aft, g⟩) (hx : Env.ev env x = some (.slice none 0 0)) (hm : loudM m = true)
    (h : HO m P N w0 S0 ops (i :: lq) env ro (own idE e sz none 0 0 [] :: rw) K) : HO m P N w0 S0 ops (i :: lq) env ro rw K := HO_add hm (fun w => own_nil w) h
end
end Go.Proofs.YtdeeokkkcfkbjaaDoor
