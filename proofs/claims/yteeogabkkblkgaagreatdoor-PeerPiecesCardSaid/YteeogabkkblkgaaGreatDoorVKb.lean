/- Part of a proof of many texts: what the theorem at its end leans on. -/
import Derived.Test.YteeogabkkblkgaaGreatDoorVKa
import Derived.Laws.StructEq
import Derived.Laws.BytesString
import Derived.Lib.AppendZeros
import Derived.RangeFuncFrom
import Derived.RangeFuncLeaves
import Derived.OwnWalkIn
namespace Go.Proofs.YteeogabkkblkgaaGreatDoor
set_option maxHeartbeats 1000000000
set_option linter.unusedVariables false
set_option linter.unusedSimpArgs false
open Go.RowKit
def idE (x : List Value) : List Value := x
def WfL (sz : Nat) (l : List (List Value)) : Prop := ∀ x ∈ l, x.length = sz ∧ oneB x = true
theorem WfL.nil {sz : Nat} : WfL sz [] := fun _ h => by cases h
theorem WfL.cons {sz : Nat} {x : List Value} {l : List (List Value)} (h1 : x.length = sz) (h2 : oneB x = true) (h : WfL sz l) : WfL sz (x :: l) := fun y hy => by
 cases hy with
 | head => exact ⟨h1, h2⟩
 | tail _ hy => exact h y hy
theorem WfL.append {sz : Nat} {l m : List (List Value)} (h1 : WfL sz l) (h2 : WfL sz m) : WfL sz (l ++ m) := fun y hy => (List.mem_append.1 hy).elim (h1 y) (h2 y)
class EncOk {α : Type} (enc : α → List Value) (sz : outParam Nat) : Prop where h : ∀ x, (enc x).length = sz ∧ oneB (enc x) = true
theorem WfL.map {α : Type} {enc : α → List Value} {sz : Nat} [h : EncOk enc sz] {l : List α} : WfL sz (l.map enc) := fun y hy => by
 obtain ⟨x, _, rfl⟩ := List.mem_map.1 hy
 exact h.h x
theorem flatMap_idE (l : List (List Value)) : l.flatMap idE = l.flatten := by
 induction l with
 | nil => rfl
 | cons x l ih => rw [List.flatMap_cons, ih]; rfl
theorem arr_raw {α : Type} {enc : α → List Value} {sz : Nat} {A : Option Addr} {l : List α} : Ent (arr enc sz A l) (arr idE sz A (l.map enc)) := fun S w h hl => by
 obtain ⟨ad, hA, hS, hc⟩ := h (by intro e; subst e; exact hl rfl)
 refine ⟨ad, hA, hS, fun q x hq k u hk => ?_⟩
 rw [List.getElem?_map, Option.map_eq_some_iff] at hq
 obtain ⟨y, hy, rfl⟩ := hq
 exact hc q y hy k u hk
theorem arr_typed {α : Type} {enc : α → List Value} {sz : Nat} {A : Option Addr} (l : List α) : Ent (arr idE sz A (l.map enc)) (arr enc sz A l) := fun S w h hl => by
 obtain ⟨ad, hA, hS, hc⟩ := h (by intro e; exact hl (List.map_eq_nil_iff.1 e))
 exact ⟨ad, hA, hS, fun q x hq k u hk => hc q (enc x) (by rw [List.getElem?_map, hq]; rfl) k u hk⟩
class OwnAt (l : List SL) (A : Option Addr) (k T sz n c : outParam Nat) (xs : outParam (List (List Value))) : Prop where h : l[k]? = some (own idE T sz A n c xs)
instance (priority := high) {A : Option Addr} {T sz n c : Nat} {xs : List (List Value)} {l : List SL} : OwnAt (own idE T sz A n c xs :: l) A 0 T sz n c xs := ⟨rfl⟩
instance {A : Option Addr} {k T sz n c : Nat} {xs : List (List Value)} {e : SL} {l : List SL} [h : OwnAt l A k T sz n c xs] : OwnAt (e :: l) A (k + 1) T sz n c xs := ⟨by simpa using h.h⟩
class SrcAt (l : List SL) (A : Option Addr) (k sz : outParam Nat) (xs : outParam (List (List Value))) : Prop where h : ∃ e, l[k]? = some e ∧ (WfL sz xs → Ent e (arr idE sz A xs))
instance (priority := high) {A : Option Addr} {T sz n c : Nat} {xs : List (List Value)} {l : List SL} : SrcAt (own idE T sz A n c xs :: l) A 0 sz xs := ⟨⟨_, rfl, fun h => own_arr fun x hx => (h x hx).1⟩⟩
instance (priority := high) {A : Option Addr} {sz : Nat} {xs : List (List Value)} {l : List SL} : SrcAt (arr idE sz A xs :: l) A 0 sz xs := ⟨⟨_, rfl, fun _ => Ent.rfl_⟩⟩
instance {α : Type} {enc : α → List Value} {A : Option Addr} {sz : Nat} {xs : List α} {l : List SL} : SrcAt (arr enc sz A xs :: l) A 0 sz (xs.map enc) := ⟨⟨_, rfl, fun _ => arr_raw⟩⟩
instance (priority := low) {A : Option Addr} {k sz : Nat} {xs : List (List Value)} {e : SL} {l : List SL} [h : SrcAt l A k sz xs] : SrcAt (e :: l) A (k + 1) sz xs := ⟨by simpa using h.h⟩
theorem Keeps.own_cons {α : Type} {enc : α → List Value} {T sz n n' c : Nat} {A : Option Addr} {l l' : List α} {rw rw' : List SL} (h : Keeps rw rw') (h1 : n = n') (h2 : l = l') : Keeps (own enc T sz A n c l :: rw) (own enc T sz A n' c l' :: rw') := by
 subst h1 h2
 exact Keeps.cons Ent.rfl_ h
theorem Keeps.own_none {α : Type} {enc : α → List Value} {T sz n : Nat} {l : List α} {rw' : List SL} (h : Keeps [] rw') (h1 : n = 0) (h2 : l = []) : Keeps [] (own enc T sz none n 0 l :: rw') := by
 subst h1 h2
 exact Keeps.add (fun w => own_nil w) h
theorem wrap_i64 {e : Int} (h : -9223372036854775808 ≤ e ∧ e ≤ 9223372036854775807) : Value.int .i64 (IntKind.i64.wrap e) = Value.int .i64 e := by
 rw [IntKind.wrap_i64]; congr 1; omega
theorem wrap_u32 {e : Int} (h : 0 ≤ e ∧ e ≤ 4294967295) : Value.int .u32 (IntKind.u32.wrap e) = Value.int .u32 e := by
 have : IntKind.u32.wrap e = e := by simp [IntKind.wrap, IntKind.bits, IntKind.signed]; omega
 rw [this]
theorem wrap_u8 {e : Int} (h : 0 ≤ e ∧ e ≤ 255) : Value.int .u8 (IntKind.u8.wrap e) = Value.int .u8 e := by
 have : IntKind.u8.wrap e = e := by simp [IntKind.wrap, IntKind.bits, IntKind.signed]; omega
 rw [this]
theorem own_wf {T sz n c : Nat} {A : Option Addr} {l : List (List Value)} (h : WfL sz l) : Ent (own idE T sz A n c l) (arr idE sz A l) := own_arr fun x hx => (h x hx).1
section
variable {m : Md} {P : Program} {N : Nat} {w0 : World} {S0 : Foot} {ops : List Oper} {i : Nat} {lq : List Nat} {env : Env} {ro rw : List SL} {K : Act → World → Prop} {d : Nat} {op : Op} {ty : TypeId} {pos : String} {aft : Array Edge} {g : Option (Nat × Bool)}
def chunk (sz : Nat) : Nat → List Value → Option (List (List Value))
 | 0, [] => some []
 | n + 1, l => match subL l 0 sz with
  | some x => match chunk sz n (l.drop sz) with
   | some r => some (x :: r)
   | none => none
  | none => none
 | _, _ => none
theorem chunk_spec {sz : Nat} : ∀ {n : Nat} {l : List Value} {r : List (List Value)}, chunk sz n l = some r → r.length = n ∧ r.flatMap idE = l ∧ ∀ x ∈ r, x.length = sz
 | 0, [], r, h => by simp [chunk] at h; subst h; simp
 | 0, _ :: _, r, h => by simp [chunk] at h
 | n + 1, l, r, h => by
  simp only [chunk] at h
  cases hs : subL l 0 sz with
  | none => simp [hs] at h
  | some x =>
   cases hc : chunk sz n (l.drop sz) with
   | none => simp [hs, hc] at h
   | some q =>
    simp [hs, hc] at h
    subst h
    obtain ⟨h1, h2, h3⟩ := chunk_spec hc
    obtain ⟨h4, h5⟩ := subL_spec _ _ _ _ hs
    have hx : x = l.take sz := by
     apply List.ext_getElem?
     intro k
     rcases Nat.lt_or_ge k sz with hk | hk
     ·rw [← h5 k hk, List.getElem?_take_of_lt hk, Nat.zero_add]
     ·rw [List.getElem?_eq_none (by omega), List.getElem?_eq_none (by simp; omega)]
    refine ⟨by simp [h1], ?_, fun y hy => ?_⟩
    ·rw [List.flatMap_cons, h2, hx]; exact List.take_append_drop _ _
    ·cases hy with
     | head => exact h4
     | tail _ hy => exact h3 y hy
def sliceZ (z : List Value) : Nat → List Value
 | 0 => []
 | n + 1 => app z (sliceZ z n)
where app : List Value → List Value → List Value
 | [], l => l
 | x :: xs, l => x :: app xs l
theorem sliceZ.app_eq : ∀ (a b : List Value), sliceZ.app a b = a ++ b
 | [], b => rfl
 | x :: a, b => by simp [sliceZ.app, sliceZ.app_eq a b]
theorem sliceZ_at (z : List Value) : ∀ (n k : Nat), (sliceZ z n)[k]? = if k < n * z.length then z[k % z.length]? else none
 | 0, k => by simp [sliceZ]
 | n + 1, k => by
  rw [sliceZ, sliceZ.app_eq]
  rcases Nat.lt_or_ge k z.length with h | h
  ·rw [List.getElem?_append_left h, if_pos (by rw [Nat.add_mul]; omega), Nat.mod_eq_of_lt h]
  ·rw [List.getElem?_append_right h, sliceZ_at z n (k - z.length)]
   have hm : (k - z.length) % z.length = k % z.length := (Nat.mod_eq_sub_mod h).symm
   rw [hm]
   by_cases hk : k - z.length < n * z.length
   ·rw [if_pos hk, if_pos (by rw [Nat.add_mul]; omega)]
   ·rw [if_neg hk, if_neg (by rw [Nat.add_mul]; omega)]
def initC (n sz : Nat) (z : Value) : Array Value :=
 if n * sz = 0 then (Array.range (n * sz)).map ((#[] : Array Value)[· % (#[] : Array Value).size]!) else (Array.range (n * sz)).map (z.cells[· % z.cells.size]!)
def initL (n sz : Nat) (z : Value) : List Value := (List.range (n * sz)).map (z.cells[· % z.cells.size]!)
theorem initC_eq (n sz : Nat) (z : Value) : initC n sz z = (initL n sz z).toArray := by
 unfold initC initL
 by_cases h : n * sz = 0
 ·rw [if_pos h, h]; simp
 ·rw [if_neg h]
  apply Array.ext'
  simp [Array.toList_map, Array.toList_range]
theorem initL_eq {n sz : Nat} {z : Value} (hz : (cellsL z).length = sz) (hsz : 0 < sz) : initL n sz z = sliceZ (cellsL z) n := by
 apply List.ext_getElem?
 intro k
 rw [sliceZ_at, hz]
 unfold initL
 have hs : z.cells.size = sz := by rw [cellsL_eq]; simpa using hz
 rw [List.getElem?_map]
 by_cases hk : k < n * sz
 ·rw [if_pos hk, List.getElem?_range hk]
  have hm : k % sz < (cellsL z).length := by rw [hz]; exact Nat.mod_lt _ hsz
  simp only [Option.map_some, hs]
  rw [List.getElem?_eq_getElem hm, cellsL_eq]
  simp [hm]
 ·rw [if_neg hk, List.getElem?_eq_none (by simp; omega)]
  rfl
theorem HO_bslice {T e sz by_ n : Nat} {z : Value} {l : List (Nat × Operand)} {parts : List (Nat × Value)} {cs : List Value} {xs : List (List Value)} [hT : TySlice P T e] [hI : TyInfo P e sz by_] [hZ : TyZero P e z]
  (ho : ops[i]? = some ⟨some d, .buildSlice T n l.toArray, ty, pos, aft, g⟩) (hl : partsE env l = some parts) (hc : fillE (fun i => some (i * sz, sz)) (sliceZ (cellsL z) n) parts = some cs) (hx : chunk sz n cs = some xs)
  (hzz : Nat.beq (cellsL z).length sz = true) (hsm : Nat.ble (n * sz) 16777216 = true) (hsz : Nat.blt 0 sz = true)
  (hw : wantE ops env g = some true) (hN : Nat.blt d N = true) (hs : soleB m ops i lq = true)
  (h : ∀ b : Nat, HO (nmM m) P N w0 S0 ops lq ((d, .slice (some ⟨b, 0, none⟩) n n) :: env) ro (own idE e sz (some ⟨b, 0, none⟩) n n xs :: rw) K) : HO m P N w0 S0 ops (i :: lq) env ro rw K := by
 refine HO_act_ex (α := Nat) (φ := fun _ => True) (v := fun b => .slice (some ⟨b, 0, none⟩) n n) (rw' := fun b => own idE e sz (some ⟨b, 0, none⟩) n n xs :: rw) ho hw rfl hN hs (fun w1 S1 a S w ha hf => ?_) (fun b _ => h b)
 have hp := partsE_spec ha hl
 obtain ⟨h1, h2, h3⟩ := chunk_spec hx
 have hsm' : n * sz ≤ 16777216 := by simpa using hsm
 have hsz' : 0 < sz := by simpa [Nat.blt_eq] using hsz
 have hm' := fillE_spec _ _ _ hc
 rw [← initL_eq (Nat.eq_of_beq_eq_true hzz) hsz'] at hm'
 have hI := hI.h
 have hz := hZ.h
 cases hin : P.info? e with
 | none => simp [hin] at hI
 | some inf =>
  simp [hin] at hI
  have hcs : cs.length = n * sz := by rw [← h2, flatMap_len (enc := idE) xs (fun x hx => h3 x hx), h1]
  obtain ⟨T', hf'⟩ := hf.new (w' := w.alloc (.cells cs.toArray e)) ((Below.refl _ _).alloc (Nat.le_refl _) _) [own idE e sz (some ⟨w.heap.size, 0, none⟩) n n xs] (fun b => b = w.heap.size) (fun b hb => by subst hb; simp)
   ⟨fun b => b = w.heap.size, fun _ => False, fun _ h => h, fun _ h => h.elim, fun _ _ h => h, ⟨h1.symm, ⟨by rw [h2, hcs], .inr ⟨w.heap.size, n, cs.toArray, rfl, Nat.zero_le _, heap_alloc_new w _, Nat.le_refl _, by unfold maxLen; have := Nat.le_mul_of_pos_right n hsz'; omega, by simp [hcs], by
    rw [h2]
    simp
    rw [List.take_of_length_le (by omega)]⟩⟩, fun ad hA => by injection hA with hA; rw [← hA]⟩, trivial⟩
  refine ⟨w.heap.size, T', _, trivial, ?_, by simpa using hf'⟩
  have hmap : (l.toArray.map fun (x : Nat × Operand) => match x with | (i, x) => (i, a.eval x)) = parts.toArray := by
   rw [List.map_toArray, ← hp]
  have hbs : (Instr.buildSlice T n parts.toArray).run P w = .ok (.slice (some ⟨w.heap.size, 0, none⟩) n n) (w.alloc (.cells cs.toArray e)) := by
   have hgt : ¬ n * sz > 2 ^ 24 := by omega
   simp only [Instr.buildSlice, Sem.run_bind, run_underlying hT.h, Result.andThen_ok, run_sizeOf w hin, Program.cellsOf, hin, Option.map_some, Option.getD_some, hI.1]
   have hm := hm'
   rw [← initC_eq] at hm
   unfold initC at hm
   by_cases h0 : n * sz = 0
   ·rw [if_pos h0] at hm
    simp only [h0, if_true, Sem.run_bind, Sem.run_pure, Result.andThen_ok]
    rw [if_neg (by omega)]
    simp only [h0] at hm
    simp only [Sem.run_bind, Sem.run_pure, Result.andThen_ok, hm, newRow, newObj, Sem.run]
    rfl
   ·rw [if_neg h0] at hm
    simp only [h0, if_false, zero_run w hz, Sem.run_bind, Result.andThen_ok, Sem.run_pure]
    rw [if_neg hgt]
    simp only [Sem.run_bind, Sem.run_pure, Result.andThen_ok, zero_run w hz, hm, newRow, newObj, Sem.run]
    rfl
  simp only [execOp, Sem.run_bind]
  rw [hmap, hbs]
  simp
theorem HO_app {T e sz by_ n c n2 c2 k k2 sz' e' n' c' : Nat} {A A2 : Option Addr} {l l2 : List (List Value)} {x y : Operand} {z : Value} {rest : List SL} [hT : TySlice P T e] [hI : TyInfo P e sz by_] [hZ : TyZero P e z]
  (ho : ops[i]? = some ⟨some d, .call { callee := .builtin .append, args := #[x, y], argTypes := #[T, T] }, ty, pos, aft, g⟩) (hx : Env.ev env x = some (.slice A n c)) (hy : Env.ev env y = some (.slice A2 n2 c2))
  (hk : rw[k]? = some (own idE e' sz' A n' c' l)) (hke : Nat.beq e e' = true) (hks : Nat.beq sz sz' = true) (hkn : n = n') (hkc : c = c') (hk2 : ∃ e, (ro ++ rw)[k2]? = some e ∧ (WfL sz l2 → Ent e (arr idE sz A2 l2))) (hn2 : n2 = l2.length) (hwf : WfL sz l2)
  (hzs : Nat.beq z.cells.size sz = true) (hsz : Nat.blt 0 sz = true) (hb : (l.length + l2.length) * by_ ≤ 140737488355328) (hb2 : l.length + l2.length ≤ 9223372036854775807)
  (hrw : eraseO rw k = some rest)
  (hw : wantE ops env g = some true) (hN : Nat.blt d N = true) (hs : soleB m ops i lq = true)
  (h : ∀ A' c', HO (nmM m) P N w0 S0 ops lq ((d, .slice A' (n + n2) c') :: env) ro (own idE e sz A' (n + n2) c' (l ++ l2) :: rest) K) : HO m P N w0 S0 ops (i :: lq) env ro rw K := by
 obtain ⟨src, hs1, hs2⟩ := hk2
 subst hkn hkc
 have e1 := Nat.eq_of_beq_eq_true hke
 have e2 := Nat.eq_of_beq_eq_true hks
 have e3 := eraseO_eq hrw
 subst e1 e2 e3
 exact HO_append k k2 ho hx hy hk hs1 (hs2 hwf) hn2 (fun x hx => (hwf x hx).1) (fun x hx => (hwf x hx).2) (Nat.eq_of_beq_eq_true hzs) (by simpa [Nat.blt_eq] using hsz) hb hb2 hw hN hs h
theorem src_right {A2 : Option Addr} {k sz sz' : Nat} {l2 : List (List Value)} [h : SrcAt rw A2 k sz' l2] (hs : Nat.beq sz sz' = true) : ∃ e, (ro ++ rw)[ro.length + k]? = some e ∧ (WfL sz l2 → Ent e (arr idE sz A2 l2)) := by
 have := Nat.eq_of_beq_eq_true hs
 subst this
 obtain ⟨e, h1, h2⟩ := h.h
 exact ⟨e, at_right h1, h2⟩
theorem src_left {A2 : Option Addr} {k sz sz' : Nat} {l2 : List (List Value)} [h : SrcAt ro A2 k sz' l2] (hs : Nat.beq sz sz' = true) : ∃ e, (ro ++ rw)[k]? = some e ∧ (WfL sz l2 → Ent e (arr idE sz A2 l2)) := by
 have := Nat.eq_of_beq_eq_true hs
 subst this
 obtain ⟨e, h1, h2⟩ := h.h
 exact ⟨e, by rw [List.getElem?_append_left (List.getElem?_eq_some_iff.1 h1).1]; exact h1, h2⟩
theorem HO_appw {T e sz by_ n c n2 c2 k k2 sz' e' n' c' sz2 : Nat} {A A2 : Option Addr} {l l2 : List (List Value)} {x y : Operand} {z : Value} {rest : List SL} [hT : TySlice P T e] [hI : TyInfo P e sz by_] [hZ : TyZero P e z]
  (ho : ops[i]? = some ⟨some d, .call { callee := .builtin .append, args := #[x, y], argTypes := #[T, T] }, ty, pos, aft, g⟩) (hx : Env.ev env x = some (.slice A n c)) (hy : Env.ev env y = some (.slice A2 n2 c2))
  [hk : OwnAt rw A k e' sz' n' c' l] (hke : Nat.beq e e' = true) (hks : Nat.beq sz sz' = true) (hkn : n = n') (hkc : c = c') [hk2 : SrcAt rw A2 k2 sz2 l2] (hs2 : Nat.beq sz sz2 = true) (hn2 : n2 = l2.length) (hwf : WfL sz l2)
  (hzs : Nat.beq z.cells.size sz = true) (hsz : Nat.blt 0 sz = true) (hb : (l.length + l2.length) * by_ ≤ 140737488355328) (hb2 : l.length + l2.length ≤ 9223372036854775807)
  (hrw : eraseO rw k = some rest) (hw : wantE ops env g = some true) (hN : Nat.blt d N = true) (hs : soleB m ops i lq = true)
  (h : ∀ A' c', HO (nmM m) P N w0 S0 ops lq ((d, .slice A' (n + n2) c') :: env) ro (own idE e sz A' (n + n2) c' (l ++ l2) :: rest) K) : HO m P N w0 S0 ops (i :: lq) env ro rw K :=
 HO_app ho hx hy hk.h hke hks hkn hkc (src_right hs2) hn2 hwf hzs hsz hb hb2 hrw hw hN hs h
theorem HO_appr {T e sz by_ n c n2 c2 k k2 sz' e' n' c' sz2 : Nat} {A A2 : Option Addr} {l l2 : List (List Value)} {x y : Operand} {z : Value} {rest : List SL} [hT : TySlice P T e] [hI : TyInfo P e sz by_] [hZ : TyZero P e z]
  (ho : ops[i]? = some ⟨some d, .call { callee := .builtin .append, args := #[x, y], argTypes := #[T, T] }, ty, pos, aft, g⟩) (hx : Env.ev env x = some (.slice A n c)) (hy : Env.ev env y = some (.slice A2 n2 c2))
  [hk : OwnAt rw A k e' sz' n' c' l] (hke : Nat.beq e e' = true) (hks : Nat.beq sz sz' = true) (hkn : n = n') (hkc : c = c') [hk2 : SrcAt ro A2 k2 sz2 l2] (hs2 : Nat.beq sz sz2 = true) (hn2 : n2 = l2.length) (hwf : WfL sz l2)
  (hzs : Nat.beq z.cells.size sz = true) (hsz : Nat.blt 0 sz = true) (hb : (l.length + l2.length) * by_ ≤ 140737488355328) (hb2 : l.length + l2.length ≤ 9223372036854775807)
  (hrw : eraseO rw k = some rest) (hw : wantE ops env g = some true) (hN : Nat.blt d N = true) (hs : soleB m ops i lq = true)
  (h : ∀ A' c', HO (nmM m) P N w0 S0 ops lq ((d, .slice A' (n + n2) c') :: env) ro (own idE e sz A' (n + n2) c' (l ++ l2) :: rest) K) : HO m P N w0 S0 ops (i :: lq) env ro rw K :=
 HO_app ho hx hy hk.h hke hks hkn hkc (src_left hs2) hn2 hwf hzs hsz hb hb2 hrw hw hN hs h
theorem HO_addnil {T e sz by_ : Nat} {x y : Operand} [hT : TySlice P T e] [hI : TyInfo P e sz by_] (ho : ops[i]? = some ⟨some d, .call { callee := .builtin .append, args := #[x, y], argTypes := #[T, T] }, ty, pos, aft, g⟩) (hx : Env.ev env x = some (.slice none 0 0)) (hm : loudM m = true)
  (h : HO m P N w0 S0 ops (i :: lq) env ro (own idE e sz none 0 0 [] :: rw) K) : HO m P N w0 S0 ops (i :: lq) env ro rw K := HO_add hm (fun w => own_nil w) h
end
end Go.Proofs.YteeogabkkblkgaaGreatDoor
namespace Go.Proofs.YteeogabkkblkgaaGreatDoor
set_option linter.unusedVariables false
set_option linter.unusedSimpArgs false
open Go.RowKit
def kindB (P : Program) (T : Nat) : Option Nat := match P.underlying T with
 | some (.int _) => some 0
 | some .bool => some 1
 | some .string => some 2
 | _ => none
class TyBool (P : Program) (T : Nat) : Prop where h : P.underlying T = some .bool
def flatB (P : Program) : Nat → List Field → Option (List Nat)
 | _, [] => some []
 | k, f :: fs => match (f.name != "_") && Nat.beq f.offset k && tyOneB P f.type with
  | true => match kindB P f.type with
   | some q => match flatB P (k + 1) fs with
    | some r => some (q :: r)
    | none => none
   | none => none
  | false => none
def flatTyB (P : Program) (T : Nat) : Option (List Nat) := match !(P.stoodInHeld T) && !(P.eqGuardType P.depth T) with
 | true => match P.underlying T with
  | some (.struct fs) => flatB P 0 fs.toList
  | _ => none
 | false => none
class TyFlat (P : Program) (T : Nat) (ks : outParam (List Nat)) : Prop where h : flatTyB P T = some ks
def eq1 (k : Nat) (x y : Value) : Option Bool := match k, x, y with
 | 0, .int k a, .int k' b => match sameK k k' with
  | true => some (decide (a = b))
  | false => none
 | 1, .bool a, .bool b => some (decide (a = b))
 | 2, .string a, .string b => some (a.toList == b.toList)
 | _, _, _ => none
def eqC : List Nat → List Value → List Value → Option Bool
 | [], [], [] => some true
 | k :: ks, x :: xs, y :: ys => match eq1 k x y with
  | none => none
  | some b => match ks with
   | [] => match xs, ys with
    | [], [] => some b
    | _, _ => none
   | _ => match eqC ks xs ys with
    | some r => some (b && r)
    | none => none
 | _, _, _ => none
section
variable {P : Program} (w : World)
theorem eq1_run {T k d : Nat} {x y : Value} {b : Bool} (hk : kindB P T = some k) (h : eq1 k x y = some b) : (Op.equalIn (d + 1) T x y).run P w = .ok b w := by
 unfold kindB at hk
 cases hu : P.underlying T with
 | none => simp [hu] at hk
 | some D =>
  cases D <;> simp [hu] at hk <;> subst hk
  ·cases x <;> cases y <;> simp [eq1] at h
   subst h
   rw [run_equalIn_bool' w d T _ _ hu]
   rename_i a b
   cases a <;> cases b <;> rfl
  ·cases x <;> cases y <;> simp [eq1] at h
   rename_i k a k' b
   cases hs : sameK k k' with
   | false => simp [hs] at h
   | true =>
    simp [hs] at h
    have := sameK_eq hs
    subst this h
    rw [run_equalIn_int w d T _ _ _ _ hu]
    rfl
  ·cases x <;> cases y <;> simp [eq1] at h
   subst h
   rw [run_equalIn_string w d T _ _ hu]
theorem part_run {T off : Nat} {cs : Array Value} {v : Value} (hT : tyOneB P T = true) (h : cs[off]? = some v) : (part T cs off).run P w = .ok v w := by
 simp [part, Sem.run_bind, isAgg_one w hT, h]
theorem eqFields_run {d : Nat} : ∀ (fs : List Field) (k : Nat) (ks : List Nat) (xs ys : List Value) (X Y : Array Value) (b : Bool), flatB P k fs = some ks → eqC ks xs ys = some b →
  (∀ q, xs[q]? = X[k + q]?) → (∀ q, ys[q]? = Y[k + q]?) → (Op.eqFields (d + 1) X Y fs).run P w = .ok b w
 | [], k, ks, xs, ys, X, Y, b, hf, h, _, _ => by
  simp [flatB] at hf
  subst hf
  cases xs <;> cases ys <;> simp [eqC] at h
  simp [Op.eqFields, h]
 | f :: fs, k, ks, xs, ys, X, Y, b, hf, h, hX, hY => by
  simp only [flatB] at hf
  cases hc : ((f.name != "_") && Nat.beq f.offset k && tyOneB P f.type) with
  | false => simp [hc] at hf
  | true =>
   simp only [hc] at hf
   cases hk : kindB P f.type with
   | none => simp [hk] at hf
   | some q =>
    simp only [hk] at hf
    cases hr : flatB P (k + 1) fs with
    | none => simp [hr] at hf
    | some r =>
     simp [hr] at hf
     subst hf
     simp only [Bool.and_eq_true] at hc
     obtain ⟨⟨hn, ho⟩, hT⟩ := hc
     have ho := Nat.eq_of_beq_eq_true ho
     have hn' : f.name ≠ "_" := by simpa using hn
     cases xs with
     | nil => simp [eqC] at h
     | cons x xs =>
      cases ys with
      | nil => simp [eqC] at h
      | cons y ys =>
       have hx0 := hX 0
       have hy0 := hY 0
       simp at hx0 hy0
       have hXs : ∀ q, xs[q]? = X[k + 1 + q]? := fun q => by have := hX (q + 1); simp at this; rw [this]; congr 1; omega
       have hYs : ∀ q, ys[q]? = Y[k + 1 + q]? := fun q => by have := hY (q + 1); simp at this; rw [this]; congr 1; omega
       simp only [eqC] at h
       cases he : eq1 q x y with
       | none => simp [he] at h
       | some b0 =>
        simp only [he] at h
        simp only [Op.eqFields, if_pos hn', Sem.run_bind]
        rw [part_run w hT (by rw [ho]; exact hx0.symm), Result.andThen_ok, part_run w hT (by rw [ho]; exact hy0.symm), Result.andThen_ok, eq1_run w hk he, Result.andThen_ok]
        cases r with
        | nil =>
         cases xs <;> cases ys <;> simp at h
         subst h
         have h9 := eqFields_run (d := d) fs (k + 1) [] [] [] X Y true hr rfl hXs hYs
         cases b0 with
         | true => simpa using h9
         | false => simp
        | cons k2 r2 =>
         simp only at h
         cases h8 : eqC (k2 :: r2) xs ys with
         | none => simp [h8] at h
         | some r8 =>
          simp [h8] at h
          subst h
          have h9 := eqFields_run (d := d) fs (k + 1) _ xs ys X Y r8 hr h8 hXs hYs
          cases b0 with
          | true => simpa using h9
          | false => simp
end
section
variable {m : Md} {P : Program} {N : Nat} {w0 : World} {S0 : Foot} {ops : List Oper} {i : Nat} {lq : List Nat} {env : Env} {ro rw : List SL} {K : Act → World → Prop} {d : Nat} {op : Op} {ty : TypeId} {pos : String} {aft : Array Edge} {g : Option (Nat × Bool)}
def eqN : BinOp → Bool → Option Bool
 | .eql, b => some b
 | .neq, b => some (!b)
 | _, _ => none
theorem HO_eqb {bop : BinOp} {T U : Nat} {x y : Operand} {a b r : Bool} [hT : TyBool P T] (ho : ops[i]? = some ⟨some d, .binOp bop T x y U, ty, pos, aft, g⟩) (hx : Env.ev env x = some (.bool a)) (hy : Env.ev env y = some (.bool b)) (he : eqN bop (decide (a = b)) = some r)
  (hw : wantE ops env g = some true) (hN : Nat.blt d N = true) (hr : rdyB m ops i lq = true)
  (h : HO m P N w0 S0 ops lq ((d, .bool r) :: env) ro rw K) : HO m P N w0 S0 ops (i :: lq) env ro rw K := by
 refine HO_val ho hw rfl hN hr (fun a' w ha hf => ?_) h
 have hab : (a == b) = decide (a = b) := by cases a <;> cases b <;> rfl
 cases bop <;> (try (simp [eqN] at he; done)) <;> (injection he with he; subst he) <;>
  simp only [execOp, eqGuard, binOp, Sem.run_bind, ha.ev hx, ha.ev hy, Go.run_equal_bool w T _ _ hT.h, hab] <;> simp [Go.run_equal_bool w T _ _ hT.h, hab]
theorem HO_eqf {bop : BinOp} {T U : Nat} {x y : Operand} {xs ys : List Value} {ks : List Nat} {b r : Bool} [hT : TyFlat P T ks] (ho : ops[i]? = some ⟨some d, .binOp bop T x y U, ty, pos, aft, g⟩) (hx : Env.ev env x = some (.agg xs.toArray)) (hy : Env.ev env y = some (.agg ys.toArray))
  (hc : eqC ks xs ys = some b) (he : eqN bop b = some r)
  (hw : wantE ops env g = some true) (hN : Nat.blt d N = true) (hr : rdyB m ops i lq = true)
  (h : HO m P N w0 S0 ops lq ((d, .bool r) :: env) ro rw K) : HO m P N w0 S0 ops (i :: lq) env ro rw K := by
 refine HO_val ho hw rfl hN hr (fun a w ha hf => ?_) h
 have hT := hT.h
 unfold flatTyB at hT
 cases hb : (!(P.stoodInHeld T) && !(P.eqGuardType P.depth T)) with
 | false => simp [hb] at hT
 | true =>
  simp only [hb] at hT
  simp only [Bool.and_eq_true, Bool.not_eq_true'] at hb
  cases hu : P.underlying T with
  | none => simp [hu] at hT
  | some D =>
   cases D <;> simp [hu] at hT
   rename_i fs
   have hfo : P.fieldsOf T = fs := by simp [Program.fieldsOf, hu]
   have hrun : (Op.equalIn 10000 T (.agg xs.toArray) (.agg ys.toArray)).run P w = .ok b w := by
    rw [show (10000 : Nat) = 9999 + 1 from rfl, run_equalIn_struct w 9999 T _ _ (by rw [hfo]; exact hu) hb.1, hfo]
    exact eqFields_run (d := 9998) w fs.toList 0 ks xs ys _ _ b hT hc (fun q => by simp) (fun q => by simp)
   simp only [execOp, Sem.run_bind, ha.ev hx, ha.ev hy]
   rw [run_eqGuard_agg w bop T x y _ _ hb.2, Result.andThen_ok]
   cases bop <;> (try (simp [eqN] at he; done)) <;> (injection he with he; subst he)
   ·rw [run_eql_struct, hrun]; simp
   ·rw [run_neq_struct, hrun]; simp
end
end Go.Proofs.YteeogabkkblkgaaGreatDoor
namespace Go.Proofs.YteeogabkkblkgaaGreatDoor
set_option linter.unusedVariables false
set_option linter.unusedSimpArgs false
open Go.RowKit
theorem Tri_ro {P : Program} {g : Nat} {args : List Value} {ro ro' rw : List SL} {α : Type} {φ : α → Prop} {val : α → Value} {es : α → List SL}
  (h : Tri P g args ro rw φ val es) (hs : AllSrc ro' ro) : Tri P g args ro' rw φ val es := fun w S hf =>
 (h w S ⟨hf.fr, hf.lt, hf.sub, hf.star, fun f hm => by
  rcases hs.get f hm with ⟨e0, he0, hent⟩ | hfree
  ·obtain ⟨F, hF, hp⟩ := hf.ros e0 he0
   exact ⟨F, hF, hent _ _ hp⟩
  ·exact ⟨fun _ => False, fun _ h => h.elim, hfree w⟩⟩).mono fun _ w' ⟨x, T, hx, he', hfx⟩ => ⟨x, T, hx, he', hfx.fr, hfx.lt, hfx.sub, hfx.star, fun f hm => by
  obtain ⟨F, hF, hp⟩ := hf.ros f hm
  exact ⟨F, fun b hb => ⟨Nat.lt_of_lt_of_le (hF b hb).1 hfx.fr.size, fun hT => (hfx.sub b hT).elim (hF b hb).2 (fun hge => by have := (hF b hb).1; omega)⟩, f.st F w w' (fun b hb => hfx.fr.block b (hF b hb).1 (hF b hb).2) hp⟩⟩
def inn (L : List SL) : SL where
 p S w := ∀ e ∈ L, ∃ F : Foot, (∀ b, F b → S b) ∧ e.p F w
 st S w w' h hp := fun e he => by
  obtain ⟨F, hF, hp⟩ := hp e he
  exact ⟨F, hF, e.st F w w' (fun b hb => h b (hF b hb)) hp⟩
theorem inn_arr {α : Type} {enc : α → List Value} {sz : Nat} {A : Option Addr} {xs : List α} {L : List SL} (h : arr enc sz A xs ∈ L) : Ent (inn L) (arr enc sz A xs) := fun S w hp hne => by
 obtain ⟨F, hF, h1⟩ := hp _ h
 obtain ⟨ad, h2, h3, h4⟩ := h1 hne
 exact ⟨ad, h2, hF _ h3, h4⟩
theorem Tri_inn {P : Program} {g : Nat} {args : List Value} {L ro rw : List SL} {α : Type} {φ : α → Prop} {val : α → Value} {es : α → List SL}
  (h : Tri P g args (inn L :: ro) rw φ val es) : Tri P g args (L ++ ro) rw φ val es := fun w S hf =>
 (h w S ⟨hf.fr, hf.lt, hf.sub, hf.star, fun f hm => by
  cases hm with
  | head => exact ⟨fun b => b < w.heap.size ∧ ¬ S b, fun b hb => hb, fun e he => by
     obtain ⟨F, hF, hp⟩ := hf.ros e (List.mem_append.2 (.inl he))
     exact ⟨F, hF, hp⟩⟩
  | tail _ hm => exact hf.ros f (List.mem_append.2 (.inr hm))⟩).mono fun _ w' ⟨x, T, hx, he', hfx⟩ => ⟨x, T, hx, he', hfx.fr, hfx.lt, hfx.sub, hfx.star, fun f hm => by
  obtain ⟨F, hF, hp⟩ := hf.ros f hm
  exact ⟨F, fun b hb => ⟨Nat.lt_of_lt_of_le (hF b hb).1 hfx.fr.size, fun hT => (hfx.sub b hT).elim (hF b hb).2 (fun hge => by have := (hF b hb).1; omega)⟩, f.st F w w' (fun b hb => hfx.fr.block b (hF b hb).1 (hF b hb).2) hp⟩⟩
theorem decT {p : Prop} [Decidable p] (h : p) : Value.bool (decide p) = Value.bool true := by rw [decide_eq_true h]
theorem decF {p : Prop} [Decidable p] (h : ¬ p) : Value.bool (decide p) = Value.bool false := by rw [decide_eq_false h]
theorem map_at {α : Type} {enc : α → List Value} {l : List α} {q : Nat} {a : α} (h : l[q]? = some a) : (l.map enc)[q]? = some (enc a) := by rw [List.getElem?_map, h]; rfl
class PlainMd (m : Md) : Prop where h : plainM m = true
instance : PlainMd .ord := ⟨rfl⟩
instance : PlainMd .quiet := ⟨rfl⟩
class SeeAt (m : Md) (ro rw : List SL) (A : Option Addr) (sz : outParam Nat) (xs : outParam (List (List Value))) : Prop where h : ∃ e, e ∈ seeL m ro rw ∧ (WfL sz xs → Ent e (arr idE sz A xs))
instance (priority := low) see_rw {m : Md} {ro rw : List SL} {A : Option Addr} {k sz : Nat} {xs : List (List Value)} [hm : PlainMd m] [h : SrcAt rw A k sz xs] : SeeAt m ro rw A sz xs := ⟨by
 obtain ⟨e, h1, h2⟩ := h.h
 exact ⟨e, by rw [seeL_plain hm.h]; exact List.mem_append.2 (.inr (List.mem_of_getElem? h1)), h2⟩⟩
instance see_ro {m : Md} {ro rw : List SL} {A : Option Addr} {k sz : Nat} {xs : List (List Value)} [h : SrcAt ro A k sz xs] : SeeAt m ro rw A sz xs := ⟨by
 obtain ⟨e, h1, h2⟩ := h.h
 exact ⟨e, seeL_ro (List.mem_of_getElem? h1), h2⟩⟩
section
variable {m : Md} {P : Program} {N : Nat} {w0 : World} {S0 : Foot} {ops : List Oper} {i : Nat} {lq : List Nat} {env : Env} {ro rw : List SL} {K : Act → World → Prop} {d : Nat} {op : Op} {ty : TypeId} {pos : String} {aft : Array Edge} {g : Option (Nat × Bool)}
theorem HO_dt {l : List Nat} {p : Prop} [Decidable p] (hp : p) (h : HO m P N w0 S0 ops l ((d, .bool true) :: env) ro rw K) : HO m P N w0 S0 ops l ((d, .bool (decide p)) :: env) ro rw K := HO_rw (decT hp) h
theorem HO_df {l : List Nat} {p : Prop} [Decidable p] (hp : ¬ p) (h : HO m P N w0 S0 ops l ((d, .bool false) :: env) ro rw K) : HO m P N w0 S0 ops l ((d, .bool (decide p)) :: env) ro rw K := HO_rw (decF hp) h
theorem HO_ndt {l : List Nat} {p : Prop} [Decidable p] (hp : p) (h : HO m P N w0 S0 ops l ((d, .bool false) :: env) ro rw K) : HO m P N w0 S0 ops l ((d, .bool (!decide p)) :: env) ro rw K := HO_rw (by rw [decide_eq_true hp]; rfl) h
theorem HO_ndf {l : List Nat} {p : Prop} [Decidable p] (hp : ¬ p) (h : HO m P N w0 S0 ops l ((d, .bool true) :: env) ro rw K) : HO m P N w0 S0 ops l ((d, .bool (!decide p)) :: env) ro rw K := HO_rw (by rw [decide_eq_false hp]; rfl) h
theorem HO_i64 {l : List Nat} {x : Int} (hx : -9223372036854775808 ≤ x ∧ x ≤ 9223372036854775807) (h : HO m P N w0 S0 ops l ((d, .int .i64 x) :: env) ro rw K) : HO m P N w0 S0 ops l ((d, .int .i64 (IntKind.i64.wrap x)) :: env) ro rw K := HO_rw (wrap_i64 hx) h
theorem HO_u32 {l : List Nat} {x : Int} (hx : 0 ≤ x ∧ x ≤ 4294967295) (h : HO m P N w0 S0 ops l ((d, .int .u32 x) :: env) ro rw K) : HO m P N w0 S0 ops l ((d, .int .u32 (IntKind.u32.wrap x)) :: env) ro rw K := HO_rw (wrap_u32 hx) h
theorem HO_u8 {l : List Nat} {x : Int} (hx : 0 ≤ x ∧ x ≤ 255) (h : HO m P N w0 S0 ops l ((d, .int .u8 x) :: env) ro rw K) : HO m P N w0 S0 ops l ((d, .int .u8 (IntKind.u8.wrap x)) :: env) ro rw K := HO_rw (wrap_u8 hx) h
theorem HO_ix {sz sz' T e c n by_ : Nat} {A : Option Addr} {xs : List (List Value)} {x y : Operand} {k : IntKind} {q : Int} [hT : TySlice P T e] [hI : TyInfo P e sz by_]
  (ho : ops[i]? = some ⟨some d, .indexAddr T x y, ty, pos, aft, g⟩) (hx : Env.ev env x = some (.slice A n c)) (hy : Env.ev env y = some (.int k q)) [hk : SeeAt m ro rw A sz' xs] (hs : Nat.beq sz sz' = true) (hwf : WfL sz' xs)
  (h0 : 0 ≤ q) (h1 : q < (n : Int)) (hn : n = xs.length) (hw : wantE ops env g = some true) (hN : Nat.blt d N = true) (hr : rdyB m ops i lq = true)
  (h : ∀ ad, A = some ad → HO m P N w0 S0 ops lq ((d, .pointer (some (eP ad q.toNat sz 0))) :: env) ro rw K) : HO m P N w0 S0 ops (i :: lq) env ro rw K := by
 obtain ⟨e0, hmem, hent⟩ := hk.h
 refine HO_gen (C := ∃ ad, A = some ad) (by cases m <;> first | rfl | exact (Bool.noConfusion hr)) (fun w hf => ?_) (fun ⟨ad, hA⟩ => ?_)
 ·obtain ⟨F, _, hp⟩ := hf _ hmem
  obtain ⟨ad, hA, _⟩ := hent hwf _ _ hp (by intro e; subst e; simp at hn; omega)
  exact ⟨ad, hA⟩
 ·subst hA
  refine HO_val ho hw rfl hN hr (fun a w ha hf => ?_) (h ad rfl)
  have hI := hI.h
  cases hin : P.info? e with
  | none => simp [hin] at hI
  | some inf =>
   simp [hin] at hI
   simp [execOp, Instr.indexAt, Sem.run_bind, run_underlying hT.h, asIntOf, ha.ev hx, ha.ev hy, h0, h1, run_sizeOf w hin, Program.cellsOf, hin, hI.1, eP, Addr.add]
end
end Go.Proofs.YteeogabkkblkgaaGreatDoor
namespace Go.Proofs.YteeogabkkblkgaaGreatDoor
set_option linter.unusedVariables false
set_option linter.unusedSimpArgs false
open Go.RowKit
def cutA (A : Option Addr) (sz m q : Nat) : Option Addr := if m = q then A else A.map (·.add (q * sz))
theorem cutA_zero {A : Option Addr} {sz m : Nat} : cutA A sz m 0 = A := by
 unfold cutA
 split
 ·rfl
 ·cases A <;> simp [Addr.add]
theorem arr_cut {α : Type} {enc : α → List Value} {sz : Nat} {A : Option Addr} {l : List α} (m q j : Nat) (hm : m = q → j = 0) : Ent (arr enc sz A l) (arr enc sz (cutA A sz m q) ((l.drop q).take j)) := fun S w h hne => by
 have hj : j ≠ 0 := fun e => hne (by simp [e])
 have hmq : m ≠ q := fun e => hj (hm e)
 obtain ⟨ad, hA, hS, hc⟩ := h (fun e => hne (by simp [e]))
 refine ⟨ad.add (q * sz), by simp [cutA, hmq, hA], by rw [block_of_add]; exact hS, fun p x hp k u hk => ?_⟩
 rw [List.getElem?_take] at hp
 split at hp
 ·rw [List.getElem?_drop] at hp
  have := hc _ x hp k u hk
  rw [add_of_add]
  rwa [show q * sz + (p * sz + k) = (q + p) * sz + k from by rw [Nat.add_mul]; omega]
 ·cases hp
theorem arr_take {α : Type} {enc : α → List Value} {sz : Nat} {A : Option Addr} {l : List α} (j : Nat) : Ent (arr enc sz A l) (arr enc sz A (l.take j)) := fun S w h hne => by
 obtain ⟨ad, hA, hS, hc⟩ := h (fun e => hne (by simp [e]))
 refine ⟨ad, hA, hS, fun p x hp k u hk => ?_⟩
 rw [List.getElem?_take] at hp
 split at hp
 ·exact hc _ x hp k u hk
 ·cases hp
theorem arr_drop {α : Type} {enc : α → List Value} {sz : Nat} {A : Option Addr} {l : List α} (m q : Nat) (hm : m = q → l.length ≤ q) : Ent (arr enc sz A l) (arr enc sz (cutA A sz m q) (l.drop q)) := fun S w h => by
 have := arr_cut (enc := enc) (sz := sz) (A := A) (l := l) m q (l.length - q) (fun e => by have := hm e; omega) S w h
 rwa [List.take_of_length_le (by simp)] at this
section
variable {m : Md} {P : Program} {N : Nat} {w0 : World} {S0 : Foot} {ops : List Oper} {i : Nat} {lq : List Nat} {env : Env} {ro rw : List SL} {K : Act → World → Prop} {d : Nat} {op : Op} {ty : TypeId} {pos : String} {aft : Array Edge} {g : Option (Nat × Bool)}
def optI (env : Env) : Option Operand → Nat → Option Int
 | none, n => some n
 | some x, _ => match Env.ev env x with
  | some (.int _ v) => some v
  | _ => none
def okS : Option Operand → Option Operand → Bool
 | none, some _ => false
 | _, _ => true
theorem HO_slc {T e sz by_ n c : Nat} {A : Option Addr} {x : Operand} {lo hi mx : Option Operand} {li hi' mi : Int} [hT : TySlice P T e] [hI : TyInfo P e sz by_]
  (ho : ops[i]? = some ⟨some d, .slice T x lo hi mx, ty, pos, aft, g⟩) (hx : Env.ev env x = some (.slice A n c)) (hok : okS hi mx = true) (hm : optI env mx c = some mi) (hh : optI env hi n = some hi') (hl : optI env lo 0 = some li)
  (hb : 0 ≤ li ∧ li ≤ hi' ∧ (hi = none ∨ hi' ≤ mi) ∧ (mx = none ∨ mi ≤ c)) (hw : wantE ops env g = some true) (hN : Nat.blt d N = true) (hr : rdyB m ops i lq = true)
  (h : HO m P N w0 S0 ops lq ((d, .slice (cutA A sz mi.toNat li.toNat) (hi'.toNat - li.toNat) (mi.toNat - li.toNat)) :: env) ro rw K) : HO m P N w0 S0 ops (i :: lq) env ro rw K := by
 refine HO_val ho hw rfl hN hr (fun a w ha hf => ?_) h
 have hI := hI.h
 obtain ⟨hb1, hb2, hb3, hb4⟩ := hb
 cases hin : P.info? e with
 | none => simp [hin] at hI
 | some inf =>
  simp [hin] at hI
  have hsz := run_sizeOf w hin
  rw [show P.cellsOf e = sz by simp [Program.cellsOf, hin, hI.1]] at hsz
  have key : (Instr.slice T (.slice A n c) (lo.map a.eval) (hi.map a.eval) (mx.map a.eval)).run P w = .ok (.slice (cutA A sz mi.toNat li.toNat) (hi'.toNat - li.toNat) (mi.toNat - li.toNat)) w := by
   have hbnd : (Instr.sliceBounds true n c (lo.map a.eval) (hi.map a.eval) (mx.map a.eval)).run P w = .ok (li.toNat, hi'.toNat, mi.toNat) w := by
    unfold Instr.sliceBounds
    have opt : ∀ (o : Option Operand) (q : Nat) (v : Int), optI env o q = some v → (o = none ∧ v = q) ∨ ∃ y k, o = some y ∧ a.eval y = .int k v := fun o q v hv => by
     cases o with
     | none => simp [optI] at hv; exact .inl ⟨rfl, hv.symm⟩
     | some y =>
      simp only [optI] at hv
      cases hy : Env.ev env y with
      | none => simp [hy] at hv
      | some u =>
       cases u <;> simp [hy] at hv
       rename_i k v'
       subst hv
       exact .inr ⟨y, k, rfl, ha.ev hy⟩
    have bound : ∀ (k : IntKind) (v : Int) (y : Nat) (code : BoundsCode), 0 ≤ v → v ≤ y → (Instr.sliceBound (.int k v) y code).run P w = .ok v.toNat w := fun k v y code h0 h1 => by
     simp [Instr.sliceBound, asIntOf, Sem.run_bind, h0, h1]
    rcases opt mx c mi hm with ⟨rfl, rfl⟩ | ⟨ym, km, rfl, em⟩ <;> rcases opt hi n hi' hh with ⟨rfl, rfl⟩ | ⟨yh, kh, rfl, eh⟩ <;> rcases opt lo 0 li hl with ⟨rfl, rfl⟩ | ⟨yl, kl, rfl, el⟩
    all_goals try (simp [okS] at hok; done)
    all_goals try simp only [reduceCtorEq, false_or] at hb3
    all_goals try simp only [reduceCtorEq, false_or] at hb4
    all_goals simp only [Option.map_none, Option.map_some, Sem.run_bind, Sem.run_pure, Result.andThen_ok, Int.toNat_natCast, *]
    all_goals (repeat (first | rw [bound _ _ _ _ (by omega) (by omega)] | simp only [Result.andThen_ok, Sem.run_pure, Int.toNat_natCast]))
    all_goals try rfl
   unfold Instr.slice
   simp only [Sem.run_bind, run_underlying hT.h, Result.andThen_ok, hbnd, hsz, Sem.run_pure]
   rfl
  have hx' := ha.ev hx
  simp [execOp, Sem.run_bind, Instr.sliceAt, run_underlying hT.h, hx', key]
theorem repl_flat (z : Value) : ∀ q : Nat, (List.replicate q [z]).flatMap idE = List.replicate q z
 | 0 => rfl
 | q + 1 => by rw [List.replicate_succ, List.flatMap_cons, repl_flat z q]; rfl
theorem HO_mks {T e by_ : Nat} {z : Value} {x y : Operand} {k k' : IntKind} {n : Int} [hT : TySlice P T e] [hI : TyInfo P e 1 by_] [hZ : TyZero P e z]
  (ho : ops[i]? = some ⟨some d, .makeSlice T x y, ty, pos, aft, g⟩) (hx : Env.ev env x = some (.int k n)) (hy : Env.ev env y = some (.int k' n)) (hz1 : cellsL z = [z]) (h0 : 0 ≤ n) (hb : n * by_ ≤ 281474976710656) (hb2 : n ≤ 9223372036854775807)
  (hw : wantE ops env g = some true) (hN : Nat.blt d N = true) (hs : soleB m ops i lq = true)
  (h : ∀ b : Nat, HO (nmM m) P N w0 S0 ops lq ((d, .slice (some ⟨b, 0, none⟩) n.toNat n.toNat) :: env) ro (own idE e 1 (some ⟨b, 0, none⟩) n.toNat n.toNat (List.replicate n.toNat [z]) :: rw) K) : HO m P N w0 S0 ops (i :: lq) env ro rw K := by
 refine HO_act_ex (α := Nat) (φ := fun _ => True) (v := fun b => .slice (some ⟨b, 0, none⟩) n.toNat n.toNat) (rw' := fun b => own idE e 1 (some ⟨b, 0, none⟩) n.toNat n.toNat (List.replicate n.toNat [z]) :: rw) ho hw rfl hN hs (fun w1 S1 a S w ha hf => ?_) (fun b _ => h b)
 obtain ⟨q, rfl⟩ : ∃ q : Nat, n = q := ⟨n.toNat, by omega⟩
 have hI := hI.h
 have hz := hZ.h
 cases hin : P.info? e with
 | none => simp [hin] at hI
 | some inf =>
  simp [hin] at hI hz
  have hzc : z.cells = #[z] := by rw [cellsL_eq, hz1]
  have hb' : inf.bytes * q ≤ 281474976710656 := by
   rw [hI.2, Nat.mul_comm]
   have : ((q * by_ : Nat) : Int) ≤ 281474976710656 := by rw [Int.natCast_mul]; exact hb
   omega
  obtain ⟨w', hrun, how, hg⟩ := run_make_full (P := P) w 0 T e inf z 1 hT.h hin hz hI.1 k k' q hb' (by unfold maxLen; omega) (Nat.zero_le _)
  have hlt : w.heap.size < w'.heap.size := by
   rcases how.2 with ⟨hv, _⟩ | ⟨g', cap, cur, hv, _, hh, _⟩
   ·injection hv with hv; cases hv
   ·injection hv with hv
    injection hv with hv
    injection hv with hv
    subst hv
    rcases Nat.lt_or_ge w.heap.size w'.heap.size with h' | h'
    ·exact h'
    ·rw [Array.getElem?_eq_none h'] at hh; cases hh
  have hrow : (List.replicate q [z]).flatMap idE = (madeCells z.cells (q * 1)).toList := by
   rw [hzc, Nat.mul_one, toList_madeCells_one]
   exact repl_flat z q
  obtain ⟨T', hf'⟩ := hf.new (w' := w') ⟨hg.os, hg.tape, hg.output, hg.size, fun k hk => hg.block k hk (by simp)⟩ [own idE e 1 (some ⟨w.heap.size, 0, none⟩) q q (List.replicate q [z])] (fun b => b = w.heap.size) (fun b hb => by subst hb; exact ⟨Nat.le_refl _, hlt⟩)
   ⟨fun b => b = w.heap.size, fun _ => False, fun _ h => h, fun _ h => h.elim, fun _ _ h => h, ⟨by simp, by rw [hrow]; exact how, fun ad hA => by injection hA with hA; rw [← hA]⟩, trivial⟩
  refine ⟨w.heap.size, T', w', trivial, ?_, by simpa using hf'⟩
  simp [execOp, Sem.run_bind, ha.ev hx, ha.ev hy, hrun]
theorem flatMap_set {xs : List (List Value)} {sz : Nat} : ∀ (q off : Nat) (row : List Value) (v : Value) (_ : ∀ x ∈ xs, x.length = sz) (_ : xs[q]? = some row) (_ : off < sz), (xs.flatMap idE).set (q * sz + off) v = (xs.set q (row.set off v)).flatMap idE := by
 induction xs with
 | nil => intro q off row v _ h _; simp at h
 | cons x xs ih =>
  intro q off row v hl hq ho
  have hx : x.length = sz := hl x (by simp)
  cases q with
  | zero =>
   simp at hq
   subst hq
   rw [Nat.zero_mul, Nat.zero_add, List.flatMap_cons, List.set_cons_zero, List.flatMap_cons]
   exact List.set_append_left _ _ (by show off < x.length; omega)
  | succ q =>
   have h1 := ih q off row v (fun y hy => hl y (by simp [hy])) (by simpa using hq) ho
   rw [List.flatMap_cons, List.set_cons_succ, List.flatMap_cons, ← h1]
   have e : (q + 1) * sz + off = (idE x).length + (q * sz + off) := by show _ = x.length + _; rw [hx, Nat.add_mul]; omega
   rw [e, List.set_append_right _ _ (by omega), Nat.add_sub_cancel_left]
theorem HO_b2s {T U n c : Nat} {A : Option Addr} {x : Operand} {l : List UInt8} {e : Nat} [hT : TySlice P T e] [hE : TyInt P e .u8] [hU : TyStr P U] (ho : ops[i]? = some ⟨some d, .convert T U x, ty, pos, aft, g⟩) (hx : Env.ev env x = some (.slice A n c))
  (hk : ∃ e, e ∈ seeL m ro rw ∧ Ent e (arr idE 1 A (l.map fun b => [.int .u8 b.toNat]))) (hn : n = l.length)
  (hw : wantE ops env g = some true) (hN : Nat.blt d N = true) (hr : rdyB m ops i lq = true)
  (h : HO m P N w0 S0 ops lq ((d, .string ⟨l.toArray⟩) :: env) ro rw K) : HO m P N w0 S0 ops (i :: lq) env ro rw K := by
 obtain ⟨src, hmem, hent⟩ := hk
 refine HO_val ho hw rfl hN hr (fun a w ha hf => ?_) h
 obtain ⟨F, _, hp⟩ := hf _ hmem
 have hs := hent _ _ hp
 have key : (Conv.bytesToString (.slice A n c)).run P w = .ok (.string ⟨l.toArray⟩) w := by
  cases A with
  | none =>
   have : l = [] := by
    cases l with
    | nil => rfl
    | cons b l => obtain ⟨ad, hA, _⟩ := hs (by simp); cases hA
   subst this
   simp [Conv.bytesToString]
   rfl
  | some ad =>
   have hload : (loadCells ad n).run P w = .ok ((l.map fun b => (b.toNat : Int)).map (Value.int .u8)).toArray w := by
    have hc : ∀ k v, (l.map fun b => Value.int .u8 (b.toNat : Int))[k]? = some v → w.cell? (ad.add (0 + k)) = some v := fun k v hk => by
     have hkl := (List.getElem?_eq_some_iff.1 hk).1
     obtain ⟨ad', hA, _, hcc⟩ := hs (by intro e; simp at e; subst e; simp at hkl)
     injection hA with hA
     subst hA
     rw [List.getElem?_map, Option.map_eq_some_iff] at hk
     obtain ⟨b, hb, rfl⟩ := hk
     have := hcc k [.int .u8 b.toNat] (by rw [List.getElem?_map, hb]; rfl) 0 _ rfl
     simpa using this
    have := run_loadCellsFrom (P := P) w ad (l.map fun b => Value.int .u8 (b.toNat : Int)) 0 #[] hc
    simp only [loadCells]
    rw [hn]
    simpa [Function.comp_def] using this
   have hb := run_bytesToString (P := P) w ad n c _ hload
   rw [hb]
   have : ∀ (l : List UInt8) (s : ByteArray), (l.map fun b => (b.toNat : Int)).foldl (fun r n => r.push (UInt8.ofNat n.toNat)) s = ⟨s.data ++ l.toArray⟩ := fun l => by
    induction l with
    | nil => intro s; simp
    | cons b l ih =>
     intro s
     rw [List.map_cons, List.foldl_cons, ih]
     simp [ByteArray.push]
   rw [this]
   simp [ByteArray.empty, ByteArray.emptyWithCapacity]
   try rfl
 simp [execOp, convert, Sem.run_bind, run_underlying hT.h, run_underlying hU.h, run_underlying hE.h, ha.ev hx, key]
end
end Go.Proofs.YteeogabkkblkgaaGreatDoor
namespace Go.Proofs.YteeogabkkblkgaaGreatDoor
set_option linter.unusedVariables false
set_option linter.unusedSimpArgs false
open Go.RowKit
class TyPtr (P : Program) (T : Nat) (e : outParam Nat) : Prop where h : P.underlying T = some (.pointer e)
section
variable {m : Md} {P : Program} {N : Nat} {w0 : World} {S0 : Foot} {ops : List Oper} {i : Nat} {lq : List Nat} {env : Env} {ro rw : List SL} {K : Act → World → Prop} {d : Nat} {op : Op} {ty : TypeId} {pos : String} {aft : Array Edge} {g : Option (Nat × Bool)}
theorem eqs_run {T e n c D : Nat} {A : Option Addr} (w : World) (hT : P.underlying T = some (.slice e)) : (Op.equalIn (D + 1) T (.slice A n c) (.slice none 0 0)).run P w = .ok A.isNone w := by
 cases A <;> simp [Op.equalIn, Sem.run_bind, run_underlying hT]
theorem eqp_run {T e D : Nat} {A : Option Addr} (w : World) (hT : P.underlying T = some (.pointer e)) : (Op.equalIn (D + 1) T (.pointer A) (.pointer none)).run P w = .ok A.isNone w := by
 cases A <;> simp [Op.equalIn, Sem.run_bind, run_underlying hT]
theorem HO_eqs {bop : BinOp} {T U e n c : Nat} {A : Option Addr} {x y : Operand} {r : Bool} [hT : TySlice P T e] (ho : ops[i]? = some ⟨some d, .binOp bop T x y U, ty, pos, aft, g⟩) (hx : Env.ev env x = some (.slice A n c)) (hy : Env.ev env y = some (.slice none 0 0)) (he : eqN bop A.isNone = some r)
  (hw : wantE ops env g = some true) (hN : Nat.blt d N = true) (hr : rdyB m ops i lq = true)
  (h : HO m P N w0 S0 ops lq ((d, .bool r) :: env) ro rw K) : HO m P N w0 S0 ops (i :: lq) env ro rw K := by
 refine HO_val ho hw rfl hN hr (fun a' w ha hf => ?_) h
 cases bop <;> (try (simp [eqN] at he; done)) <;> (injection he with he; subst he) <;>
  simp [execOp, eqGuard, binOp, Sem.run_bind, ha.ev hx, ha.ev hy, Op.equal, show Op.maxDepth = 9999 + 1 from rfl, eqs_run w hT.h]
theorem HO_eqp {bop : BinOp} {T U e : Nat} {A : Option Addr} {x y : Operand} {r : Bool} [hT : TyPtr P T e] (ho : ops[i]? = some ⟨some d, .binOp bop T x y U, ty, pos, aft, g⟩) (hx : Env.ev env x = some (.pointer A)) (hy : Env.ev env y = some (.pointer none)) (he : eqN bop A.isNone = some r)
  (hw : wantE ops env g = some true) (hN : Nat.blt d N = true) (hr : rdyB m ops i lq = true)
  (h : HO m P N w0 S0 ops lq ((d, .bool r) :: env) ro rw K) : HO m P N w0 S0 ops (i :: lq) env ro rw K := by
 refine HO_val ho hw rfl hN hr (fun a' w ha hf => ?_) h
 cases bop <;> (try (simp [eqN] at he; done)) <;> (injection he with he; subst he) <;>
  simp [execOp, eqGuard, binOp, Sem.run_bind, ha.ev hx, ha.ev hy, Op.equal, show Op.maxDepth = 9999 + 1 from rfl, eqp_run w hT.h]
theorem HO_nilc {x : Operand} {a : Addr} (ho : ops[i]? = some ⟨some d, .nilCheck x, ty, pos, aft, g⟩) (hx : Env.ev env x = some (.pointer (some a)))
  (hw : wantE ops env g = some true) (hN : Nat.blt d N = true) (hr : rdyB m ops i lq = true)
  (h : HO m P N w0 S0 ops lq ((d, .pointer (some a)) :: env) ro rw K) : HO m P N w0 S0 ops (i :: lq) env ro rw K := by
 refine HO_val ho hw rfl hN hr (fun a' w ha hf => ?_) h
 simp [execOp, ha.ev hx]
def shS (op : BinOp) (k : IntKind) (a : Int) (n : Nat) : Option Value := match op with
 | .shl => some (.int k (bShl k a n))
 | .shr => some (.int k (bShr k a n))
 | _ => none
theorem HO_sh {bop : BinOp} {T U : Nat} {x y : Operand} {k k' : IntKind} {p q : Int} {v : Value} (ho : ops[i]? = some ⟨some d, .binOp bop T x y U, ty, pos, aft, g⟩) (hx : Env.ev env x = some (.int k p)) (hy : Env.ev env y = some (.int k' q)) (hs : shS bop k p q.toNat = some v) (h0 : 0 ≤ q)
  (hw : wantE ops env g = some true) (hN : Nat.blt d N = true) (hr : rdyB m ops i lq = true)
  (h : HO m P N w0 S0 ops lq ((d, v) :: env) ro rw K) : HO m P N w0 S0 ops (i :: lq) env ro rw K := by
 refine HO_val ho hw rfl hN hr (fun a' w ha hf => ?_) h
 have h0' : ¬ q < 0 := by omega
 cases bop <;> simp [shS] at hs <;> subst hs <;> simp [execOp, eqGuard, binOp, Op.shift, Sem.run_bind, ha.ev hx, ha.ev hy, h0', bShl, bShr]
theorem HO_slc0 {T e sz by_ n c : Nat} {A : Option Addr} {x : Operand} {hi mx : Option Operand} {hi' mi : Int} [hT : TySlice P T e] [hI : TyInfo P e sz by_]
  (ho : ops[i]? = some ⟨some d, .slice T x none hi mx, ty, pos, aft, g⟩) (hx : Env.ev env x = some (.slice A n c)) (hok : okS hi mx = true) (hm : optI env mx c = some mi) (hh : optI env hi n = some hi')
  (hb : 0 ≤ hi' ∧ (hi = none ∨ hi' ≤ mi) ∧ (mx = none ∨ mi ≤ c)) (hw : wantE ops env g = some true) (hN : Nat.blt d N = true) (hr : rdyB m ops i lq = true)
  (h : HO m P N w0 S0 ops lq ((d, .slice A hi'.toNat mi.toNat) :: env) ro rw K) : HO m P N w0 S0 ops (i :: lq) env ro rw K := by
 refine HO_slc (li := 0) ho hx hok hm hh rfl ⟨Int.le_refl _, hb.1, hb.2.1, hb.2.2⟩ hw hN hr ?_
 rw [show (0 : Int).toNat = 0 from rfl, cutA_zero, Nat.sub_zero, Nat.sub_zero]
 exact h
theorem HX_know {C : Prop} {x : Exit} {Q : Exit → Act → World → Prop} (hC : ∀ w, RoOk (ro ++ rw) w → C) (h : C → HX N w0 S0 x env ro rw Q) : HX N w0 S0 x env ro rw Q :=
 fun a S w ha hf => h (hC w hf.roOk) a S w ha hf
theorem Tri_know {C : Prop} {f : Nat} {args : List Value} {α : Type} {φ : α → Prop} {val : α → Value} {es : α → List SL} (hC : ∀ w, RoOk (ro ++ rw) w → C) (h : C → Tri P f args ro rw φ val es) : Tri P f args ro rw φ val es :=
 fun w S hf => h (hC w hf.roOk) w S hf
theorem arr_some {α : Type} {enc : α → List Value} {sz : Nat} {A : Option Addr} {l : List α} {es : List SL} {w : World} (k : Nat) (hk : es[k]? = some (arr enc sz A l)) (h : RoOk es w) : A = none → l = [] := fun hA => by
 obtain ⟨F, _, hp⟩ := h _ (List.mem_of_getElem? hk)
 cases l with
 | nil => rfl
 | cons x l =>
  obtain ⟨ad, h1, _⟩ := hp (by simp)
  rw [hA] at h1
  cases h1
theorem own_cap {α : Type} {enc : α → List Value} {T sz n c : Nat} {A : Option Addr} {l : List α} {es : List SL} {w : World} (k : Nat) (hk : es[k]? = some (own enc T sz A n c l)) (h : RoOk es w) : n ≤ c := by
 obtain ⟨F, _, hp⟩ := h _ (List.mem_of_getElem? hk)
 rcases hp.2.1.2 with ⟨hv, hn⟩ | ⟨g, cap, cur, hv, _, _, hnc, _⟩
 ·omega
 ·injection hv with _ _ hc
  omega
theorem HC_see {α : Type} {enc : α → List Value} {sz : Nat} {A : Option Addr} {xs : List α} {L : List SL} {c : Code} {Q : Exit → Act → World → Prop} (hin : inn L ∈ ro) (hmem : arr enc sz A xs ∈ L)
  (h : HC P N w0 S0 c env (arr enc sz A xs :: ro) rw Q) : HC P N w0 S0 c env ro rw Q := fun a S w ha hf =>
 h a S w ha ⟨hf.fr, hf.lt, hf.sub, hf.star, fun e he => by
  cases he with
  | head =>
   obtain ⟨F, hF, hp⟩ := hf.ros _ hin
   exact ⟨F, hF, inn_arr hmem _ _ hp⟩
  | tail _ he => exact hf.ros e he⟩
theorem HX_unsee {e : SL} {x : Exit} {Q : Exit → Act → World → Prop} (h : HX N w0 S0 x env ro rw Q) : HX N w0 S0 x env (e :: ro) rw Q := fun a S w ha hf =>
 h a S w ha ⟨hf.fr, hf.lt, hf.sub, hf.star, fun f hm => hf.ros f (List.mem_cons_of_mem _ hm)⟩
def adr (A : Option Addr) : Addr := A.getD ⟨0, 0, none⟩
theorem HO_ixA {sz sz' T e c n by_ : Nat} {A : Option Addr} {xs : List (List Value)} {x y : Operand} {k : IntKind} {q : Int} [hT : TySlice P T e] [hI : TyInfo P e sz by_]
  (ho : ops[i]? = some ⟨some d, .indexAddr T x y, ty, pos, aft, g⟩) (hx : Env.ev env x = some (.slice A n c)) (hy : Env.ev env y = some (.int k q)) [hk : SeeAt m ro rw A sz' xs] (hs : Nat.beq sz sz' = true) (hwf : WfL sz' xs)
  (h0 : 0 ≤ q) (h1 : q < (n : Int)) (hn : n = xs.length) (hw : wantE ops env g = some true) (hN : Nat.blt d N = true) (hr : rdyB m ops i lq = true)
  (h : HO m P N w0 S0 ops lq ((d, .pointer (some (eP (adr A) q.toNat sz 0))) :: env) ro rw K) : HO m P N w0 S0 ops (i :: lq) env ro rw K :=
 HO_ix ho hx hy hs hwf h0 h1 hn hw hN hr fun ad hA => by
  have : adr A = ad := by rw [hA]; rfl
  rw [← this]
  exact h
theorem HO_ldA {x : Operand} {T q sz sz' off n : Nat} {A : Option Addr} {ag : Bool} {v : Value} {row l : List Value} {xs : List (List Value)} [hT : TyKind P T ag n] (ho : ops[i]? = some ⟨some d, .load T x, ty, pos, aft, g⟩) (hx : Env.ev env x = some (.pointer (some (eP (adr A) q sz off))))
  [hk : SeeAt m ro rw A sz' xs] (hs : Nat.beq sz sz' = true) (hwf : WfL sz' xs) (hq : xs[q]? = some row) (hv : subL row off n = some l) (hl : valOf ag l = some v) (hw : wantE ops env g = some true) (hN : Nat.blt d N = true) (hr : rdyB m ops i lq = true)
  (h : HO m P N w0 S0 ops lq ((d, v) :: env) ro rw K) : HO m P N w0 S0 ops (i :: lq) env ro rw K := by
 obtain ⟨e0, hmem, hent⟩ := hk.h
 refine HO_val ho hw rfl hN hr (fun a w ha hf => ?_) h
 obtain ⟨F, _, hp⟩ := hf _ hmem
 have hs := Nat.eq_of_beq_eq_true hs
 subst hs
 obtain ⟨ad, he, _, hc⟩ := hent hwf _ _ hp (by intro e; subst e; simp at hq)
 subst he
 rw [show adr (some ad) = ad from rfl] at hx
 obtain ⟨hll, hcc⟩ := subL_spec _ _ _ _ hv
 have cell : ∀ k u, l[k]? = some u → w.cell? ((eP ad q sz off).add k) = some u := fun k u hku => by
  rw [eP_add, eP_eq]
  have hlt := (List.getElem?_eq_some_iff.1 hku).1
  exact hc q row hq (off + k) u ((hcc k (by omega)).trans hku)
 have hT := hT.h
 have hload : (loadVar T (eP ad q sz off)).run P w = .ok v w := by
  cases ag with
  | true =>
   simp [valOf] at hl
   subst hl hll
   exact run_loadVar_agg w hT cell
  | false =>
   simp only [Bool.and_eq_true, beq_iff_eq] at hT
   match l, hl with
   | [u], hl =>
    simp [valOf] at hl
    subst hl
    have h9 := cell 0 u rfl
    exact run_loadVar_one w hT.1 (by simpa [eP_add] using h9)
 simp [execOp, Instr.loadAt, Instr.sureAddr, ha.ev hx, Sem.run_bind, hload]
theorem HO_stA {x y : Operand} {T q sz off k e n c sz' : Nat} {A0 : Option Addr} {v : Value} {row row' : List Value} {xs : List (List Value)} {rw' : List SL} [hT : TyOne P T]
  (ho : ops[i]? = some ⟨none, .store T x y, ty, pos, aft, g⟩) (hx : Env.ev env x = some (.pointer (some (eP (adr A0) q sz off)))) (hy : Env.ev env y = some v) (h1 : cellsL v = [v]) (h1' : v.oneCell' = true)
  [hk : OwnAt rw A0 k e sz' n c xs] (hs' : Nat.beq sz sz' = true) (hwf : WfL sz' xs) (hq : xs[q]? = some row) (hoff : Nat.blt off sz = true) (hrow : putL row off [v] = some row')
  (hrw : setO rw k (own idE e sz' A0 n c (xs.set q row')) = some rw') (hw : wantE ops env g = some true) (hs : soleB m ops i lq = true)
  (h : HO (nmM m) P N w0 S0 ops lq env ro rw' K) : HO m P N w0 S0 ops (i :: lq) env ro rw K := by
 have hs' := Nat.eq_of_beq_eq_true hs'
 subst hs'
 have hrw := setO_eq hrw
 subst hrw
 have hoff : off < sz := by simpa [Nat.blt_eq] using hoff
 obtain ⟨hlt, hput⟩ := putL_cons _ _ _ _ _ hrow
 have hput : row' = row.set off v := by simpa [putL] using hput.symm
 subst hput
 refine HO_unit ho hw rfl hs (fun w1 S1 a S w ha hf => ?_) h
 obtain ⟨A, hA, hp, hss⟩ := set_get hk.h (own idE e sz A0 n c (xs.set q (row.set off v))) hf.star
 obtain ⟨hn, how, hS⟩ := hp
 have hql0 : q < xs.length := (List.getElem?_eq_some_iff.1 hq).1
 obtain ⟨g', hA0⟩ : ∃ g', A0 = some ⟨g', 0, none⟩ := by
  rcases how.2 with ⟨_, hn0⟩ | ⟨g', cap, cur, hv, _⟩
  ·omega
  ·injection hv with hv; exact ⟨g', hv⟩
 subst hA0
 have hSb := hS _ rfl
 rw [show adr (some ⟨g', 0, none⟩) = ⟨g', 0, none⟩ from rfl] at hx
 have hlen : ∀ x ∈ xs, x.length = sz := fun x hx => (hwf x hx).1
 have hql : q < xs.length := (List.getElem?_eq_some_iff.1 hq).1
 have haddr : eP ⟨g', 0, none⟩ q sz off = ⟨g', q * sz + off, none⟩ := by rw [eP_eq, addr_add]; simp
 have hcell : w.cell? ⟨g', q * sz + off, none⟩ = (xs.flatMap idE)[q * sz + off]? := how.cellAt _ (by
  rw [hn]
  have := Nat.mul_le_mul_right sz (show q + 1 ≤ xs.length by omega)
  rw [Nat.add_mul] at this
  omega)
 have hsome : (xs.flatMap idE)[q * sz + off]? = some (row[off]'hlt) := flatMap_at xs hlen q row hq off _ (List.getElem?_eq_getElem hlt)
 have hfz := how.frozenAt (q * sz + off)
 obtain ⟨how', hg⟩ := how.stored (q * sz + off) v
 have hst : (store ⟨g', q * sz + off, none⟩ v).run P w = .ok () (w.setCell ⟨g', q * sz + off, none⟩ v) := by
  rw [run_store P w _ v .plain h1']
  simp [stored, hcell, hsome, hfz]
 have hblk : ∀ c, c ≠ g' → (w.setCell ⟨g', q * sz + off, none⟩ v).heap[c]? = w.heap[c]? := fun c hc => Below.heap_setCell _ _ _ _ hc
 have hzz : (w.setCell ⟨g', q * sz + off, none⟩ v).heap.size = w.heap.size := by simp [World.setCell]
 refine ⟨S, w.setCell ⟨g', q * sz + off, none⟩ v, ?_, ⟨⟨hf.fr.os, hf.fr.tape, hf.fr.output, by rw [hzz]; exact hf.fr.size, fun c hc hn' => ?_⟩, fun c hc => by rw [hzz]; exact hf.lt c hc, hf.sub, ?_, fun e he => ?_⟩⟩
 ·simp only [execOp, Instr.storeAt, Instr.sureAddr, ha.ev hx, ha.ev hy, Sem.run_bind, Sem.run_pure, Result.andThen_ok, storeVar, size_one w hT.h, cellsL_eq, h1]
  simp [storeCells, haddr, addr_add, hst, Sem.run_bind]
 ·by_cases hcb : c = g'
  ·subst hcb
   exact absurd ((hf.sub c (hA c hSb)).resolve_left hn') (by omega)
  ·exact (hblk c hcb).trans (hf.fr.block c hc hn')
 ·exact hss _ (fun c hc hn' => by
   by_cases hcb : c = g'
   ·subst hcb; exact absurd hSb hn'
   ·exact hblk c hcb) ⟨by simpa using hn, by rw [← flatMap_set q off row v hlen hq hoff]; exact how', hS⟩
 ·obtain ⟨F, hF, hpe⟩ := hf.ros e he
  refine ⟨F, fun c hc => ⟨by rw [hzz]; exact (hF c hc).1, (hF c hc).2⟩, e.st F w _ (fun c hc => ?_) hpe⟩
  by_cases hcb : c = g'
  ·subst hcb; exact absurd (hA c hSb) (hF c hc).2
  ·exact hblk c hcb
theorem HC_add {e : SL} {c : Code} {Q : Exit → Act → World → Prop} (he : ∀ w, e.p (fun _ => False) w) (h : HC P N w0 S0 c env ro (e :: rw) Q) : HC P N w0 S0 c env ro rw Q := HQ_add he h
theorem HC_keeps {rw' : List SL} {c : Code} {Q : Exit → Act → World → Prop} (hk : Keeps rw rw') (h : HC P N w0 S0 c env ro rw' Q) : HC P N w0 S0 c env ro rw Q := fun a S w ha hf => by
 obtain ⟨T, hT⟩ := hf.keeps hk
 exact h a T w ha hT
theorem HO_cap {T e n c : Nat} {A : Option Addr} {x : Operand} [hT : TySlice P T e] (ho : ops[i]? = some ⟨some d, .call { callee := .builtin .cap, args := #[x], argTypes := #[T] }, ty, pos, aft, g⟩)
  (hx : Env.ev env x = some (.slice A n c)) (hw : wantE ops env g = some true) (hN : Nat.blt d N = true) (hr : rdyB m ops i lq = true)
  (h : HO m P N w0 S0 ops lq ((d, .int .i64 (c : Int)) :: env) ro rw K) : HO m P N w0 S0 ops (i :: lq) env ro rw K := by
 refine HO_val ho hw rfl hN hr (fun a w ha hf => ?_) h
 simp [execOp, resolve, invoke, builtin, Builtin.cap_, Sem.run_bind, run_underlying hT.h, ha.ev hx, goInt]
theorem zeroCells_one (z : Value) (n : Nat) : (Builtin.zeroCells #[z] n).toList = List.replicate n z := by
 apply List.ext_getElem?
 intro j
 by_cases hj : j < n
 ·simp [Builtin.zeroCells, hj, Nat.mod_one]
 ·simp [Builtin.zeroCells, hj]
theorem HO_appz {T U e by_ : Nat} {x y : Operand} {z : Value} {kn k : IntKind} {q : Int} [hT : TySlice P T e] [hU : TyInt P U kn] [hI : TyInfo P e 1 by_] [hZ : TyZero P e z]
  (ho : ops[i]? = some ⟨some d, .call { callee := .builtin .append, args := #[x, y], argTypes := #[T, U] }, ty, pos, aft, g⟩) (hx : Env.ev env x = some (.slice none 0 0)) (hy : Env.ev env y = some (.int k q)) (hz1 : cellsL z = [z]) (h0 : 0 < q) (hb : q * by_ ≤ 140737488355328) (hb2 : q ≤ 9223372036854775807)
  (hw : wantE ops env g = some true) (hN : Nat.blt d N = true) (hs : soleB m ops i lq = true)
  (h : ∀ (b c : Nat), q.toNat ≤ c → HO (nmM m) P N w0 S0 ops lq ((d, .slice (some ⟨b, 0, none⟩) q.toNat c) :: env) ro (own idE e 1 (some ⟨b, 0, none⟩) q.toNat c (List.replicate q.toNat [z]) :: rw) K) : HO m P N w0 S0 ops (i :: lq) env ro rw K := by
 refine HO_act_ex (α := Nat × Nat) (φ := fun p => q.toNat ≤ p.2) (v := fun p => .slice (some ⟨p.1, 0, none⟩) q.toNat p.2) (rw' := fun p => own idE e 1 (some ⟨p.1, 0, none⟩) q.toNat p.2 (List.replicate q.toNat [z]) :: rw) ho hw rfl hN hs (fun w1 S1 a S w ha hf => ?_) (fun p hp => h p.1 p.2 hp)
 obtain ⟨n, rfl⟩ : ∃ n : Nat, q = n := ⟨q.toNat, by omega⟩
 have hI := hI.h
 have hz := hZ.h
 cases hin : P.info? e with
 | none => simp [hin] at hI
 | some inf =>
  simp [hin] at hI hz
  have hzc : z.cells = #[z] := by rw [cellsL_eq, hz1]
  have hpos : 0 < n := by omega
  have hb' : n * inf.bytes ≤ 140737488355328 := by
   rw [hI.2]
   have : ((n * by_ : Nat) : Int) ≤ 140737488355328 := by rw [Int.natCast_mul]; exact hb
   omega
  have hrun := Go.Lib.run_append_nil_zeros (P := P) w T U ty e inf z k kn hT.h hU.h hin hz n hpos (by omega) hb2 (by omega)
  have hge := grownCap_ge w n 0 e
  have hcm : grownCap w n 0 e ≤ maxLen := grownCap_le_maxLen w n 0 e (by unfold maxLen; omega)
  rw [hzc] at hrun
  generalize grownCap w n 0 e = cap at hrun hge hcm
  have hl1 := zeroCells_one z n
  have hl2 := zeroCells_one z (cap - n)
  have hsz : (Builtin.zeroCells #[z] n ++ Builtin.zeroCells #[z] (cap - n)).size = cap * 1 := by
   rw [Array.size_append, ← Array.length_toList, ← Array.length_toList, hl1, hl2]
   simp; omega
  obtain ⟨T', hf'⟩ := hf.new (w' := w.drew.alloc (.cells (Builtin.zeroCells #[z] n ++ Builtin.zeroCells #[z] (cap - n)) e)) (((Below.refl _ w).drew).alloc (Nat.le_refl _) _) [own idE e 1 (some ⟨w.heap.size, 0, none⟩) n cap (List.replicate n [z])] (fun b => b = w.heap.size)
   (fun b hb => by subst hb; exact ⟨Nat.le_refl _, by simp⟩)
   ⟨fun b => b = w.heap.size, fun _ => False, fun _ h => h, fun _ h => h.elim, fun _ _ h => h, ⟨by simp, ⟨by rw [repl_flat]; simp, .inr ⟨w.heap.size, cap, _, rfl, Nat.zero_le _, heap_alloc_new w.drew _, hge, hcm, hsz, by
    rw [repl_flat, Array.toList_append, hl1, Nat.mul_one, List.take_append_of_le_length (by simp), List.take_of_length_le (by simp)]⟩⟩, fun ad hA => by injection hA with hA; rw [← hA]⟩, trivial⟩
  refine ⟨(w.heap.size, cap), T', _, hge, ?_, by simpa using hf'⟩
  simp [execOp, resolve, invoke, builtin, Sem.run_bind, ha.ev hx, ha.ev hy, hrun]
theorem flatMap_take {sz : Nat} : ∀ (l : List (List Value)) (k : Nat), (∀ x ∈ l, x.length = sz) → (l.take k).flatMap idE = (l.flatMap idE).take (k * sz)
 | [], k, _ => by simp
 | x :: l, 0, _ => by simp
 | x :: l, k + 1, hl => by
  have hx : (idE x).length = sz := hl x (by simp)
  rw [List.take_succ_cons, List.flatMap_cons, List.flatMap_cons, flatMap_take l k (fun y hy => hl y (by simp [hy])), List.take_append, hx, List.take_of_length_le (l := idE x) (by rw [hx, Nat.add_mul]; omega), show (k + 1) * sz - sz = k * sz by rw [Nat.add_mul]; omega]
theorem own_take {T sz n c : Nat} {A : Option Addr} {l : List (List Value)} (k : Nat) (hk : k ≤ n) (hl : ∀ x ∈ l, x.length = sz) : Ent (own idE T sz A n c l) (own idE T sz A k c (l.take k)) := fun S w ⟨h1, ⟨h2, h3⟩, h4⟩ => by
 have hf := flatMap_take (sz := sz) l k hl
 refine ⟨by simp; omega, ⟨?_, ?_⟩, h4⟩
 ·rw [hf, List.length_take, h2]
  exact Nat.min_eq_left (Nat.mul_le_mul_right _ hk)
 ·rcases h3 with ⟨hv, hn⟩ | ⟨g, cap, cur, hv, hg, hh, hnc, hcm, hcs, htk⟩
  ·injection hv with hA hn' hc'
   subst hA hc'
   exact .inl ⟨by rw [show k = 0 by omega], by omega⟩
  ·injection hv with hA hn' hc'
   subst hA hc'
   refine .inr ⟨g, c, cur, rfl, hg, hh, by omega, hcm, hcs, ?_⟩
   rw [hf, ← htk, List.take_take, Nat.min_eq_left (Nat.mul_le_mul_right _ hk)]
end
end Go.Proofs.YteeogabkkblkgaaGreatDoor
namespace Go.Proofs.YteeogabkkblkgaaGreatDoor
set_option linter.unusedVariables false
set_option linter.unusedSimpArgs false
open Go.RowKit
theorem inn_nil : ∀ w, (inn []).p (fun _ => False) w := fun w e he => by cases he
theorem Keeps.inn_snoc {L : List SL} {e : SL} {rw rw' : List SL} (h : Keeps (inn (L ++ [e]) :: rw) rw') : Keeps (inn L :: e :: rw) rw' := fun S w ⟨A, B, hA, hB, hd, hp, A2, B2, hA2, hB2, hd2, hp2, hs⟩ =>
 h S w ⟨fun b => A b ∨ A2 b, B2, fun b hb => hb.elim (hA b) (fun hb => hB b (hA2 b hb)), fun b hb => hB b (hB2 b hb), fun b h1 h2 => h1.elim (fun h1 => hd b h1 (hB2 b h2)) (fun h1 => hd2 b h1 h2), fun f hf => by
  rcases List.mem_append.1 hf with hf | hf
  ·obtain ⟨F, hF, hp3⟩ := hp f hf
   exact ⟨F, fun b hb => .inl (hF b hb), hp3⟩
  ·have : f = e := by simpa using hf
   subst this
   exact ⟨A2, fun b hb => .inr hb, hp2⟩, hs⟩
theorem Keeps.swap {e f : SL} {rw rw' : List SL} (h : Keeps (f :: e :: rw) rw') : Keeps (e :: f :: rw) rw' := Keeps.pull 1 rfl h
theorem own_e {α : Type} {enc : α → List Value} {T sz n c : Nat} {A : Option Addr} {l : List α} [h : EncOk enc sz] : Ent (own idE T sz A n c (l.map enc)) (arr enc sz A l) := fun S w h => arr_typed l S w (own_wf (WfL.map (enc := enc)) S w h)
theorem AllSrc.own {α : Type} {enc : α → List Value} {T sz n c : Nat} {A : Option Addr} {l : List α} {xs : List (List Value)} {src L : List SL} [he : EncOk enc sz] (k : Nat) (hk : src[k]? = some (own idE T sz A n c xs)) (hx : xs = l.map enc) (h : AllSrc src L) : AllSrc src (arr enc sz A l :: L) := by
 subst hx
 exact AllSrc.via k hk own_e h
class NoQ (m : Md) : Prop where h : (match m with
  | .quiet => false
  | _ => true) = true
instance : NoQ .ord := ⟨rfl⟩
instance {l : List SL} : NoQ (.lex l) := ⟨rfl⟩
instance {l : List SL} : NoQ (.pick l) := ⟨rfl⟩
theorem Keeps.app {rw rw' : List SL} (h : Keeps rw rw') : ∀ held : List SL, Keeps (held ++ rw) (held ++ rw')
 | [] => h
 | _ :: held => Keeps.cons Ent.rfl_ (Keeps.app h held)
theorem HO_keeps {m : Md} {P : Program} {N : Nat} {w0 : World} {S0 : Foot} {ops : List Oper} {l : List Nat} {env : Env} {ro rw rw' : List SL} {K : Act → World → Prop} [hm : NoQ m] (hk : Keeps rw rw') (h : HO m P N w0 S0 ops l env ro rw' K) : HO m P N w0 S0 ops l env ro rw K := by
 cases m with
 | ord =>
  intro a S w ha hf
  obtain ⟨T, hT⟩ := hf.keeps hk
  exact h a T w ha hT
 | quiet => exact absurd hm.h (by decide)
 | lex ro0 =>
  intro held he a S w ha hf
  obtain ⟨T, hT⟩ := hf.keeps (hk.app held)
  exact h held he a T w ha hT
 | pick ro0 =>
  intro held he
  have := h held he
  cases l with
  | nil => exact this
  | cons i l =>
   intro a S w ha hf
   obtain ⟨T, hT⟩ := hf.keeps (hk.app held)
   exact this a T w ha hT
theorem HO_mv {m : Md} {P : Program} {N : Nat} {w0 : World} {S0 : Foot} {ops : List Oper} {l : List Nat} {env : Env} {ro rw rw' : List SL} {K : Act → World → Prop} [hm : NoQ m] (k : Nat) {e : SL} (hk : rw[k]? = some e) (hr : eraseO rw k = some rw') (h : HO m P N w0 S0 ops l env ro (e :: rw') K) : HO m P N w0 S0 ops l env ro rw K := by
 have e := eraseO_eq hr
 subst e
 exact HO_keeps (Keeps.pull k hk Keeps.refl) h
theorem HO_nil {m : Md} {P : Program} {N : Nat} {w0 : World} {S0 : Foot} {ops : List Oper} {l : List Nat} {env : Env} {ro rw : List SL} {K : Act → World → Prop} {T sz : Nat} [hm : NoQ m] (h : HO m P N w0 S0 ops l env ro (own idE T sz none 0 0 [] :: rw) K) : HO m P N w0 S0 ops l env ro rw K :=
 HO_keeps (Keeps.add (fun w => own_nil w) Keeps.refl) h
theorem HC_cutP {P : Program} {N : Nat} {w0 : World} {S0 : Foot} {c c2 : Code} {env : Env} {ro rw : List SL} {Q Q2 : Exit → Act → World → Prop} {α : Type} (φ : α → Prop) (E : α → Env) (R : α → List SL)
  (h : HC P N w0 S0 c env ro rw (Exit.then (At N w0 S0 ro φ E R) Q)) (h2 : ∀ x, φ x → HC P N w0 S0 c2 (E x) ro (R x) Q2) : HC P N w0 S0 c env ro rw (Exit.then (c2.wp P Q2) Q) := fun a S w ha hf =>
 wp_mono (h a S w ha hf) fun e a' w' hq => by
  cases e <;> first
   | (obtain ⟨z, hz, T, hA, hT⟩ := hq; exact h2 z hz a' T w' hA hT)
   | exact hq
theorem Keeps.pick {rw rw2 rw' : List SL} {e : SL} (k : Nat) (hk : rw[k]? = some e) (hr : eraseO rw k = some rw2) (h : Keeps rw2 rw') : Keeps rw (e :: rw') := by
 have e := eraseO_eq hr
 subst e
 exact Keeps.pull k hk (Keeps.cons Ent.rfl_ h)
theorem HO_b2sr {m : Md} {P : Program} {N : Nat} {w0 : World} {S0 : Foot} {ops : List Oper} {i : Nat} {lq : List Nat} {env : Env} {ro rw : List SL} {K : Act → World → Prop} {d : Nat} {ty : TypeId} {pos : String} {aft : Array Edge} {g : Option (Nat × Bool)}
  {T U n c n2 c2 T2 : Nat} {A : Option Addr} {x : Operand} {l : List UInt8} {xs : List (List Value)} {e : Nat} [hT : TySlice P T e] [hE : TyInt P e .u8] [hU : TyStr P U] (k : Nat) (ho : ops[i]? = some ⟨some d, .convert T U x, ty, pos, aft, g⟩) (hx : Env.ev env x = some (.slice A n c))
  (hk : ro[k]? = some (own idE T2 1 A n2 c2 xs)) (hxs : xs = l.map fun b => [.int .u8 b.toNat]) (hn : n = l.length)
  (hw : wantE ops env g = some true) (hN : Nat.blt d N = true) (hr : rdyB m ops i lq = true)
  (h : HO m P N w0 S0 ops lq ((d, .string ⟨l.toArray⟩) :: env) ro rw K) : HO m P N w0 S0 ops (i :: lq) env ro rw K := by
 subst hxs
 exact HO_b2s ho hx ⟨_, seeL_ro (List.mem_of_getElem? hk), own_wf (fun y hy => by obtain ⟨b, _, rfl⟩ := List.mem_map.1 hy; exact ⟨rfl, rfl⟩)⟩ hn hw hN hr h
end Go.Proofs.YteeogabkkblkgaaGreatDoor
namespace Go.Proofs.YteeogabkkblkgaaGreatDoor
set_option linter.unusedVariables false
set_option linter.unusedSimpArgs false
open Go.RowKit
abbrev FW (r : Option Nat) : Fence := { Fence.wide with round := r }
def noDefB (l : List Oper) : Bool := l.all fun o => match o.op with
 | .defer _ => false
 | _ => true
section
variable {P : Program} {ops : Array Oper} {K : Act → World → Prop} {Q : Exit → Act → World → Prop} {r : Option Nat} {m : Nat}
theorem rows_toIn {row : String} {args : Array Value} {w : World} {R : Value → World → Prop} (h : Rows P row args w R) : RowsIn (FW r) m P row args w R := fun c cs _ => by
 obtain ⟨v, w', hr, hs⟩ := h c cs
 have := (stepsIn_wide (P := P)).2 hs
 exact ⟨v, w', hr, this⟩
theorem upon_toIn {o : Oper} {a : Act} {n n' : Act → World → Prop} {x : Result Next} (hn : ∀ b w, n b w → n' b w) (h : o.upon P a n (Kof K) x) : o.uponIn (FW r) m P a n' Q x := by
 cases x with
 | ok x w' =>
  cases x <;> simp only [Oper.upon, Oper.uponIn] at h ⊢
  all_goals first
   | exact hn _ _ h
   | exact ⟨fun hh => (by cases hh), callsIn_wide.2 (Calls.mono h fun e w'' he => by
      cases e
      ·exact hn _ _ he
      ·exact he.elim
      ·obtain ⟨_, _, hx⟩ := he; exact hx.elim)⟩
   | exact ⟨fun hh => (by cases hh), rows_toIn (Rows.mono h fun v w'' he => hn _ _ he)⟩
 | halt x w' => cases x <;> simp only [Oper.upon, Oper.uponIn] at h ⊢ <;> exact h.elim
theorem wp_toIn {o : Oper} {a : Act} {w : World} {n n' : Act → World → Prop} (hd : noDefB [o] = true) (hn : ∀ b w, n b w → n' b w) (h : o.wp P a w n (Kof K)) : o.wpIn (FW r) m P a w n' Q := by
 refine ⟨fun _ _ => trivial, ?_⟩
 rw [Oper.semAt_eq _ _ _ (fun c hc => by simp [noDefB, hc] at hd)]
 exact upon_toIn hn h
theorem noDef_cons {o : Oper} {l : List Oper} (h : noDefB (o :: l) = true) : noDefB [o] = true ∧ noDefB l = true := by
 simp only [noDefB, List.all_cons, List.all_nil, Bool.and_true, Bool.and_eq_true] at h ⊢
 exact h
theorem wpList_toIn (hK : ∀ a w, K a w → Q .normal a w) : ∀ (l : List Oper) (a : Act) (w : World), noDefB l = true → wpList P ops (Kof K) l a w → wpListIn (FW r) m P ops Q l a w
 | [], a, w, _, h => hK a w h
 | o :: l, a, w, hd, h => by
  obtain ⟨h1, h2⟩ := noDef_cons hd
  unfold wpList at h
  unfold wpListIn
  split
  ·rename_i hw
   simp only [hw, if_true] at h
   rcases h with h | ⟨_, _, _, hx⟩
   ·exact wp_toIn h1 (fun b w' => wpList_toIn hK l b w' h2) h
   ·exact hx.elim
  ·rename_i hw
   simp only [hw] at h
   exact ⟨fun _ _ => trivial, wpList_toIn hK l _ _ h2 h⟩
theorem noDef_at {l : List Oper} (h : noDefB l = true) {i : Nat} {o : Oper} (ho : l.toArray[i]? = some o) : noDefB [o] = true := by
 have hm : o ∈ l := List.mem_of_getElem? (by simpa using ho)
 unfold noDefB at h ⊢
 rw [List.all_eq_true] at h
 simp only [List.all_cons, List.all_nil, Bool.and_true]
 exact h o hm
theorem wpOp_toIn {i : Nat} {n n' : Act → World → Prop} {a : Act} {w : World} (hd : noDefB ops.toList = true) (hn : ∀ b w, n b w → n' b w) (h : wpOp P ops (Kof K) i n a w) : wpOpIn (FW r) m P ops Q i n' a w := by
 unfold wpOp at h
 unfold wpOpIn
 cases ho : ops[i]? with
 | none => simp only [ho] at h ⊢; exact hn _ _ h
 | some o =>
  simp only [ho] at h ⊢
  split
  ·rename_i hw
   simp only [hw, if_true] at h
   rcases h with h | ⟨_, _, _, hx⟩
   ·exact wp_toIn (noDef_at hd (by simpa using ho)) hn h
   ·exact hx.elim
  ·rename_i hw
   simp only [hw] at h
   exact ⟨fun _ _ => trivial, hn _ _ h⟩
theorem wpAny_toIn (hK : ∀ a w, K a w → Q .normal a w) (hd : noDefB ops.toList = true) : ∀ (fuel : Nat) (listed : Array Bool) (a : Act) (w : World), wpAny P .any ops (Kof K) fuel listed a w → wpAnyIn (FW r) m P .any ops Q fuel listed a w
 | 0, _, _, _, h => ⟨h.1, hK _ _ h.2⟩
 | fuel + 1, _, _, _, h => ⟨fun e => hK _ _ (h.1 e), fun i hi => wpOp_toIn hd (fun b w => wpAny_toIn hK hd fuel _ b w) (h.2 i hi)⟩
end
def HR (r : Option Nat) (m : Nat) (P : Program) (N : Nat) (w0 : World) (S0 : Foot) (c : Code) (env : Env) (ro rw : List SL) (Q : Exit → Act → World → Prop) : Prop := HQ N w0 S0 env ro rw (c.wpIn (FW r) m P Q)
section
variable {r : Option Nat} {m : Nat} {P : Program} {N : Nat} {w0 : World} {S0 : Foot} {c : Code} {env : Env} {ro rw : List SL} {Q Q' : Exit → Act → World → Prop}
theorem HR_seq (hk : isSeq c = true) (h : HR r m P N w0 S0 (cL c) env ro rw (Exit.then ((cR c).wpIn (FW r) m P Q) Q)) : HR r m P N w0 S0 c env ro rw Q := by
 cases c <;> simp [isSeq] at hk
 exact fun a S w ha hf => wpIn_seq (h a S w ha hf)
theorem HR_block (hk : isBlock c = true) (h : HR r m P N w0 S0 (cB c) env ro rw (Exit.inBlock (cId c) Q)) : HR r m P N w0 S0 c env ro rw Q := by
 cases c <;> simp [isBlock] at hk
 exact fun a S w ha hf => wpIn_block (h a S w ha hf)
theorem HR_then (h : HR r m P N w0 S0 c env ro rw Q) : HX N w0 S0 .normal env ro rw (Exit.then (c.wpIn (FW r) m P Q) Q') := h
theorem HR_ord {l : List Nat} (hk : isOrd c = true) (hl : nlist (cOps c) = some l) (hs : seqB 0 l = true) (hn : Nat.beq l.length (cOps c).length = true) (hd : noDefB (cOps c) = true) (h : HO .ord P N w0 S0 (cOps c) l env ro rw (Q .normal)) : HR r m P N w0 S0 c env ro rw Q := by
 cases c <;> try (simp [isOrd] at hk; done)
 rename_i id ops draw
 cases draw <;> try (simp [isOrd] at hk; done)
 intro a S w ha hf
 have h1 := h a S w ha hf
 have h2 := opsAt_all (cOps (.region id ops false)) l 0 (seqB_spec hs) (by simpa using Nat.eq_of_beq_eq_true hn)
 rw [h2] at h1
 simp only [cOps, List.drop_zero, Array.toArray_toList] at h1
 exact wpIn_region_list (wpList_toIn (fun _ _ h => h) _ _ _ hd h1)
theorem HR_lex {l : List Nat} (hk : isDraw c = true) (hl : elist (cOps c) = some l) (hs : (dlist (cOps c) l).toList.all (!·) = true) (hn : Nat.beq l.length (cOps c).length = true) (hm : P.follows .mixedOrders = true) (hd : noDefB (cOps c) = true)
  (h : HO (.lex ro) P N w0 S0 (cOps c) l env ro rw (Q .normal)) : HR r m P N w0 S0 c env ro rw Q := by
 cases c <;> try (simp [isDraw] at hk; done)
 rename_i id ops draw
 cases draw <;> try (simp [isDraw] at hk; done)
 intro a S w ha hf
 have h1 := h [] rfl a S _ ha (hf.drew (w.drawn + 1))
 have hn' := Nat.eq_of_beq_eq_true hn
 have hdl : dlist (cOps (.region id ops true)) l = Array.replicate ops.size false := by
  apply Array.ext'
  rw [Array.toList_replicate]
  apply List.eq_replicate_iff.2
  refine ⟨by simp [dlist, cOps], fun b hb => ?_⟩
  have := List.all_eq_true.1 hs b hb
  simpa using this
 rw [hdl, hn'] at h1
 simp only [cOps, Array.toArray_toList, Array.length_toList] at h1
 exact wpIn_region_any (id := id) hm (wpAny_toIn (fun _ _ h => h) hd _ _ _ _ (wpAny_of_D _ _ _ _ h1))
end
def CellB (w : World) (b : Nat) : Prop := ∃ o : Obj, w.heap[b]? = some o ∧ o.isCells = true
def Cellish (e : SL) : Prop := ∀ (S : Foot) (w : World), e.p S w → e.p (fun b => S b ∧ CellB w b) w
theorem Cellish.cel {b : Nat} {T : TypeId} {cs : List Value} : Cellish (cel b T cs) := fun S w h => ⟨⟨h.1, _, h.2, rfl⟩, h.2⟩
theorem Cellish.own {α : Type} {enc : α → List Value} {T sz n c : Nat} {A : Option Addr} {l : List α} : Cellish (own enc T sz A n c l) := fun S w h => ⟨h.1, h.2.1, fun ad hA => ⟨h.2.2 ad hA, by
 obtain ⟨_, ⟨_, h3⟩, _⟩ := h
 subst hA
 rcases h3 with ⟨h3, _⟩ | ⟨g, cap, cur, hv, hg, hh, _⟩
 ·cases h3
 ·have : ad = ⟨g, 0, none⟩ := by injection hv with hv; injection hv
  subst this
  exact ⟨_, hh, rfl⟩⟩⟩
theorem Cellish.arr {α : Type} {enc : α → List Value} {sz sz' : Nat} {A : Option Addr} {l : List α} [he : EncOk enc sz'] (hs : Nat.blt 0 sz' = true) : Cellish (arr enc sz A l) := fun S w h hne => by
 obtain ⟨ad, hA, hS, hc⟩ := h hne
 refine ⟨ad, hA, ⟨hS, ?_⟩, hc⟩
 cases l with
 | nil => exact absurd rfl hne
 | cons x l =>
  have hl := (he.h x).1
  have : 0 < (enc x).length := by rw [hl]; simpa using hs
  obtain ⟨o, ho, hcl⟩ := cells_of_cell (hc 0 x rfl 0 _ (List.getElem?_eq_getElem this))
  rw [block_of_add] at ho
  exact ⟨o, ho, hcl⟩
theorem Star.cells : ∀ {es : List SL} {S : Foot} {w : World}, (∀ e ∈ es, Cellish e) → Star es S w → Star es (fun b => S b ∧ CellB w b) w
 | [], _, _, _, _ => trivial
 | e :: es, S, w, h, ⟨A, B, hA, hB, hd, he, hs⟩ =>
  ⟨fun b => A b ∧ CellB w b, fun b => B b ∧ CellB w b, fun b hb => ⟨hA b hb.1, hb.2⟩, fun b hb => ⟨hB b hb.1, hb.2⟩, fun b h1 h2 => hd b h1.1 h2.1, h e (by simp) A w he, Star.cells (fun f hf => h f (by simp [hf])) hs⟩
structure FitsC (w0 : World) (S0 : Foot) (ro rw : List SL) (S : Foot) (w : World) : Prop where
 f : Fits w0 S0 ro rw S w
 c : ∀ b, S b → CellB w b
 r : ∀ e ∈ ro, ∃ F : Foot, (∀ b, F b → b < w.heap.size ∧ ¬ S b ∧ CellB w b) ∧ e.p F w
theorem Fits.cells {w0 : World} {S0 : Foot} {ro rw : List SL} {S : Foot} {w : World} (h : Fits w0 S0 ro rw S w) (h1 : ∀ e ∈ ro, Cellish e) (h2 : ∀ e ∈ rw, Cellish e) : FitsC w0 S0 ro rw (fun b => S b ∧ CellB w b) w :=
 ⟨⟨h.fr, fun b hb => h.lt b hb.1, fun b hb => h.sub b hb.1, h.star.cells h2, fun e he => by
   obtain ⟨F, hF, hp⟩ := h.ros e he
   exact ⟨F, fun b hb => ⟨(hF b hb).1, fun hc => (hF b hb).2 hc.1⟩, hp⟩⟩, fun b hb => hb.2, fun e he => by
  obtain ⟨F, hF, hp⟩ := h.ros e he
  exact ⟨fun b => F b ∧ CellB w b, fun b hb => ⟨(hF b hb.1).1, fun hc => (hF b hb.1).2 hc.1, hb.2⟩, h1 e he F w hp⟩⟩
theorem FitsC.grown {w0 : World} {S0 : Foot} {ro rw : List SL} {S : Foot} {w w' : World} {row : Option Nat} {B : Nat} (h : FitsC w0 S0 ro rw S w) (hB : w0.heap.size ≤ B) (hg : w.grownBy w' row)
  (hr : ∀ q, row = some q → B ≤ q ∧ ∃ o : Obj, w.heap[q]? = some o ∧ o.isCells = false) : FitsC w0 S0 ro rw S w' := by
 have hcell : ∀ b, CellB w b → w'.heap[b]? = w.heap[b]? := fun b ⟨o, ho, hc⟩ => hg.block b (Array.getElem?_eq_some_iff.1 ho).1 (fun e => by
  obtain ⟨_, o', ho', hc'⟩ := hr b e.symm
  rw [ho] at ho'; cases ho'; rw [hc] at hc'; cases hc')
 have hcb : ∀ b, CellB w b → CellB w' b := fun b hb => by
  obtain ⟨o, ho, hc⟩ := hb
  exact ⟨o, (hcell b ⟨o, ho, hc⟩).trans ho, hc⟩
 have hsz := hg.size
 have h0 := h.f.fr.size
 refine ⟨⟨⟨hg.os.trans h.f.fr.os, hg.tape.trans h.f.fr.tape, hg.output.trans h.f.fr.output, by omega, fun b hb hn => ?_⟩, fun b hb => by have := h.f.lt b hb; omega, h.f.sub, h.f.star.st fun b hb => hcell b (h.c b hb), fun e he => ?_⟩, fun b hb => hcb b (h.c b hb), fun e he => ?_⟩
 ·refine (hg.block b (by omega) (fun e => ?_)).trans (h.f.fr.block b hb hn)
  have := (hr b e.symm).1
  omega
 ·obtain ⟨F, hF, hp⟩ := h.r e he
  exact ⟨F, fun b hb => ⟨by have := (hF b hb).1; omega, (hF b hb).2.1⟩, e.st F w w' (fun b hb => hcell b (hF b hb).2.2) hp⟩
 ·obtain ⟨F, hF, hp⟩ := h.r e he
  exact ⟨F, fun b hb => ⟨by have := (hF b hb).1; omega, (hF b hb).2.1, hcb b (hF b hb).2.2⟩, e.st F w w' (fun b hb => hcell b (hF b hb).2.2) hp⟩
def markD (D : Nat) : Deferred := { target := .collected D, args := #[] }
def markP (D : Nat) : SL where
 p S w := S D ∧ w.heap[D]? = some (.deferred (some []))
 st S w w' h hp := ⟨hp.1, (h D hp.1).trans hp.2⟩
def mk (D : Nat) (Q : Exit → Act → World → Prop) : Exit → Act → World → Prop := fun e b w => Q e { b with defers := [markD D] } w
def HM (D : Nat) (P : Program) (N : Nat) (w0 : World) (S0 : Foot) (c : Code) (env : Env) (ro rw : List SL) (Q : Exit → Act → World → Prop) : Prop := HQ N w0 S0 env ro rw (fun b w => c.wp P Q { b with defers := [markD D] } w)
section
variable {D : Nat} {P : Program} {N : Nat} {w0 : World} {S0 : Foot} {c : Code} {env : Env} {ro rw : List SL} {Q Q' : Exit → Act → World → Prop} {K : Act → World → Prop} {ops : Array Oper}
theorem put_defers (a : Act) (dst : Option Nat) (v : Value) (ds : List Deferred) : { a with defers := ds }.put dst v = { (a.put dst v) with defers := ds } := by
 cases dst <;> rfl
theorem HM_seq (hk : isSeq c = true) (h : HM D P N w0 S0 (cL c) env ro rw (Exit.then ((cR c).wp P Q) Q)) : HM D P N w0 S0 c env ro rw Q := by
 cases c <;> simp [isSeq] at hk
 exact fun a S w ha hf => wp_seq (h a S w ha hf)
theorem HM_ret (hk : isRet c = true) (h : HX N w0 S0 .ret env ro rw (mk D Q)) : HM D P N w0 S0 c env ro rw Q := by
 cases c <;> simp [isRet] at hk
 exact fun a S w ha hf => wp_ret (h a S w ha hf)
theorem HM_then (h : HM D P N w0 S0 c env ro rw Q) : HX N w0 S0 .normal env ro rw (mk D (Exit.then (c.wp P Q) Q')) := h
theorem HM_block {i : Nat} (h : HX N w0 S0 .normal env ro rw (mk D Q)) : HX N w0 S0 .normal env ro rw (mk D (Exit.inBlock i Q)) := h
theorem HM_asg {i d : Nat} {x : Operand} {v : Value} {ty : TypeId} {pos : String} (hc : c = .region i #[⟨some d, .assign x, ty, pos, #[], none⟩] false) (hx : Env.ev env x = some v) (hd : Nat.blt d N = true) (h : HX N w0 S0 .normal ((d, v) :: env) ro rw (mk D Q)) : HM D P N w0 S0 c env ro rw Q := by
 subst hc
 intro a S w ha hf
 have hv := ha.ev hx
 have hev : ({ a with defers := [markD D] } : Act).eval x = v := by rw [← hv]; cases x <;> rfl
 refine wp_region_list ?_
 unfold wpList
 simp only [Region.wanted, if_true]
 left
 unfold Oper.wp
 simp only [execOp, hev, Sem.run_pure, Oper.upon_value]
 rw [put_defers]
 exact h _ S w (ha.put hd v) hf
end
theorem Tri_ofM {P : Program} {g N : Nat} {fn : Func} {c : Code} {args : List Value} {ro rw : List SL} {α : Type} {φ : α → Prop} {val : α → Value} {es : α → List SL} {env : Env}
  (hf : P.funcs[g]? = some fn) (hb : fn.body = some c) (hn : fn.ntmps = N) (he : zipE args 0 = some env) (hle' : Nat.ble args.length N = true)
  (h : ∀ (w0 : World) (S0 : Foot), HC P N w0 S0 c env ro rw (bodyPostM Fence.wide 3 P fn (Post w0 S0 ro φ val es))) : Tri P g args ro rw φ val es := by
 have hle : args.length ≤ N := by simpa using hle'
 intro w S hfit
 refine callsIn_wide.1 (callsIn_of_wp_marks (n := 3) hf hb trivial (wpIn_wide.2 (h w S _ S w ⟨?_, rfl, fun t v ht => ?_⟩ hfit)))
 ·simp [hn]; omega
 ·have h2 := (zipE_spec he t v ht).2
  simp only [Nat.sub_zero] at h2
  have hlt := (List.getElem?_eq_some_iff.1 h2).1
  simpa [Array.getElem?_append, hlt] using h2
section
variable {D : Nat} {P : Program} {N : Nat} {w0 : World} {S0 : Foot} {env : Env} {ro rw : List SL} {vs : List Value}
theorem HX_retD {ro1 : List SL} {fn : Func} {α : Type} {φ : α → Prop} {val : α → Value} {es : α → List SL} (hD : w0.heap.size ≤ D) (hsub : ∀ e ∈ ro, e ∈ ro1) (hcr : ∀ e ∈ ro, Cellish e) (hcw : ∀ e ∈ rw, Cellish e) (hr : ResAll P N w0 S0 env ro rw fn.results.toList vs) (h : RetQ vs rw φ val es) :
  HX N w0 S0 .ret env (markP D :: ro1) rw (mk D (bodyPostM Fence.wide 3 P fn (Post w0 S0 ro φ val es))) := by
 obtain ⟨x, hφ, hv, hk⟩ := h
 exact fun a S w ha hf => by
  obtain ⟨F, hF, hFD, hdef⟩ := hf.ros (markP D) (by simp)
  have hf' : Fits w0 S0 ro rw S w := ⟨hf.fr, hf.lt, hf.sub, hf.star, fun e he => hf.ros e (by simp [hsub e he])⟩
  have hfc := hf'.cells hcr hcw
  have hg : w.grownBy (w.putObj D (.deferred none)) (some D) := grownBy_putObj' w D _
  have hfc' := hfc.grown hD hg (fun q e => by cases e; exact ⟨Nat.le_refl _, _, hdef, rfl⟩)
  obtain ⟨T, hT⟩ := hfc'.f.keeps hk
  show LeavesInM Fence.wide 3 P fn a.tmps _ [markD D] .returning w
  refine ⟨(fun hh => by cases hh), .inl ⟨D, _, rfl, run_takeDeferred hdef, tupV vs, results_run hr ha hfc'.f, x, T, hφ, by rw [hv], hT⟩⟩
end
def cBody : Code → Code | .rangeFunc _ _ _ b => b | c => c
def KpB (b1 b2 : Nat) (W W' : World) : Prop := W'.heap[b1]? = W.heap[b1]? ∧ W'.heap[b2]? = W.heap[b2]?
theorem HC_range {α : Type} {P : Program} {N : Nat} {w0 : World} {S0 : Foot} {c : Code} {env : Env} {ro rw : List SL} {Q : Exit → Act → World → Prop} {t p d i : Nat} {ty : TypeId} {pos : String}
  (hc : c = .rangeFunc (.tmp t) #[p] (.region i #[⟨some d, .assign (.tmp p), ty, pos, #[], none⟩] false) (cBody c)) {gf : Nat} {lb : Array Value} (hg : Env.get env t = some (.func (.func gf) #[] lb)) (hp : Nat.blt p N = true) (hd : Nat.blt d N = true)
  (eg : ∀ args w, (callFunc gf args).run P w = .ok (.enter gf args) w) (enc : α → Value) (xs : List α) {b1 b2 T1 T2 : Nat} {cs1 cs2 : List Value} (hb1 : cel b1 T1 cs1 ∈ ro) (hb2 : cel b2 T2 cs2 ∈ ro)
  (hseq : ∀ S w, Fits w0 S0 ro rw S w → SeqStopsK Fence.wide 2 P gf lb (fun x => #[enc x]) (KpB b1 b2) (fun ys => ys = xs) (fun pre => pre <+: xs) xs.length w)
  (R : List α → List SL) (hR0 : rw = R []) (hcr : ∀ e ∈ ro, Cellish e) (hcw : ∀ pre, ∀ e ∈ R pre, Cellish e)
  (hbody : ∀ l pre x w S, pre.length < xs.length → HR (some l) 1 P N w S (cBody c) ((d, enc x) :: (p, enc x) :: env) ro (R pre) (fun e _ w' => e = .normal ∧ ∃ T, Fits w S ro (R (pre ++ [x])) T w'))
  (hdone : ∀ D, w0.heap.size ≤ D → HX N w0 S0 .normal env (markP D :: ro) (R xs) (mk D Q)) : HC P N w0 S0 c env ro rw Q := by
 obtain ⟨body, hbd⟩ : ∃ body, cBody c = body := ⟨_, rfl⟩
 rw [hbd] at hc
 subst hc
 simp only [cBody] at hbody
 intro a S w ha hf
 have hp' : p < N := by rw [Nat.blt_eq] at hp; exact hp
 have h0 := hf.fr.size
 have celB : ∀ {b T : Nat} {cs : List Value}, cel b T cs ∈ ro → b < w.heap.size := fun hm => by
  obtain ⟨F, hF, hq⟩ := hf.ros _ hm
  exact (hF _ hq.1).1
 have hl1 := celB hb1
 have hl2 := celB hb2
 refine (wpIn_wide (n := 3)).1 ?_
 refine wpIn_rangeFunc_ownF (F := Fence.wide) (n := 3) (w0 := w) rfl (by decide) (by have := ha.ev (x := .tmp t) hg; exact this) trivial eg (hseq S w hf) (fun h h' => ⟨h'.1.trans h.1, h'.2.trans h.2⟩)
  (fun W l o o' hl _ _ _ => ⟨World.putObj_heap_other (by omega), World.putObj_heap_other (by omega)⟩) (Below.refl _ _) (fun _ => rfl)
  (fun pre W => ∃ S, FitsC w0 S0 ro (R pre) S W) (fun _ _ _ => False)
  (fun s W W' row ⟨S, hs⟩ hg' hr => ⟨S, hs.grown h0 hg' hr⟩) (fun _ _ _ _ _ hs _ _ => hs) ⟨_, (hR0 ▸ hf).cells hcr (hcw [])⟩
  (fun x => (a.put (some p) (enc x)).put (some d) (enc x)) ?_ ?_ ?_ (fun _ _ _ _ _ _ h => h.elim)
 ·intro l x W K hK
  refine wpIn_region_list ?_
  unfold wpListIn
  simp only [Region.wanted, if_true]
  refine ⟨fun _ _ => trivial, ?_⟩
  rw [Oper.semAt_eq _ _ _ (fun c hc => by cases hc)]
  have hev : ({ tmps := ((#[p] : Array Tmp).zip #[enc x]).foldl (fun t (p, v) => t.setIfInBounds p v) a.tmps, defers := [] } : Act) = a.put (some p) (enc x) := by
   have h1 := ha.defers
   simp [Act.put, h1]
  rw [hev]
  have hev2 : (a.put (some p) (enc x)).eval (.tmp p) = enc x := (ha.put hp (enc x)).ev (x := .tmp p) (by simp [Env.ev, Env.get])
  simp only [execOp, hev2, Sem.run_pure, Oper.uponIn_value]
  exact hK
 ·intro l pre x W ⟨S, hfc⟩ hlen
  have hf1 : Fits w0 S0 ro (R pre ++ []) S W := by rw [List.append_nil]; exact hfc.f
  obtain ⟨A, hA, hAS, hAl, hr1, hr2, hk⟩ := hf1.step
  have hfit : Fits W A ro (R pre) A W := ⟨Fr.refl _ _, hAl, fun b hb => .inl hb, hA, hr1⟩
  refine wpIn_mono (hbody l pre x W A hlen _ A W ((ha.put hp (enc x)).put hd (enc x)) hfit) ?_
  rintro e a' W' ⟨rfl, T, hT⟩
  have hnA : ∀ {b T : Nat} {cs : List Value}, cel b T cs ∈ ro → ¬ A b ∧ b < W.heap.size := fun hm => by
   obtain ⟨F, hF, hq⟩ := hr1 _ hm
   exact ⟨(hF _ hq.1).2, (hF _ hq.1).1⟩
  refine ⟨⟨hT.fr.size, fun k o hk' hn => ?_⟩, ⟨hT.fr.block _ (hnA hb1).2 (hnA hb1).1, hT.fr.block _ (hnA hb2).2 (hnA hb2).1⟩, ?_⟩
  ·refine (hT.fr.block k (Array.getElem?_eq_some_iff.1 hk').1 (fun hAk => ?_)).trans hk'
   obtain ⟨o', ho', hc'⟩ := hfc.c k (hAS k hAk)
   rw [hk'] at ho'; cases ho'; rw [hn] at hc'; cases hc'
  ·obtain ⟨T', hT'⟩ := hk W' T (R (pre ++ [x])) hT.fr hT.lt hT.sub hT.star
   rw [List.append_nil] at hT'
   exact ⟨_, hT'.cells hcr (hcw _)⟩
 ·intro D ys W hD hS ⟨S, hfc⟩ hdef
  subst hS
  have := hdone D (by omega) a S W ha ⟨hfc.f.fr, hfc.f.lt, hfc.f.sub, hfc.f.star, fun e he => by
   rcases List.mem_cons.1 he with rfl | he
   ·refine ⟨fun b => b = D, fun b hb => ?_, rfl, hdef⟩
    subst hb
    refine ⟨(Array.getElem?_eq_some_iff.1 hdef).1, fun hc => ?_⟩
    obtain ⟨o', ho', hc'⟩ := hfc.c b hc
    rw [hdef] at ho'; cases ho'; cases hc'
   ·exact hfc.f.ros e he⟩
  have e1 : ({ a with defers := { target := .collected D, args := #[] } :: a.defers } : Act) = { a with defers := [markD D] } := by rw [ha.defers]; rfl
  rw [e1]
  exact this
theorem HX_endR {N : Nat} {w : World} {S0 : Foot} {env : Env} {ro rw rw' : List SL} (h : rw = rw') : HX N w S0 .normal env ro rw (fun e _ w' => e = .normal ∧ ∃ T, Fits w S0 ro rw' T w') := fun a S w' ha hf => ⟨rfl, S, h ▸ hf⟩
def exS {β : Type} (f : β → List SL) : SL where
 p S w := ∃ x, Star (f x) S w
 st S w w' h := fun ⟨x, hx⟩ => ⟨x, hx.st h⟩
theorem Cellish.exS {β : Type} {f : β → List SL} (h : ∀ x, ∀ e ∈ f x, Cellish e) : Cellish (exS f) := fun S w ⟨x, hx⟩ => ⟨x, hx.cells (h x)⟩
theorem Keeps.ex {β : Type} {f : β → List SL} (x : β) {rw' : List SL} (h : Keeps [] rw') : Keeps (f x) (exS f :: rw') := fun S w hs => by
 obtain ⟨T, hT, h2⟩ := h S w trivial
 exact ⟨S, fun _ h => h, S, fun _ => False, fun _ h => h, fun _ h => h.elim, fun _ _ h => h, ⟨x, hs⟩, by
  obtain ⟨T', hT', h3⟩ := h (fun _ => False) w trivial
  exact h3.wide hT'⟩
theorem HQ_ex {β : Type} {f : β → List SL} {N : Nat} {w0 : World} {S0 : Foot} {env : Env} {ro : List SL} {K : Act → World → Prop} (h : ∀ x, HQ N w0 S0 env ro (f x) K) : HQ N w0 S0 env ro [exS f] K := fun a S w ha hf => by
 obtain ⟨A, B, hA, hB, hd, ⟨x, hx⟩, _⟩ := hf.star
 exact h x a A w ha ⟨hf.fr, fun b hb => hf.lt b (hA b hb), fun b hb => hf.sub b (hA b hb), hx, fun e he => by
  obtain ⟨F, hF, hp⟩ := hf.ros e he
  exact ⟨F, fun b hb => ⟨(hF b hb).1, fun hc => (hF b hb).2 (hA b hc)⟩, hp⟩⟩
theorem HR_ex {β : Type} {f : β → List SL} {r : Option Nat} {m : Nat} {P : Program} {N : Nat} {w0 : World} {S0 : Foot} {c : Code} {env : Env} {ro : List SL} {Q : Exit → Act → World → Prop} (h : ∀ x, HR r m P N w0 S0 c env ro (f x) Q) : HR r m P N w0 S0 c env ro [exS f] Q := HQ_ex h
theorem HX_ex {β : Type} {f : β → List SL} {N : Nat} {w0 : World} {S0 : Foot} {e : Exit} {env : Env} {ro : List SL} {Q : Exit → Act → World → Prop} (h : ∀ x, HX N w0 S0 e env ro (f x) Q) : HX N w0 S0 e env ro [exS f] Q := HQ_ex h
theorem HC_give {P : Program} {N : Nat} {w0 : World} {S0 : Foot} {c : Code} {env : Env} {ro rw rw' : List SL} {Q : Exit → Act → World → Prop} (k : Nat) {e : SL} (hk : rw[k]? = some e) (hr : eraseO rw k = some rw') (h : HC P N w0 S0 c env (e :: ro) rw' Q) : HC P N w0 S0 c env ro rw Q := by
 have e := eraseO_eq hr
 subst e
 exact HQ_give hk h
end Go.Proofs.YteeogabkkblkgaaGreatDoor
namespace Go.Proofs.YteeogabkkblkgaaGreatDoor
set_option linter.unusedVariables false
set_option linter.unusedSimpArgs false
open Go.RowKit
theorem rdA {m : Md} {ops : List Oper} {i : Nat} {l : List Nat} (h : rdyB m ops i l = true := by first | with_reducible exact rdy_ord | with_reducible exact rdy_quiet | exact rdy_lexL (by decide +kernel)) : rdyB m ops i l = true := h
theorem soA {m : Md} {ops : List Oper} {i : Nat} {l : List Nat} (h : soleB m ops i l = true := by first | with_reducible exact sole_ord | exact sole_lexL (by decide +kernel) | exact sole_pick (by decide +kernel)) : soleB m ops i l = true := h
theorem sqA {m : Md} {ops : List Oper} {i : Nat} {l : List Nat} (h : soleQ m ops i l = true := by first | with_reducible exact soleQ_ord | with_reducible exact soleQ_quiet | exact soleQ_lex (by decide +kernel) | exact soleQ_pick (by decide +kernel)) : soleQ m ops i l = true := h
theorem wfA {sz : Nat} {l : List (List Value)} (h : WfL sz l := by iterate 16 (try (first | exact WfL.nil | exact WfL.map | apply WfL.append | refine WfL.cons rfl rfl ?_ | assumption))) : WfL sz l := h
theorem lenA {p : Prop} (h : p := by first | rfl | assumption | omega | decide | (simp only [List.length_append, List.length_map, List.length_cons, List.length_nil]; omega) | (simp; omega) | exact (List.length_map _).symm) : p := h
theorem geA {p : Prop} (h : p := by first | decide | assumption | omega) : p := h
theorem elA {p : Prop} (h : p := by first | rfl | assumption | exact map_at (by assumption)) : p := h
theorem kill {a p : Prop} (hb : a) (h : a → False := by intro hb; first | omega | contradiction | exact Bool.noConfusion hb.2 | exact Bool.noConfusion hb.1 | exact Bool.noConfusion hb.1.2 | exact Bool.noConfusion hb.1.1 | exact Bool.noConfusion hb.2.1 | exact Bool.noConfusion hb.2.2 | exact Bool.noConfusion hb.1.1.2 | exact Bool.noConfusion hb.1.1.1) : p := (h hb).elim
theorem simB {a b : Prop} (ha : a) (h : a → b := by intro h; (try simp only [decide_eq_true_eq, decide_eq_false_iff_not, Bool.and_eq_true, Bool.or_eq_true, Bool.not_eq_true', Bool.not_eq_false', Bool.and_eq_false_iff, Bool.or_eq_false_iff] at h); exact h) : b := h ha
theorem keepsA {rw rw' : List SL} (h : Keeps rw rw' := by repeat (first | exact Keeps.nil | exact Keeps.refl | refine Keeps.cons Ent.rfl_ ?_ | refine Keeps.skip ?_)) : Keeps rw rw' := h
theorem permA {rw rw' : List SL} (h : Keeps rw rw' := by repeat (first | exact Keeps.nil | refine Keeps.pick 0 rfl rfl ?_ | refine Keeps.pick 1 rfl rfl ?_ | refine Keeps.pick 2 rfl rfl ?_ | refine Keeps.pick 3 rfl rfl ?_ | refine Keeps.pick 4 rfl rfl ?_ | refine Keeps.pick 5 rfl rfl ?_ | refine Keeps.pick 6 rfl rfl ?_ | refine Keeps.pick 7 rfl rfl ?_ | refine Keeps.pick 8 rfl rfl ?_ | refine Keeps.pick 9 rfl rfl ?_ | refine Keeps.pick 10 rfl rfl ?_ | refine Keeps.pick 11 rfl rfl ?_ | refine Keeps.pick 12 rfl rfl ?_ | refine Keeps.pick 13 rfl rfl ?_)) : Keeps rw rw' := h
theorem srcsA {src l : List SL} (h : AllSrc src l := by repeat (first | exact trivial | refine AllSrc.at_ 0 rfl ?_ | refine AllSrc.own 0 rfl rfl ?_ | refine AllSrc.at_ 1 rfl ?_ | refine AllSrc.own 1 rfl rfl ?_ | refine AllSrc.at_ 2 rfl ?_ | refine AllSrc.own 2 rfl rfl ?_ | refine AllSrc.at_ 3 rfl ?_ | refine AllSrc.own 3 rfl rfl ?_ | refine AllSrc.at_ 4 rfl ?_ | refine AllSrc.own 4 rfl rfl ?_ | refine AllSrc.at_ 5 rfl ?_ | refine AllSrc.own 5 rfl rfl ?_ | refine AllSrc.at_ 6 rfl ?_ | refine AllSrc.own 6 rfl rfl ?_ | refine AllSrc.at_ 7 rfl ?_ | refine AllSrc.own 7 rfl rfl ?_ | refine AllSrc.at_ 8 rfl ?_ | refine AllSrc.own 8 rfl rfl ?_ | refine AllSrc.at_ 9 rfl ?_ | refine AllSrc.own 9 rfl rfl ?_)) : AllSrc src l := h
theorem srcsB {src l : List SL} (h : AllSrc src l := by repeat (first | exact trivial | refine AllSrc.free (fun w => arr_nil _ w) ?_ | refine AllSrc.free inn_nil ?_ | refine AllSrc.at_ 0 rfl ?_ | refine AllSrc.own 0 rfl rfl ?_ | refine AllSrc.at_ 1 rfl ?_ | refine AllSrc.own 1 rfl rfl ?_ | refine AllSrc.at_ 2 rfl ?_ | refine AllSrc.own 2 rfl rfl ?_ | refine AllSrc.at_ 3 rfl ?_ | refine AllSrc.own 3 rfl rfl ?_ | refine AllSrc.at_ 4 rfl ?_ | refine AllSrc.own 4 rfl rfl ?_ | refine AllSrc.at_ 5 rfl ?_ | refine AllSrc.own 5 rfl rfl ?_ | refine AllSrc.at_ 6 rfl ?_ | refine AllSrc.own 6 rfl rfl ?_ | refine AllSrc.at_ 7 rfl ?_ | refine AllSrc.own 7 rfl rfl ?_ | refine AllSrc.at_ 8 rfl ?_ | refine AllSrc.own 8 rfl rfl ?_ | refine AllSrc.at_ 9 rfl ?_ | refine AllSrc.own 9 rfl rfl ?_ | refine AllSrc.at_ 10 rfl ?_ | refine AllSrc.own 10 rfl rfl ?_ | refine AllSrc.at_ 11 rfl ?_ | refine AllSrc.own 11 rfl rfl ?_ | refine AllSrc.at_ 12 rfl ?_ | refine AllSrc.own 12 rfl rfl ?_ | refine AllSrc.at_ 13 rfl ?_ | refine AllSrc.own 13 rfl rfl ?_ | refine AllSrc.at_ 14 rfl ?_ | refine AllSrc.own 14 rfl rfl ?_ | refine AllSrc.at_ 15 rfl ?_ | refine AllSrc.own 15 rfl rfl ?_ | refine AllSrc.at_ 16 rfl ?_ | refine AllSrc.own 16 rfl rfl ?_ | refine AllSrc.at_ 17 rfl ?_ | refine AllSrc.own 17 rfl rfl ?_ | refine AllSrc.at_ 18 rfl ?_ | refine AllSrc.own 18 rfl rfl ?_ | refine AllSrc.at_ 19 rfl ?_ | refine AllSrc.own 19 rfl rfl ?_ | refine AllSrc.at_ 20 rfl ?_ | refine AllSrc.own 20 rfl rfl ?_ | refine AllSrc.at_ 21 rfl ?_ | refine AllSrc.own 21 rfl rfl ?_ | refine AllSrc.at_ 22 rfl ?_ | refine AllSrc.own 22 rfl rfl ?_ | refine AllSrc.at_ 23 rfl ?_ | refine AllSrc.own 23 rfl rfl ?_ | refine AllSrc.at_ 24 rfl ?_ | refine AllSrc.own 24 rfl rfl ?_ | refine AllSrc.at_ 25 rfl ?_ | refine AllSrc.own 25 rfl rfl ?_)) : AllSrc src l := h
theorem S1 {p q : Prop} (hq : q) (h : q → p := by
 intro hq
 first
 | exact HO_doneG rfl hq
 | exact HO_doneGQ rfl hq
 | exact HO_doneGL rfl rfl (by decide +kernel) rfl rfl hq
 | (refine HO_k 0 rfl ?_; (first
    | exact HO_pure rfl rfl rfl rfl rdA hq
    | exact HO_eqb rfl rfl rfl rfl rfl rfl rdA hq
    | exact HO_eqf rfl rfl rfl rfl rfl rfl rfl rdA hq
    | exact HO_eqs rfl rfl rfl rfl rfl rfl rdA hq
    | exact HO_eqp rfl rfl rfl rfl rfl rfl rdA hq
    | (refine HO_sh rfl rfl rfl rfl ?hp rfl rfl rdA hq; (case hp => omega))))
 | (refine HO_k 5 rfl ?_; (first
    | exact HO_faddr rfl rfl rfl rfl rdA hq
    | exact HO_faddrE rfl rfl rfl rfl rdA hq))
 | (refine HO_k 2 rfl ?_; (first
    | exact HO_lo rfl rfl rfl rfl rfl rfl rfl rdA hq
    | exact HO_lor rfl rfl rfl rfl rfl rfl rdA hq
    | exact HO_loh rfl rfl rfl rfl rfl rfl rfl rdA hq
    | exact HO_ldA rfl rfl rfl wfA elA rfl rfl rfl rfl rdA hq))
 | (refine HO_k 3 rfl ?_; exact HO_lastG (by decide +kernel) rfl rfl (by decide +kernel) (by decide +kernel) rfl hq)
 | (refine HO_k 3 rfl ?_; (first
    | exact HO_st rfl rfl rfl rfl rfl rfl rfl rfl soA hq
    | exact HO_stA rfl rfl rfl rfl rfl rfl wfA elA rfl rfl rfl rfl soA hq))
 | (refine HO_k 18 rfl ?_; exact HO_nilc rfl rfl rfl rfl rdA hq)
 | (refine HO_k 13 rfl ?_; (first
    | (refine HO_slc0 rfl rfl rfl rfl rfl ?hp rfl rfl rdA hq; (case hp => refine ⟨by first | decide | omega, by first | exact .inl rfl | exact .inr (by omega), by first | exact .inl rfl | exact .inr (by omega)⟩))
    | (refine HO_slc rfl rfl rfl rfl rfl rfl ?hp rfl rfl rdA hq; (case hp => refine ⟨by first | decide | omega, by first | assumption | omega, by first | exact .inl rfl | exact .inr (by omega), by first | exact .inl rfl | exact .inr (by omega)⟩))))
 | (refine HO_k 6 rfl ?_; exact HO_build rfl rfl rfl rfl rfl rdA hq)
 | (refine HO_k 7 rfl ?_; exact HO_conv rfl rfl rfl rfl rdA hq)
 | (refine HO_k 8 rfl ?_; (first
    | exact HO_len rfl rfl rfl rfl rfl rdA hq))
 | (refine HO_k 22 rfl ?_; exact HO_min rfl rfl rfl rfl rfl rdA hq)
 | (refine HO_k 9 rfl ?_; exact HO_func rfl rfl rfl rfl rfl rdA hq)
 | (refine HO_k 19 rfl ?_; exact HO_cap rfl rfl rfl rfl rdA hq)
 | (refine HO_k 10 rfl ?_; exact HO_ixA rfl rfl rfl rfl wfA geA lenA lenA rfl rfl rdA hq)
 | (refine HO_g 2 rfl ?_; (first
    | exact HO_skip rfl rfl rfl rfl rdA hq))
 | (refine HO_g 1 rfl ?_; (first
    | exact HO_skip rfl rfl rfl rfl rdA hq))) : p := h hq
theorem S2 {p q : Prop} (hq : q) (h : q → p := by
 intro hq
 first
 | (refine HO_k 1 rfl ?_; (first
    | exact HO_box1 rfl rfl rfl rfl rfl soA hq
    | exact HO_boxn rfl rfl rfl rfl soA hq))
 | (refine HO_k 4 rfl ?_; (first
    | exact HO_allocn rfl rfl rfl soA hq))
 | (refine HO_k 14 rfl ?_; refine HO_mks rfl rfl rfl rfl ?h1 ?h2 ?h3 rfl rfl soA hq; (case h1 => omega); (case h2 => omega); (case h3 => omega))
 | (refine HO_k 15 rfl ?_; exact HO_bslice rfl rfl rfl rfl rfl rfl rfl rfl rfl soA hq)) : p := h hq
theorem S3 {p q : Prop} (hq : q) (h : q → p := by
 intro hq
 refine HO_k 11 rfl ?_
 first
 | exact HO_appw rfl rfl rfl rfl rfl rfl rfl rfl lenA wfA rfl rfl lenA lenA rfl rfl rfl soA hq
 | exact HO_appr rfl rfl rfl rfl rfl rfl rfl rfl lenA wfA rfl rfl lenA lenA rfl rfl rfl soA hq
 | (refine HO_addnil rfl rfl rfl ?_; (first
    | exact HO_appw rfl rfl rfl rfl rfl rfl rfl rfl lenA wfA rfl rfl lenA lenA rfl rfl rfl soA hq
    | exact HO_appr rfl rfl rfl rfl rfl rfl rfl rfl lenA wfA rfl rfl lenA lenA rfl rfl rfl soA hq))) : p := h hq
theorem S4 {p q : Prop} (hq : q) (h : q → p := by
 intro hq
 refine HO_k 11 rfl ?_
 refine HO_appz rfl rfl rfl rfl ?h1 ?h2 ?h3 rfl rfl soA hq; (case h1 => omega); (case h2 => omega); (case h3 => omega)) : p := h hq
theorem S5 {p q : Prop} (hq : q) (h : q → p := by
 intro hq
 first
 | exact HX_then hq
 | exact HC_seq rfl hq
 | exact HC_ord rfl rfl rfl rfl hq
 | (refine HC_quiet rfl ?_; exact HC_draw rfl rfl rfl rfl rfl (by kernel_rfl) hq)
 | exact HC_lex rfl rfl (by decide +kernel) rfl rfl hq
 | exact HC_block rfl hq
 | exact HC_skip rfl hq
 | exact HC_exit rfl hq
 | exact HC_ret rfl hq
 | exact HC_condT rfl rfl hq
 | exact HC_condF rfl rfl hq
 | exact HX_block_normal hq
 | exact HX_block_ret hq
 | exact HX_then_ret hq
 | exact HX_then_exit hq
 | exact HX_block_hit rfl hq
 | exact HX_block_miss rfl hq) : p := h hq
theorem SR {p q : Prop} (hq : q) (h : q → p := by
 intro hq
 first
 | exact HR_then hq
 | exact HR_seq rfl hq
 | exact HR_block rfl hq
 | exact HR_ord rfl rfl rfl rfl rfl hq
 | exact HR_lex rfl rfl (by decide +kernel) rfl rfl rfl hq) : p := h hq
theorem SW {p q : Prop} (hq : q) (h : q → p := by
 intro hq
 first
 | (with_reducible refine HO_i64 ?hp hq; (case hp => omega))
 | (with_reducible refine HO_u32 ?hp hq; (case hp => omega))
 | (with_reducible refine HO_u8 ?hp hq; (case hp => omega))) : p := h hq
theorem SD {p q : Prop} (hq : q) (h : q → p := by
 intro hq
 first
 | (with_reducible refine HO_dt ?hp hq; (case hp => first | rfl | decide | assumption | omega))
 | (with_reducible refine HO_df ?hp hq; (case hp => first | decide | assumption | omega))
 | (with_reducible refine HO_ndt ?hp hq; (case hp => first | rfl | decide | assumption | omega))
 | (with_reducible refine HO_ndf ?hp hq; (case hp => first | decide | assumption | omega))) : p := h hq
end Go.Proofs.YteeogabkkblkgaaGreatDoor
namespace Go.Proofs.YteeogabkkblkgaaGreatDoor
set_option linter.unusedVariables false
set_option linter.unusedSimpArgs false
def be : Nat → Nat → List UInt8
 | 0, _ => []
 | w + 1, n => UInt8.ofNat (n / 256 ^ w) :: be w n
def ge (l : List UInt8) : Nat := l.foldl (fun n b => n * 256 + b.toNat) 0
theorem be_length : ∀ (w n : Nat), (be w n).length = w
 | 0, _ => rfl
 | w + 1, n => by simp [be, be_length w n]
theorem ge_fold (l : List UInt8) : ∀ k : Nat, l.foldl (fun n b => n * 256 + b.toNat) k = k * 256 ^ l.length + ge l := by
 induction l with
 | nil => intro k; simp [ge]
 | cons b l ih =>
  intro k
  have h1 := ih (k * 256 + b.toNat)
  have h2 := ih b.toNat
  simp only [List.foldl_cons, List.length_cons, ge, Nat.zero_mul, Nat.zero_add] at h1 h2 ⊢
  rw [h1, h2, Nat.pow_succ, Nat.add_mul]
  have : k * 256 * 256 ^ l.length = k * (256 ^ l.length * 256) := by rw [Nat.mul_assoc, Nat.mul_comm 256]
  omega
theorem ge_cons (b : UInt8) (l : List UInt8) : ge (b :: l) = b.toNat * 256 ^ l.length + ge l := by
 have := ge_fold l b.toNat
 simpa [ge] using this
theorem ge_snoc (l : List UInt8) (b : UInt8) : ge (l ++ [b]) = ge l * 256 + b.toNat := by simp [ge]
theorem ge_nil : ge [] = 0 := rfl
theorem ge_lt (l : List UInt8) : ge l < 256 ^ l.length := by
 induction l with
 | nil => simp [ge]
 | cons b l ih =>
  rw [ge_cons, List.length_cons, Nat.pow_succ]
  have hb : b.toNat < 256 := b.toNat_lt
  have : b.toNat * 256 ^ l.length + 256 ^ l.length ≤ 256 * 256 ^ l.length := by
   have := Nat.mul_le_mul_right (256 ^ l.length) (show b.toNat + 1 ≤ 256 by omega)
   rw [Nat.add_mul, Nat.one_mul] at this
   exact this
  rw [Nat.mul_comm (256 ^ l.length) 256]
  omega
theorem ge_be (w : Nat) : ∀ n : Nat, ge (be w n) = n % 256 ^ w := by
 induction w with
 | zero => intro n; simp [be, ge_nil, Nat.mod_one]
 | succ w ih =>
  intro n
  rw [be, ge_cons, be_length, ih]
  have e : (UInt8.ofNat (n / 256 ^ w)).toNat = n / 256 ^ w % 256 := by simp
  rw [e, Nat.pow_succ, Nat.mod_mul, Nat.mul_comm (256 ^ w)]
  omega
theorem be_get (w n : Nat) : ∀ i, i < w → (be w n)[i]? = some (UInt8.ofNat (n / 256 ^ (w - 1 - i))) := by
 induction w with
 | zero => intro i h; omega
 | succ w ih =>
  intro i hi
  cases i with
  | zero => simp [be]
  | succ i =>
   rw [be, List.getElem?_cons_succ, ih i (by omega)]
   congr 4
   omega
theorem SRt {p q : Prop} (hq : q) (h : q → p := by
 intro hq
 (first | apply HX_ret | apply HX_retn)
 (repeat (first | exact Res_nil | apply Res_tmp rfl | apply Res_ce rfl rfl rfl))
 exact hq) : p := h hq
theorem srcM {src l : List SL} (h : AllSrc src l := by repeat (first | exact trivial | refine AllSrc.free (fun w => arr_nil _ w) ?_ | refine AllSrc.mem_ (by simp only [List.mem_cons, List.mem_append, List.cons_append, List.nil_append, true_or, or_true, eq_self]) ?_)) : AllSrc src l := h
theorem SB {p q : Prop} (hq : q) (h : q → p := by
 intro hq
 first
 | exact HO_doneG rfl hq
 | exact HO_doneGQ rfl hq
 | exact HO_doneGL rfl rfl (by decide +kernel) rfl rfl hq
 | (refine HO_k 0 rfl ?_; (first
    | exact HO_pure rfl rfl rfl rfl rdA hq
    | exact HO_eqb rfl rfl rfl rfl rfl rfl rdA hq
    | exact HO_eqf rfl rfl rfl rfl rfl rfl rfl rdA hq
    | exact HO_eqs rfl rfl rfl rfl rfl rfl rdA hq
    | exact HO_eqp rfl rfl rfl rfl rfl rfl rdA hq
    | (refine HO_sh rfl rfl rfl rfl ?hp rfl rfl rdA hq; (case hp => omega))))
 | (refine HO_k 5 rfl ?_; (first
    | exact HO_faddr rfl rfl rfl rfl rdA hq
    | exact HO_faddrE rfl rfl rfl rfl rdA hq))
 | (refine HO_k 2 rfl ?_; (first
    | exact HO_lo rfl rfl rfl rfl rfl rfl rfl rdA hq
    | exact HO_lor rfl rfl rfl rfl rfl rfl rdA hq
    | exact HO_loh rfl rfl rfl rfl rfl rfl rfl rdA hq
    | exact HO_ldA rfl rfl rfl wfA elA rfl rfl rfl rfl rdA hq))
 | (refine HO_k 3 rfl ?_; exact HO_lastG (by decide +kernel) rfl rfl (by decide +kernel) (by decide +kernel) rfl hq)
 | (refine HO_k 3 rfl ?_; (first
    | exact HO_st rfl rfl rfl rfl rfl rfl rfl rfl soA hq
    | exact HO_stA rfl rfl rfl rfl rfl rfl wfA elA rfl rfl rfl rfl soA hq))
 | (refine HO_k 18 rfl ?_; exact HO_nilc rfl rfl rfl rfl rdA hq)
 | (refine HO_k 13 rfl ?_; (first
    | (refine HO_slc0 rfl rfl rfl rfl rfl ?hp rfl rfl rdA hq; (case hp => refine ⟨by first | decide | omega, by first | exact .inl rfl | exact .inr (by omega), by first | exact .inl rfl | exact .inr (by omega)⟩))
    | (refine HO_slc rfl rfl rfl rfl rfl rfl ?hp rfl rfl rdA hq; (case hp => refine ⟨by first | decide | omega, by first | assumption | omega, by first | exact .inl rfl | exact .inr (by omega), by first | exact .inl rfl | exact .inr (by omega)⟩))))
 | (refine HO_k 6 rfl ?_; exact HO_build rfl rfl rfl rfl rfl rdA hq)
 | (refine HO_k 7 rfl ?_; exact HO_conv rfl rfl rfl rfl rdA hq)
 | (refine HO_k 8 rfl ?_; (first
    | exact HO_len rfl rfl rfl rfl rfl rdA hq
    | exact HO_lens rfl rfl rfl rfl rdA hq))
 | (refine HO_k 22 rfl ?_; exact HO_min rfl rfl rfl rfl rfl rdA hq)
 | (refine HO_k 9 rfl ?_; exact HO_func rfl rfl rfl rfl rfl rdA hq)
 | (refine HO_k 19 rfl ?_; exact HO_cap rfl rfl rfl rfl rdA hq)
 | (refine HO_k 10 rfl ?_; exact HO_ixA rfl rfl rfl rfl wfA geA lenA lenA rfl rfl rdA hq)
 | (refine HO_g 2 rfl ?_; (first
    | exact HO_skip rfl rfl rfl rfl rdA hq
    | exact HO_skip0 rfl rfl rfl rdA hq))
 | (refine HO_g 1 rfl ?_; (first
    | exact HO_skip rfl rfl rfl rfl rdA hq
    | exact HO_skip0 rfl rfl rfl rdA hq))
 | exact HX_then hq
 | exact HC_seq rfl hq
 | exact HC_ord rfl rfl rfl rfl hq
 | (refine HC_quiet rfl ?_; exact HC_draw rfl rfl rfl rfl rfl (by kernel_rfl) hq)
 | exact HC_lex rfl rfl (by decide +kernel) rfl rfl hq
 | exact HC_block rfl hq
 | exact HC_scope rfl hq
 | exact HC_skip rfl hq
 | exact HC_label rfl hq
 | exact HC_exit rfl hq
 | exact HC_ret rfl hq
 | exact HC_condT rfl rfl hq
 | exact HC_condF rfl rfl hq
 | exact HX_block_normal hq
 | exact HX_block_ret hq
 | exact HX_then_ret hq
 | exact HX_then_exit hq
 | exact HX_block_hit rfl hq
 | exact HX_block_miss rfl hq
 | exact HX_scope_normal hq
 | exact HX_scope_ret hq
 | exact HX_scope_exit hq) : p := h hq
theorem T2 {p q : Prop} (hq : q) (h : q → p := by
 intro hq
 first
 | (refine HO_k 1 rfl ?_; (first
    | exact HO_box1 rfl rfl rfl rfl rfl soA hq
    | exact HO_boxn rfl rfl rfl rfl soA hq))
 | (refine HO_k 4 rfl ?_; (first
    | exact HO_alloc1 rfl rfl rfl rfl soA hq
    | exact HO_allocn rfl rfl rfl soA hq))
 | (refine HO_k 14 rfl ?_; refine HO_mks rfl rfl rfl rfl ?h1 ?h2 ?h3 rfl rfl soA hq; (case h1 => omega); (case h2 => omega); (case h3 => omega))
 | (refine HO_k 15 rfl ?_; exact HO_bslice rfl rfl rfl rfl rfl rfl rfl rfl rfl soA hq)
 | (refine HO_k 11 rfl ?_; (first
    | exact HO_appw rfl rfl rfl rfl rfl rfl rfl rfl lenA wfA rfl rfl lenA lenA rfl rfl rfl soA hq
    | exact HO_appr rfl rfl rfl rfl rfl rfl rfl rfl lenA wfA rfl rfl lenA lenA rfl rfl rfl soA hq
    | (refine HO_addnil rfl rfl rfl ?_; (first
       | exact HO_appw rfl rfl rfl rfl rfl rfl rfl rfl lenA wfA rfl rfl lenA lenA rfl rfl rfl soA hq
       | exact HO_appr rfl rfl rfl rfl rfl rfl rfl rfl lenA wfA rfl rfl lenA lenA rfl rfl rfl soA hq))))
 | (refine HO_k 11 rfl ?_; refine HO_appz rfl rfl rfl rfl ?h1 ?h2 ?h3 rfl rfl soA hq; (case h1 => omega); (case h2 => omega); (case h3 => omega))) : p := h hq
theorem SX {p q : Prop} (hq : q) (h : q → p := by
 intro hq
 first
 | (with_reducible refine HO_i64 ?hp hq; (case hp => omega))
 | (with_reducible refine HO_u32 ?hp hq; (case hp => omega))
 | (with_reducible refine HO_u8 ?hp hq; (case hp => omega))
 | (with_reducible refine HO_dt ?hp hq; (case hp => first | rfl | decide | assumption | omega))
 | (with_reducible refine HO_df ?hp hq; (case hp => first | decide | assumption | omega))
 | (with_reducible refine HO_ndt ?hp hq; (case hp => first | rfl | decide | assumption | omega))
 | (with_reducible refine HO_ndf ?hp hq; (case hp => first | decide | assumption | omega))) : p := h hq
theorem SY {p q : Prop} (hq : q) (h : q → p := by
 intro hq
 first
 | (with_reducible refine HO_i64 ?hp hq; (case hp => omega))
 | (with_reducible refine HO_u32 ?hp hq; (case hp => omega))
 | (with_reducible refine HO_u8 ?hp hq; (case hp => omega))
 | (refine HO_g 2 rfl ?_; exact HO_skip rfl rfl rfl rfl rdA hq)
 | (with_reducible refine HO_dt ?hp hq; (case hp => first | rfl | decide | assumption | omega))
 | (with_reducible refine HO_df ?hp hq; (case hp => first | decide | assumption | omega))
 | (with_reducible refine HO_ndt ?hp hq; (case hp => first | rfl | decide | assumption | omega))
 | (with_reducible refine HO_ndf ?hp hq; (case hp => first | decide | assumption | omega))) : p := h hq
theorem SK {p q : Prop} (hq : q) (h : q → p := by
 intro hq
 refine HO_g 2 rfl ?_
 exact HO_skip rfl rfl rfl rfl rdA hq) : p := h hq
theorem KC {p q : Prop} (hq : q) (h : q → p := by
 intro hq
 exact HO_k 12 rfl hq) : p := h hq
theorem RU {vs : List Value} {rw : List SL} {val : Unit → Value} (h : tupV vs = val ()) : RetQ vs rw (fun _ : Unit => True) val (fun _ => []) := ⟨(), trivial, h, Keeps.nil⟩
theorem Tri_in {P : Program} {g : Nat} {fn : Func} {args : List Value} {ro rw : List SL} {α : Type} {φ : α → Prop} {val : α → Value} {es : α → List SL} {env : Env} (hf : P.funcs[g]? = some fn)
 (H : (fn.body, zipE args 0, Nat.ble args.length fn.ntmps) = (some (bodyOf fn), some env, true)) (h : ∀ (w0 : World) (S0 : Foot), HC P fn.ntmps w0 S0 (bodyOf fn) env ro rw (bodyPost P fn (Post w0 S0 ro φ val es))) : Tri P g args ro rw φ val es := by
 simp only [Prod.mk.injEq] at H
 exact Tri_of hf H.1 rfl H.2.1 H.2.2 h
end Go.Proofs.YteeogabkkblkgaaGreatDoor
