/- The symbolic walk: cutting slices, making them, storing into their elements, appending onto what has no room, texts of bytes. -/
import Derived.Test.YtdeeokkkcfkbjaaDoorEng9
import Derived.Laws.BytesString
namespace Go.Proofs.YtdeeokkkcfkbjaaDoor
set_option linter.unusedVariables false
set_option linter.unusedSimpArgs false
open Go.RowKit

/-- where a slice that was cut begins -/
def cutA (A : Option Addr) (sz m q : Nat) : Option Addr := if m = q then A else A.map (·.add (q * sz))
theorem cutA_zero {A : Option Addr} {sz m : Nat} : cutA A sz m 0 = A := by
  unfold cutA
  split
  · rfl
  · cases A <;> simp [Addr.add]
/-- what a slice that was cut reads as -/
theorem arr_cut {α : Type} {enc : α → List Value} {sz : Nat} {A : Option Addr} {l : List α} (m q j : Nat) (hm : m = q → j = 0) : Ent (arr enc sz A l) (arr enc sz (cutA A sz m q) ((l.drop q).take j)) := fun S w h hne => by
  have hj : j ≠ 0 := fun e => hne (by simp [e])
  have hmq : m ≠ q := fun e => hj (hm e)
  obtain ⟨ad, hA, hS, hc⟩ := h (fun e => hne (by simp [e]))
  refine ⟨ad.add (q * sz), by simp [cutA, hmq, hA], by rw [block_of_add]; exact hS, fun p x hp k u hk => ?_⟩
  rw [List.getElem?_take] at hp
  split at hp
  · rw [List.getElem?_drop] at hp
    have := hc _ x hp k u hk
    rw [add_of_add]
    rwa [show q * sz + (p * sz + k) = (q + p) * sz + k from by rw [Nat.add_mul]; omega]
  · cases hp
theorem arr_take {α : Type} {enc : α → List Value} {sz : Nat} {A : Option Addr} {l : List α} (j : Nat) : Ent (arr enc sz A l) (arr enc sz A (l.take j)) := fun S w h hne => by
  obtain ⟨ad, hA, hS, hc⟩ := h (fun e => hne (by simp [e]))
  refine ⟨ad, hA, hS, fun p x hp k u hk => ?_⟩
  rw [List.getElem?_take] at hp
  split at hp
  · exact hc _ x hp k u hk
  · cases hp
theorem arr_drop {α : Type} {enc : α → List Value} {sz : Nat} {A : Option Addr} {l : List α} (m q : Nat) (hm : m = q → l.length ≤ q) : Ent (arr enc sz A l) (arr enc sz (cutA A sz m q) (l.drop q)) := fun S w h => by
  have := arr_cut (enc := enc) (sz := sz) (A := A) (l := l) m q (l.length - q) (fun e => by have := hm e; omega) S w h
  rwa [List.take_of_length_le (by simp)] at this

section
variable {m : Md} {P : Program} {N : Nat} {w0 : World} {S0 : Foot} {ops : List Oper} {i : Nat} {lq : List Nat} {env : Env} {ro rw : List SL} {K : Act → World → Prop} {d : Nat} {op : Op} {ty : TypeId} {pos : String} {aft : Array Edge} {g : Option (Nat × Bool)}

def optI (env : Env) : Option Operand → Nat → Option Int
  | none, n => some n
  | some x, _ => match Env.ev env x with
    | some (.int _ v) => some v
    | _ => none
def okS : Option Operand → Option Operand → Bool
  | none, some _ => false
  | _, _ => true
/-- x[lo:hi:mx] -/
theorem HO_slc {T e sz by_ n c : Nat} {A : Option Addr} {x : Operand} {lo hi mx : Option Operand} {li hi' mi : Int} [hT : TySlice P T e] [hI : TyInfo P e sz by_]
    (ho : ops[i]? = some ⟨some d, .slice T x lo hi mx, ty, pos, aft, g⟩) (hx : Env.ev env x = some (.slice A n c)) (hok : okS hi mx = true) (hm : optI env mx c = some mi) (hh : optI env hi n = some hi') (hl : optI env lo 0 = some li)
    (hb : 0 ≤ li ∧ li ≤ hi' ∧ (hi = none ∨ hi' ≤ mi) ∧ (mx = none ∨ mi ≤ c)) (hw : wantE ops env g = some true) (hN : Nat.blt d N = true) (hr : rdyB m ops i lq = true)
    (h : HO m P N w0 S0 ops lq ((d, .slice (cutA A sz mi.toNat li.toNat) (hi'.toNat - li.toNat) (mi.toNat - li.toNat)) :: env) ro rw K) : HO m P N w0 S0 ops (i :: lq) env ro rw K := by
  refine HO_val ho hw rfl hN hr (fun a w ha hf => ?_) h
  have hI := hI.h
  obtain ⟨hb1, hb2, hb3, hb4⟩ := hb
  cases hin : P.info? e with
  | none => simp [hin] at hI
  | some inf =>
    simp [hin] at hI
    have hsz := run_sizeOf w hin
    rw [show P.cellsOf e = sz by simp [Program.cellsOf, hin, hI.1]] at hsz
    have key : (Instr.slice T (.slice A n c) (lo.map a.eval) (hi.map a.eval) (mx.map a.eval)).run P w = .ok (.slice (cutA A sz mi.toNat li.toNat) (hi'.toNat - li.toNat) (mi.toNat - li.toNat)) w := by
      have hbnd : (Instr.sliceBounds true n c (lo.map a.eval) (hi.map a.eval) (mx.map a.eval)).run P w = .ok (li.toNat, hi'.toNat, mi.toNat) w := by
        unfold Instr.sliceBounds
        have opt : ∀ (o : Option Operand) (q : Nat) (v : Int), optI env o q = some v → (o = none ∧ v = q) ∨ ∃ y k, o = some y ∧ a.eval y = .int k v := fun o q v hv => by
          cases o with
          | none => simp [optI] at hv; exact .inl ⟨rfl, hv.symm⟩
          | some y =>
            simp only [optI] at hv
            cases hy : Env.ev env y with
            | none => simp [hy] at hv
            | some u =>
              cases u <;> simp [hy] at hv
              rename_i k v'
              subst hv
              exact .inr ⟨y, k, rfl, ha.ev hy⟩
        have bound : ∀ (k : IntKind) (v : Int) (y : Nat) (code : BoundsCode), 0 ≤ v → v ≤ y → (Instr.sliceBound (.int k v) y code).run P w = .ok v.toNat w := fun k v y code h0 h1 => by
          simp [Instr.sliceBound, asIntOf, Sem.run_bind, h0, h1]
        rcases opt mx c mi hm with ⟨rfl, rfl⟩ | ⟨ym, km, rfl, em⟩ <;> rcases opt hi n hi' hh with ⟨rfl, rfl⟩ | ⟨yh, kh, rfl, eh⟩ <;> rcases opt lo 0 li hl with ⟨rfl, rfl⟩ | ⟨yl, kl, rfl, el⟩
        all_goals try (simp [okS] at hok; done)
        all_goals try simp only [reduceCtorEq, false_or] at hb3
        all_goals try simp only [reduceCtorEq, false_or] at hb4
        all_goals simp only [Option.map_none, Option.map_some, Sem.run_bind, Sem.run_pure, Result.andThen_ok, Int.toNat_natCast, *]
        all_goals (repeat (first | rw [bound _ _ _ _ (by omega) (by omega)] | simp only [Result.andThen_ok, Sem.run_pure, Int.toNat_natCast]))
        all_goals try rfl
      unfold Instr.slice
      simp only [Sem.run_bind, run_underlying hT.h, Result.andThen_ok, hbnd, hsz, Sem.run_pure]
      rfl
    have hx' := ha.ev hx
    simp [execOp, Sem.run_bind, Instr.sliceAt, run_underlying hT.h, hx', key]

theorem repl_flat (z : Value) : ∀ q : Nat, (List.replicate q [z]).flatMap idE = List.replicate q z
  | 0 => rfl
  | q + 1 => by rw [List.replicate_succ, List.flatMap_cons, repl_flat z q]; rfl
/-- make([]T, n), a cell an element -/
theorem HO_mks {T e by_ : Nat} {z : Value} {x y : Operand} {k k' : IntKind} {n : Int} [hT : TySlice P T e] [hI : TyInfo P e 1 by_] [hZ : TyZero P e z]
    (ho : ops[i]? = some ⟨some d, .makeSlice T x y, ty, pos, aft, g⟩) (hx : Env.ev env x = some (.int k n)) (hy : Env.ev env y = some (.int k' n)) (hz1 : cellsL z = [z]) (h0 : 0 ≤ n) (hb : n * by_ ≤ 281474976710656) (hb2 : n ≤ 9223372036854775807)
    (hw : wantE ops env g = some true) (hN : Nat.blt d N = true) (hs : soleB m ops i lq = true)
    (h : ∀ b : Nat, HO (nmM m) P N w0 S0 ops lq ((d, .slice (some ⟨b, 0, none⟩) n.toNat n.toNat) :: env) ro (own idE e 1 (some ⟨b, 0, none⟩) n.toNat n.toNat (List.replicate n.toNat [z]) :: rw) K) : HO m P N w0 S0 ops (i :: lq) env ro rw K := by
  refine HO_act_ex (α := Nat) (φ := fun _ => True) (v := fun b => .slice (some ⟨b, 0, none⟩) n.toNat n.toNat) (rw' := fun b => own idE e 1 (some ⟨b, 0, none⟩) n.toNat n.toNat (List.replicate n.toNat [z]) :: rw) ho hw rfl hN hs (fun w1 S1 a S w ha hf => ?_) (fun b _ => h b)
  obtain ⟨q, rfl⟩ : ∃ q : Nat, n = q := ⟨n.toNat, by omega⟩
  have hI := hI.h
  have hz := hZ.h
  cases hin : P.info? e with
  | none => simp [hin] at hI
  | some inf =>
    simp [hin] at hI hz
    have hzc : z.cells = #[z] := by rw [cellsL_eq, hz1]
    have hb' : inf.bytes * q ≤ 281474976710656 := by
      rw [hI.2, Nat.mul_comm]
      have : ((q * by_ : Nat) : Int) ≤ 281474976710656 := by rw [Int.natCast_mul]; exact hb
      omega
    obtain ⟨w', hrun, how, hg⟩ := run_make_full (P := P) w 0 T e inf z 1 hT.h hin hz hI.1 k k' q hb' (by unfold maxLen; omega) (Nat.zero_le _)
    have hlt : w.heap.size < w'.heap.size := by
      rcases how.2 with ⟨hv, _⟩ | ⟨g', cap, cur, hv, _, hh, _⟩
      · injection hv with hv; cases hv
      · injection hv with hv
        injection hv with hv
        injection hv with hv
        subst hv
        rcases Nat.lt_or_ge w.heap.size w'.heap.size with h' | h'
        · exact h'
        · rw [Array.getElem?_eq_none h'] at hh; cases hh
    have hrow : (List.replicate q [z]).flatMap idE = (madeCells z.cells (q * 1)).toList := by
      rw [hzc, Nat.mul_one, toList_madeCells_one]
      exact repl_flat z q
    obtain ⟨T', hf'⟩ := hf.new (w' := w') ⟨hg.os, hg.tape, hg.output, hg.size, fun k hk => hg.block k hk (by simp)⟩ [own idE e 1 (some ⟨w.heap.size, 0, none⟩) q q (List.replicate q [z])] (fun b => b = w.heap.size) (fun b hb => by subst hb; exact ⟨Nat.le_refl _, hlt⟩)
      ⟨fun b => b = w.heap.size, fun _ => False, fun _ h => h, fun _ h => h.elim, fun _ _ h => h, ⟨by simp, by rw [hrow]; exact how, fun ad hA => by injection hA with hA; rw [← hA]⟩, trivial⟩
    refine ⟨w.heap.size, T', w', trivial, ?_, by simpa using hf'⟩
    simp [execOp, Sem.run_bind, ha.ev hx, ha.ev hy, hrun]

theorem flatMap_set {xs : List (List Value)} {sz : Nat} : ∀ (q off : Nat) (row : List Value) (v : Value) (_ : ∀ x ∈ xs, x.length = sz) (_ : xs[q]? = some row) (_ : off < sz), (xs.flatMap idE).set (q * sz + off) v = (xs.set q (row.set off v)).flatMap idE := by
  induction xs with
  | nil => intro q off row v _ h _; simp at h
  | cons x xs ih =>
    intro q off row v hl hq ho
    have hx : x.length = sz := hl x (by simp)
    cases q with
    | zero =>
      simp at hq
      subst hq
      rw [Nat.zero_mul, Nat.zero_add, List.flatMap_cons, List.set_cons_zero, List.flatMap_cons]
      exact List.set_append_left _ _ (by show off < x.length; omega)
    | succ q =>
      have h1 := ih q off row v (fun y hy => hl y (by simp [hy])) (by simpa using hq) ho
      rw [List.flatMap_cons, List.set_cons_succ, List.flatMap_cons, ← h1]
      have e : (q + 1) * sz + off = (idE x).length + (q * sz + off) := by show _ = x.length + _; rw [hx, Nat.add_mul]; omega
      rw [e, List.set_append_right _ _ (by omega), Nat.add_sub_cancel_left]

/-- a store into an element of a row of the call's own -/
theorem HO_stE {x y : Operand} {T q sz off k e n c sz' : Nat} {ad : Addr} {v : Value} {row row' : List Value} {xs : List (List Value)} {rw' : List SL} [hT : TyOne P T]
    (ho : ops[i]? = some ⟨none, .store T x y, ty, pos, aft, g⟩) (hx : Env.ev env x = some (.pointer (some (eP ad q sz off)))) (hy : Env.ev env y = some v) (h1 : cellsL v = [v]) (h1' : v.oneCell' = true)
    [hk : OwnAt rw (some ad) k e sz' n c xs] (hs' : Nat.beq sz sz' = true) (hwf : WfL sz' xs) (hq : xs[q]? = some row) (hoff : Nat.blt off sz = true) (hrow : putL row off [v] = some row')
    (hrw : setO rw k (own idE e sz' (some ad) n c (xs.set q row')) = some rw') (hw : wantE ops env g = some true) (hs : soleB m ops i lq = true)
    (h : HO (nmM m) P N w0 S0 ops lq env ro rw' K) : HO m P N w0 S0 ops (i :: lq) env ro rw K := by
  have hs' := Nat.eq_of_beq_eq_true hs'
  subst hs'
  have hrw := setO_eq hrw
  subst hrw
  have hoff : off < sz := by simpa [Nat.blt_eq] using hoff
  obtain ⟨hlt, hput⟩ := putL_cons _ _ _ _ _ hrow
  have hput : row' = row.set off v := by simpa [putL] using hput.symm
  subst hput
  refine HO_unit ho hw rfl hs (fun w1 S1 a S w ha hf => ?_) h
  obtain ⟨A, hA, hp, hss⟩ := set_get hk.h (own idE e sz (some ad) n c (xs.set q (row.set off v))) hf.star
  obtain ⟨hn, how, hS⟩ := hp
  have hSb := hS ad rfl
  obtain ⟨g', rfl⟩ : ∃ g', ad = ⟨g', 0, none⟩ := by
    rcases how.2 with ⟨hv, _⟩ | ⟨g', cap, cur, hv, _⟩
    · injection hv with hv; cases hv
    · injection hv with hv; injection hv with hv; exact ⟨g', hv⟩
  have hlen : ∀ x ∈ xs, x.length = sz := fun x hx => (hwf x hx).1
  have hql : q < xs.length := (List.getElem?_eq_some_iff.1 hq).1
  have haddr : eP ⟨g', 0, none⟩ q sz off = ⟨g', q * sz + off, none⟩ := by rw [eP_eq, addr_add]; simp
  have hcell : w.cell? ⟨g', q * sz + off, none⟩ = (xs.flatMap idE)[q * sz + off]? := how.cellAt _ (by
    rw [hn]
    have := Nat.mul_le_mul_right sz (show q + 1 ≤ xs.length by omega)
    rw [Nat.add_mul] at this
    omega)
  have hsome : (xs.flatMap idE)[q * sz + off]? = some (row[off]'hlt) := flatMap_at xs hlen q row hq off _ (List.getElem?_eq_getElem hlt)
  have hfz := how.frozenAt (q * sz + off)
  obtain ⟨how', hg⟩ := how.stored (q * sz + off) v
  have hst : (store ⟨g', q * sz + off, none⟩ v).run P w = .ok () (w.setCell ⟨g', q * sz + off, none⟩ v) := by
    rw [run_store P w _ v .plain h1']
    simp [stored, hcell, hsome, hfz]
  have hblk : ∀ c, c ≠ g' → (w.setCell ⟨g', q * sz + off, none⟩ v).heap[c]? = w.heap[c]? := fun c hc => Below.heap_setCell _ _ _ _ hc
  have hzz : (w.setCell ⟨g', q * sz + off, none⟩ v).heap.size = w.heap.size := by simp [World.setCell]
  refine ⟨S, w.setCell ⟨g', q * sz + off, none⟩ v, ?_, ⟨⟨hf.fr.os, hf.fr.tape, hf.fr.output, by rw [hzz]; exact hf.fr.size, fun c hc hn' => ?_⟩, fun c hc => by rw [hzz]; exact hf.lt c hc, hf.sub, ?_, fun e he => ?_⟩⟩
  · simp only [execOp, Instr.storeAt, Instr.sureAddr, ha.ev hx, ha.ev hy, Sem.run_bind, Sem.run_pure, Result.andThen_ok, storeVar, size_one w hT.h, cellsL_eq, h1]
    simp [storeCells, haddr, addr_add, hst, Sem.run_bind]
  · by_cases hcb : c = g'
    · subst hcb
      exact absurd ((hf.sub c (hA c hSb)).resolve_left hn') (by omega)
    · exact (hblk c hcb).trans (hf.fr.block c hc hn')
  · exact hss _ (fun c hc hn' => by
      by_cases hcb : c = g'
      · subst hcb; exact absurd hSb hn'
      · exact hblk c hcb) ⟨by simpa using hn, by rw [← flatMap_set q off row v hlen hq hoff]; exact how', hS⟩
  · obtain ⟨F, hF, hpe⟩ := hf.ros e he
    refine ⟨F, fun c hc => ⟨by rw [hzz]; exact (hF c hc).1, (hF c hc).2⟩, e.st F w _ (fun c hc => ?_) hpe⟩
    by_cases hcb : c = g'
    · subst hcb; exact absurd (hA c hSb) (hF c hc).2
    · exact hblk c hcb

theorem run_append_cap0 {T e sz by_ : Nat} {inf : TypeInfo} {z : Value} (w : World) (hT : P.underlying T = some (.slice e)) (hin : P.info? e = some inf) (hz : inf.zero = some z) (hsz : inf.size = sz) (hby : inf.bytes = by_) (h0 : 0 < sz)
    {A A2 : Option Addr} {n2 c2 : Nat} {l2 : List (List Value)} (hn2 : n2 = l2.length) (hl : ∀ x ∈ l2, x.length = sz) (hb : l2.length * by_ ≤ 140737488355328) (hb2 : l2.length ≤ 9223372036854775807) {F : Foot} (hs : (arr idE sz A2 l2).p F w) :
    ∃ A' c' w', (Builtin.append_ #[T, T] ty #[.slice A 0 0, .slice A2 n2 c2]).run P w = .ok (.slice A' n2 c') w' ∧ Below w.heap.size w w' ∧ n2 ≤ c' ∧ (l2 ≠ [] → w'.heap.size = w.heap.size + 1) ∧ (arr idE sz A' l2).p (fun b => b = w.heap.size) w' := by
  cases l2 with
  | nil =>
    simp at hn2
    subst hn2
    refine ⟨A, 0, w, ?_, Below.refl _ _, Nat.le_refl _, fun h => absurd rfl h, fun h => absurd rfl h⟩
    cases A <;> cases A2 <;> simp [Builtin.append_, run_underlying hT, sizeOf, typeInfo, hin, Builtin.lenOf, Builtin.firstCells, storeCells, loadCells, loadCellsFrom]
  | cons y ys =>
    obtain ⟨ad, hA, _, hc⟩ := hs (by simp)
    subst hA
    have hpos : 0 < n2 := by rw [hn2]; simp
    have hlen : ((y :: ys).flatMap idE).length = n2 * inf.size := by rw [flatMap_len (enc := idE) _ hl, hn2, hsz]
    have hnews : ∀ j v, ((y :: ys).flatMap idE)[j]? = some v → w.cell? (ad.add j) = some v := fun q u hq => by
      have hqlt := (List.getElem?_eq_some_iff.1 hq).1
      rw [hlen, hsz] at hqlt
      have hqd : q / sz < (y :: ys).length := Nat.div_lt_of_lt_mul (by rw [Nat.mul_comm, ← hn2]; exact hqlt)
      have hx1 : (y :: ys)[q / sz]? = some (y :: ys)[q / sz] := List.getElem?_eq_getElem hqd
      have hkm : q % sz < (idE (y :: ys)[q / sz]).length := by show q % sz < ((y :: ys)[q / sz]).length; rw [hl _ (List.getElem_mem _)]; exact Nat.mod_lt _ h0
      have h2 := flatMap_at (enc := idE) (y :: ys) hl _ _ hx1 (q % sz) _ (List.getElem?_eq_getElem hkm)
      have h3 := hc _ _ hx1 (q % sz) _ (List.getElem?_eq_getElem hkm)
      have hqe : q / sz * sz + q % sz = q := by rw [Nat.mul_comm]; exact Nat.div_add_mod q sz
      rw [hqe] at h2 h3
      rw [hq] at h2
      injection h2 with h2
      rw [h3, ← h2]
    have hfit : Builtin.nextslicecap n2 0 * inf.bytes ≤ 281474976710656 := growslice_fits hpos (by rw [hby, hn2]; exact hb)
    have hcg := grownCap_ge w n2 0 e
    have fin : ∀ rest : Array Value, (arr idE sz (some ⟨w.heap.size, 0, none⟩) (y :: ys)).p (fun b => b = w.heap.size) (w.drew.alloc (.cells (((y :: ys).flatMap idE).toArray ++ rest) e)) := fun rest _ =>
      ⟨⟨w.heap.size, 0, none⟩, rfl, rfl, fun q x hq k u hk => by
        have h9 : (w.drew.alloc (.cells (((y :: ys).flatMap idE).toArray ++ rest) e)).heap[w.heap.size]? = some (.cells (((y :: ys).flatMap idE).toArray ++ rest) e (0, 0)) := heap_alloc_new w.drew _
        rw [addr_add, Nat.zero_add, cell_of_row _ _ _ _ _ (0, 0) h9, Array.getElem?_append_left (by
          have := (List.getElem?_eq_some_iff.1 (flatMap_at (enc := idE) (y :: ys) hl q x hq k u hk)).1
          simpa using this)]
        simpa using flatMap_at (enc := idE) (y :: ys) hl q x hq k u hk⟩
    cases A with
    | none =>
      have hr := run_append_nil (P := P) w T ty e inf z hT hin hz ad n2 c2 ((y :: ys).flatMap idE) hlen hnews hpos (by rw [hn2]; omega) (by rw [hby, hn2]; omega)
      exact ⟨_, _, _, hr, (((Below.refl _ w).drew).alloc (Nat.le_refl _) _), hcg, fun _ => by simp, fin _⟩
    | some b =>
      have hr := run_append_grow (P := P) w T ty e inf z hT hin hz b 0 0 [] (by simp) (fun j v hj => by simp at hj) ad n2 c2 ((y :: ys).flatMap idE) hlen hnews (by omega) (by rw [hn2]; omega) (by rw [Nat.zero_add]; exact hfit)
      simp only [Nat.zero_add] at hr
      refine ⟨_, _, _, hr, (((Below.refl _ w).drew).alloc (Nat.le_refl _) _), hcg, fun _ => by simp, ?_⟩
      have := fin (Builtin.zeroCells z.cells (grownCap w n2 0 e - n2))
      simpa using this

/-- append onto a slice of no room: what comes of it is only read -/
theorem HO_clone {T e sz by_ n2 c2 : Nat} {A A2 : Option Addr} {l2 : List (List Value)} {x y : Operand} {z : Value} [hT : TySlice P T e] [hI : TyInfo P e sz by_] [hZ : TyZero P e z]
    (ho : ops[i]? = some ⟨some d, .call { callee := .builtin .append, args := #[x, y], argTypes := #[T, T] }, ty, pos, aft, g⟩) (hx : Env.ev env x = some (.slice A 0 0)) (hy : Env.ev env y = some (.slice A2 n2 c2))
    (hk2 : ∃ e, e ∈ ro ++ rw ∧ Ent e (arr idE sz A2 l2)) (hn2 : n2 = l2.length) (hwf : WfL sz l2) (hsz : Nat.blt 0 sz = true) (hb : l2.length * by_ ≤ 140737488355328) (hb2 : l2.length ≤ 9223372036854775807)
    (hw : wantE ops env g = some true) (hN : Nat.blt d N = true) (hs : soleB m ops i lq = true)
    (h : ∀ A' c', n2 ≤ c' → HO (nmM m) P N w0 S0 ops lq ((d, .slice A' n2 c') :: env) ro (arr idE sz A' l2 :: rw) K) : HO m P N w0 S0 ops (i :: lq) env ro rw K := by
  refine HO_act_ex (α := Option Addr × Nat) (φ := fun p => n2 ≤ p.2) (v := fun p => .slice p.1 n2 p.2) (rw' := fun p => arr idE sz p.1 l2 :: rw) ho hw rfl hN hs (fun w1 S1 a S w ha hf => ?_) (fun p hp => h p.1 p.2 hp)
  obtain ⟨src, hmem, hent⟩ := hk2
  obtain ⟨F, hFl, hp2⟩ := hf.see hmem
  have hI := hI.h
  have hz := hZ.h
  cases hin : P.info? e with
  | none => simp [hin] at hI
  | some inf =>
    simp [hin] at hI hz
    obtain ⟨A', c', w', hrun, hbel, hc, hgrow, hp⟩ := run_append_cap0 (P := P) (ty := ty) (A := A) (c2 := c2) w hT.h hin hz hI.1 hI.2 (by simpa [Nat.blt_eq] using hsz) hn2 (fun x hx => (hwf x hx).1) hb hb2 (hent _ _ hp2)
    by_cases h0 : l2 = []
    · obtain ⟨T', hf'⟩ := hf.new (w' := w') hbel [arr idE sz A' l2] (fun _ => False) (fun _ h => h.elim) ⟨fun _ => False, fun _ => False, fun _ h => h, fun _ h => h, fun _ h _ => h, fun hne => absurd h0 hne, trivial⟩
      exact ⟨(A', c'), T', w', hc, by simp [execOp, resolve, invoke, builtin, Sem.run_bind, ha.ev hx, ha.ev hy, hrun], by simpa using hf'⟩
    · obtain ⟨T', hf'⟩ := hf.new (w' := w') hbel [arr idE sz A' l2] (fun b => b = w.heap.size) (fun b hb => by subst hb; exact ⟨Nat.le_refl _, by rw [hgrow h0]; omega⟩)
        ⟨fun b => b = w.heap.size, fun _ => False, fun _ h => h, fun _ h => h.elim, fun _ _ h => h, hp, trivial⟩
      exact ⟨(A', c'), T', w', hc, by simp [execOp, resolve, invoke, builtin, Sem.run_bind, ha.ev hx, ha.ev hy, hrun], by simpa using hf'⟩

/-- string(b) -/
theorem HO_b2s {T U n c : Nat} {A : Option Addr} {x : Operand} {l : List UInt8} {e : Nat} [hT : TySlice P T e] [hE : TyInt P e .u8] [hU : TyStr P U] (ho : ops[i]? = some ⟨some d, .convert T U x, ty, pos, aft, g⟩) (hx : Env.ev env x = some (.slice A n c))
    (hk : ∃ e, e ∈ seeL m ro rw ∧ Ent e (arr idE 1 A (l.map fun b => [.int .u8 b.toNat]))) (hn : n = l.length)
    (hw : wantE ops env g = some true) (hN : Nat.blt d N = true) (hr : rdyB m ops i lq = true)
    (h : HO m P N w0 S0 ops lq ((d, .string ⟨l.toArray⟩) :: env) ro rw K) : HO m P N w0 S0 ops (i :: lq) env ro rw K := by
  obtain ⟨src, hmem, hent⟩ := hk
  refine HO_val ho hw rfl hN hr (fun a w ha hf => ?_) h
  obtain ⟨F, _, hp⟩ := hf _ hmem
  have hs := hent _ _ hp
  have key : (Conv.bytesToString (.slice A n c)).run P w = .ok (.string ⟨l.toArray⟩) w := by
    cases A with
    | none =>
      have : l = [] := by
        cases l with
        | nil => rfl
        | cons b l => obtain ⟨ad, hA, _⟩ := hs (by simp); cases hA
      subst this
      simp [Conv.bytesToString]
      rfl
    | some ad =>
      have hload : (loadCells ad n).run P w = .ok ((l.map fun b => (b.toNat : Int)).map (Value.int .u8)).toArray w := by
        have hc : ∀ k v, (l.map fun b => Value.int .u8 (b.toNat : Int))[k]? = some v → w.cell? (ad.add (0 + k)) = some v := fun k v hk => by
          have hkl := (List.getElem?_eq_some_iff.1 hk).1
          obtain ⟨ad', hA, _, hcc⟩ := hs (by intro e; simp at e; subst e; simp at hkl)
          injection hA with hA
          subst hA
          rw [List.getElem?_map, Option.map_eq_some_iff] at hk
          obtain ⟨b, hb, rfl⟩ := hk
          have := hcc k [.int .u8 b.toNat] (by rw [List.getElem?_map, hb]; rfl) 0 _ rfl
          simpa using this
        have := run_loadCellsFrom (P := P) w ad (l.map fun b => Value.int .u8 (b.toNat : Int)) 0 #[] hc
        simp only [loadCells]
        rw [hn]
        simpa [Function.comp_def] using this
      have hb := run_bytesToString (P := P) w ad n c _ hload
      rw [hb]
      have : ∀ (l : List UInt8) (s : ByteArray), (l.map fun b => (b.toNat : Int)).foldl (fun r n => r.push (UInt8.ofNat n.toNat)) s = ⟨s.data ++ l.toArray⟩ := fun l => by
        induction l with
        | nil => intro s; simp
        | cons b l ih =>
          intro s
          rw [List.map_cons, List.foldl_cons, ih]
          simp [ByteArray.push]
      rw [this]
      simp [ByteArray.empty, ByteArray.emptyWithCapacity]
      try rfl
  simp [execOp, convert, Sem.run_bind, run_underlying hT.h, run_underlying hU.h, run_underlying hE.h, ha.ev hx, key]
end
end Go.Proofs.YtdeeokkkcfkbjaaDoor
