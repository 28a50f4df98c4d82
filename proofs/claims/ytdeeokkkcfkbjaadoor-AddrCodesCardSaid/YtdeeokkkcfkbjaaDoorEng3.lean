/- The symbolic walk: values that only the slots decide; guards that are not decided ('a && b'); pieces of memory that are known whole. -/
import Derived.Test.YtdeeokkkcfkbjaaDoorEng2
namespace Go.Proofs.YtdeeokkkcfkbjaaDoor
set_option linter.unusedVariables false
set_option linter.unusedSimpArgs false
open Go.RowKit

/-! ## types, as far as the rules want them: each a closed Bool -/
def aggD : TypeDesc → Bool | .struct _ => true | .array _ _ => true | _ => false
def tyOneB (P : Program) (T : Nat) : Bool := match P.underlying T, P.info? T with | some d, some i => !aggD d && i.size == 1 | _, _ => false
def tyAggB (P : Program) (T n : Nat) : Bool := match P.underlying T, P.info? T with | some d, some i => aggD d && i.size == n | _, _ => false
def fOffB (P : Program) (T f o : Nat) : Bool := match P.underlying T with
  | some (.struct fs) => match fs[f]? with
    | some fl => fl.offset == o && (match P.info? fl.type with | some i => i.size != 0 | none => false)
    | none => false
  | _ => false
def fnB (P : Program) (g : Nat) : Bool := match P.funcs[g]? with | some fn => fn.body.isSome && fn.name != "runtime.NumGoroutine" | none => false
class TyOne (P : Program) (T : Nat) : Prop where h : tyOneB P T = true
class TyAgg (P : Program) (T : Nat) (n : outParam Nat) : Prop where h : tyAggB P T n = true
class TyZero (P : Program) (T : Nat) (z : outParam Value) : Prop where h : (P.info? T).bind (·.zero) = some z
class FOff (P : Program) (T f : Nat) (o : outParam Nat) : Prop where h : fOffB P T f o = true
class FnOk (P : Program) (g : Nat) : Prop where h : fnB P g = true
class TySlice (P : Program) (T : Nat) (e : outParam Nat) : Prop where h : P.underlying T = some (.slice e)
class TyInt (P : Program) (T : Nat) (k : outParam IntKind) : Prop where h : P.underlying T = some (.int k)
class TyStr (P : Program) (T : Nat) : Prop where h : P.underlying T = some .string

section
variable {P : Program} {T : Nat} (w : World)
theorem isAgg_one (h : tyOneB P T = true) : (isAgg T).run P w = .ok false w := by
  unfold tyOneB at h
  cases hu : P.underlying T with
  | none => simp [hu] at h
  | some d =>
    simp only [isAgg, Sem.run_bind, run_underlying hu, Result.andThen_ok]
    cases hi : P.info? T with
    | none => simp [hu, hi] at h
    | some i => cases d <;> simp_all [aggD]
theorem isAgg_agg {n : Nat} (h : tyAggB P T n = true) : (isAgg T).run P w = .ok true w := by
  unfold tyAggB at h
  cases hu : P.underlying T with
  | none => simp [hu] at h
  | some d =>
    simp only [isAgg, Sem.run_bind, run_underlying hu, Result.andThen_ok]
    cases hi : P.info? T with
    | none => simp [hu, hi] at h
    | some i => cases d <;> simp_all [aggD]
theorem size_one (h : tyOneB P T = true) : (sizeOf T).run P w = .ok 1 w := by
  unfold tyOneB at h
  cases hi : P.info? T with
  | none => cases hu : P.underlying T <;> simp [hu, hi] at h
  | some i =>
    cases hu : P.underlying T with
    | none => simp [hu] at h
    | some d =>
      simp [hu, hi] at h
      rw [run_sizeOf w hi]
      simp [Program.cellsOf, hi, h.2]
theorem size_agg {n : Nat} (h : tyAggB P T n = true) : (sizeOf T).run P w = .ok n w := by
  unfold tyAggB at h
  cases hi : P.info? T with
  | none => cases hu : P.underlying T <;> simp [hu, hi] at h
  | some i =>
    cases hu : P.underlying T with
    | none => simp [hu] at h
    | some d =>
      simp [hu, hi] at h
      rw [run_sizeOf w hi]
      simp [Program.cellsOf, hi, h.2]
theorem zero_run {z : Value} (h : (P.info? T).bind (·.zero) = some z) : (zeroValue T).run P w = .ok z w := by
  cases hi : P.info? T with
  | none => simp [hi] at h
  | some i =>
    simp [hi] at h
    simp [zeroValue, typeInfo, hi, h]
end

/-! ## cells -/
theorem run_load_cell {P : Program} (w : World) {a : Addr} {v : Value} (h : w.cell? a = some v) : (load a).run P w = .ok v w := by simp [load, Sem.run, h]

theorem run_loadCellsFrom {P : Program} (w : World) (a : Addr) : ∀ (l : List Value) (i : Nat) (acc : Array Value), (∀ k v, l[k]? = some v → w.cell? (a.add (i + k)) = some v) →
    (loadCellsFrom a i l.length acc).run P w = .ok (acc ++ l.toArray) w
  | [], i, acc, _ => by simp [loadCellsFrom]
  | v :: l, i, acc, h => by
    have h0 := h 0 v rfl
    simp only [Nat.add_zero] at h0
    simp only [List.length_cons, loadCellsFrom, Sem.run_bind, run_load_cell w h0, Result.andThen_ok]
    rw [run_loadCellsFrom w a l (i + 1) (acc.push v) (fun k u hk => by have := h (k + 1) u (by simpa using hk); rwa [show i + (k + 1) = i + 1 + k from by omega] at this)]
    simp

theorem run_loadVar_one {P : Program} {T : Nat} (w : World) (hT : tyOneB P T = true) {a : Addr} {v : Value} (h : w.cell? a = some v) : (loadVar T a).run P w = .ok v w := by
  simp only [loadVar, Sem.run_bind, isAgg_one w hT, Result.andThen_ok, Bool.false_eq_true, if_false, run_load_cell w h]
theorem run_loadVar_agg {P : Program} {T : Nat} (w : World) {a : Addr} {l : List Value} (hT : tyAggB P T l.length = true) (h : ∀ k v, l[k]? = some v → w.cell? (a.add k) = some v) : (loadVar T a).run P w = .ok (.agg l.toArray) w := by
  simp only [loadVar, Sem.run_bind, isAgg_agg w hT, size_agg w hT, Result.andThen_ok, if_true, loadCells]
  rw [run_loadCellsFrom w a l 0 #[] (fun k v hk => by simpa using h k v hk)]
  simp

/-! ### one block, known whole -/
def cel (b : Nat) (T : TypeId) (cs : List Value) : SL where
  p S w := S b ∧ w.heap[b]? = some (.cells cs.toArray T (0, 0))
  st S w w' h hp := ⟨hp.1, (h b hp.1).trans hp.2⟩

theorem cel_cell {b T : Nat} {cs : List Value} {S : Foot} {w : World} (h : (cel b T cs).p S w) (i : Nat) : w.cell? ⟨b, i, none⟩ = cs[i]? := by
  have := h.2
  simp [World.cell?, this]
theorem cel_free {b T : Nat} {cs : List Value} {S : Foot} {w : World} (h : (cel b T cs).p S w) (i : Nat) : w.frozen? ⟨b, i, none⟩ = false := by
  have := h.2
  simp [World.frozen?, this]

theorem addr_add (b off k : Nat) : Addr.add ⟨b, off, none⟩ k = ⟨b, off + k, none⟩ := by
  unfold Addr.add
  by_cases hk : k = 0 <;> simp [hk]

/-- cells off .. off + n of a list, written out -/
def subL : List Value → Nat → Nat → Option (List Value)
  | _, _, 0 => some []
  | [], _, _ + 1 => none
  | x :: xs, 0, n + 1 => match subL xs 0 n with | some l => some (x :: l) | none => none
  | _ :: xs, off + 1, n + 1 => subL xs off (n + 1)
theorem subL_spec : ∀ (cs : List Value) (off n : Nat) (l : List Value), subL cs off n = some l → l.length = n ∧ ∀ k, k < n → cs[off + k]? = l[k]?
  | cs, off, 0, l, h => by simp [subL] at h; subst h; exact ⟨rfl, fun k hk => absurd hk (by omega)⟩
  | [], off, n + 1, l, h => by simp [subL] at h
  | x :: xs, 0, n + 1, l, h => by
    simp only [subL] at h
    cases hs : subL xs 0 n with
    | none => simp [hs] at h
    | some q =>
      simp [hs] at h
      subst h
      obtain ⟨hl, hk⟩ := subL_spec xs 0 n q hs
      refine ⟨by simp [hl], fun k hk' => ?_⟩
      cases k with
      | zero => simp
      | succ k => have := hk k (by omega); simpa using this
  | x :: xs, off + 1, n + 1, l, h => by
    simp only [subL] at h
    obtain ⟨hl, hk⟩ := subL_spec xs off (n + 1) l h
    exact ⟨hl, fun k hk' => by have := hk k hk'; rw [show off + 1 + k = (off + k) + 1 from by omega]; simpa using this⟩

/-- the list with new cells from off on, written out -/
def putL : List Value → Nat → List Value → Option (List Value)
  | xs, _, [] => some xs
  | [], _, _ :: _ => none
  | _ :: xs, 0, v :: vs => match putL xs 0 vs with | some l => some (v :: l) | none => none
  | x :: xs, off + 1, v :: vs => match putL xs off (v :: vs) with | some l => some (x :: l) | none => none

theorem putL_cons : ∀ (xs : List Value) (off : Nat) (v : Value) (vs l : List Value), putL xs off (v :: vs) = some l → off < xs.length ∧ putL (xs.set off v) (off + 1) vs = some l
  | [], off, v, vs, l, h => by cases off <;> simp [putL] at h
  | x :: xs, 0, v, vs, l, h => by
    simp only [putL] at h
    cases hp : putL xs 0 vs with
    | none => simp [hp] at h
    | some m =>
      simp [hp] at h
      subst h
      refine ⟨by simp, ?_⟩
      cases vs with
      | nil => simp [putL] at hp ⊢; exact hp
      | cons u us => simp [List.set, putL, hp]
  | x :: xs, off + 1, v, vs, l, h => by
    simp only [putL] at h
    cases hp : putL xs off (v :: vs) with
    | none => simp [hp] at h
    | some m =>
      simp [hp] at h
      subst h
      obtain ⟨h1, h2⟩ := putL_cons xs off v vs m hp
      refine ⟨by simp; omega, ?_⟩
      cases vs with
      | nil => simp [putL] at h2 ⊢; exact h2
      | cons u us => simp [List.set, putL, h2]

theorem run_storeCells_cel {P : Program} {b T : Nat} : ∀ (vs : List Value) (w : World) (cs : List Value) (off i : Nat) (l : List Value), w.heap[b]? = some (.cells cs.toArray T (0, 0)) → putL cs (off + i) vs = some l → (∀ v ∈ vs, v.oneCell' = true) →
    ∃ w', (storeCells ⟨b, off, none⟩ vs i).run P w = .ok () w' ∧ w'.heap[b]? = some (.cells l.toArray T (0, 0)) ∧ (∀ k, k ≠ b → w'.heap[k]? = w.heap[k]?) ∧ w'.heap.size = w.heap.size ∧ w'.os = w.os ∧ w'.tape = w.tape ∧ w'.output = w.output
  | [], w, cs, off, i, l, hb, hp, _ => by
    simp [putL] at hp
    subst hp
    exact ⟨w, by simp [storeCells], hb, fun _ _ => rfl, rfl, rfl, rfl, rfl⟩
  | v :: vs, w, cs, off, i, l, hb, hp, h1 => by
    obtain ⟨hlt, hp'⟩ := putL_cons _ _ _ _ _ hp
    have hc : w.cell? ⟨b, off + i, none⟩ = some (cs[off + i]) := by simp [World.cell?, hb, hlt]
    have hf : w.frozen? ⟨b, off + i, none⟩ = false := by simp [World.frozen?, hb]
    have hs : (store (Addr.add ⟨b, off, none⟩ i) v).run P w = .ok () (w.setCell ⟨b, off + i, none⟩ v) := by
      rw [addr_add, run_store P w _ v .plain (h1 v (by simp))]
      simp [stored, hc, hf]
    have hb' : (w.setCell ⟨b, off + i, none⟩ v).heap[b]? = some (.cells (cs.set (off + i) v).toArray T (0, 0)) := by
      simp [World.setCell, Array.getElem?_modify, hb]
    obtain ⟨w', hr, h2, h3, h4, h5, h6, h7⟩ := run_storeCells_cel (P := P) vs (w.setCell ⟨b, off + i, none⟩ v) (cs.set (off + i) v) off (i + 1) l hb' (by rw [← Nat.add_assoc]; exact hp') (fun u hu => h1 u (by simp [hu]))
    refine ⟨w', ?_, h2, fun k hk => (h3 k hk).trans (Below.heap_setCell _ _ _ _ hk), h4.trans (by simp [World.setCell]), h5, h6, h7⟩
    simp only [storeCells, Sem.run_bind, hs, Result.andThen_ok, hr]

/-! ## values that only the slots decide -/
def cmpI (op : BinOp) (a b : Int) : Option Value := match op with
  | .eql => some (.bool (decide (a = b)))
  | .neq => some (.bool (!decide (a = b)))
  | .lss => some (.bool (decide (a < b)))
  | .leq => some (.bool (decide (a ≤ b)))
  | .gtr => some (.bool (decide (b < a)))
  | .geq => some (.bool (decide (b ≤ a)))
  | _ => none
def bAnd (k : IntKind) (a b : Int) : Int := k.wrap (BitVec.ofInt k.bits a &&& BitVec.ofInt k.bits b).toNat
def bOr (k : IntKind) (a b : Int) : Int := k.wrap (BitVec.ofInt k.bits a ||| BitVec.ofInt k.bits b).toNat
def bXor (k : IntKind) (a b : Int) : Int := k.wrap (BitVec.ofInt k.bits a ^^^ BitVec.ofInt k.bits b).toNat
def bAndNot (k : IntKind) (a b : Int) : Int := k.wrap (BitVec.ofInt k.bits a &&& ~~~(BitVec.ofInt k.bits b)).toNat
def bShl (k : IntKind) (a : Int) (n : Nat) : Int := k.wrap (a * 2 ^ (min n k.bits))
def bShr (k : IntKind) (a : Int) (n : Nat) : Int := a.fdiv (2 ^ (min n k.bits))
def bQuo (k : IntKind) (a b : Int) : Int := k.wrap (a.tdiv b)
def bRem (a b : Int) : Int := a.tmod b
def posB : Int → Bool
  | .ofNat (_ + 1) => true
  | _ => false
def arI (op : BinOp) (k : IntKind) (a b : Int) : Option Value := match op with
  | .add => some (.int k (k.wrap (a + b)))
  | .sub => some (.int k (k.wrap (a - b)))
  | .mul => some (.int k (k.wrap (a * b)))
  | .and => some (.int k (bAnd k a b))
  | .or => some (.int k (bOr k a b))
  | .xor => some (.int k (bXor k a b))
  | .andNot => some (.int k (bAndNot k a b))
  | .quo => match posB b with | true => some (.int k (bQuo k a b)) | false => none
  | .rem => match posB b with | true => some (.int k (bRem a b)) | false => none
  | .shl => none
  | .shr => none
  | _ => cmpI op a b
def natI : Int → Option Nat
  | .ofNat n => some n
  | _ => none
def shI (op : BinOp) (k : IntKind) (a b : Int) : Option Value := match natI b with
  | none => none
  | some n => match op with
    | .shl => some (.int k (bShl k a n))
    | .shr => some (.int k (bShr k a n))
    | _ => none
def isSh : BinOp → Bool
  | .shl => true
  | .shr => true
  | _ => false
def sameK : IntKind → IntKind → Bool
  | .i8, .i8 | .i16, .i16 | .i32, .i32 | .i64, .i64 | .u8, .u8 | .u16, .u16 | .u32, .u32 | .u64, .u64 => true
  | _, _ => false
theorem sameK_eq {a b : IntKind} (h : sameK a b = true) : a = b := by cases a <;> cases b <;> first | rfl | simp [sameK] at h

def binE (op : BinOp) (x y : Value) : Option Value := match x, y with
  | .int k a, .int k' b => match isSh op with
    | true => shI op k a b
    | false => match sameK k k' with
      | true => arI op k a b
      | false => none
  | .string a, .string b => match op with
    | .eql => some (.bool (a.toList == b.toList))
    | .neq => some (.bool (!(a.toList == b.toList)))
    | _ => none
  | _, _ => none
def evL (env : Env) : List Operand → Option (List Value)
  | [] => some []
  | x :: xs => match Env.ev env x with
    | some v => match evL env xs with
      | some l => some (v :: l)
      | none => none
    | none => none
def pev (env : Env) : Op → Option Value
  | .move x => Env.ev env x
  | .assign x => Env.ev env x
  | .pick c a b => match Env.ev env c with
    | some (.bool true) => Env.ev env a
    | some (.bool false) => Env.ev env b
    | _ => none
  | .binOp op _ x y _ => match Env.ev env x with
    | some vx => match Env.ev env y with
      | some vy => binE op vx vy
      | none => none
    | none => none
  | .unOp .not _ x => match Env.ev env x with
    | some (.bool b) => some (.bool (!b))
    | _ => none
  | .extract x i => match Env.ev env x with
    | some (.tuple vs) => vs.toList[i]?
    | _ => none
  | _ => none

theorem binE_run {P : Program} {op : BinOp} {t : TypeId} {x y : Operand} {vx vy v : Value} (h : binE op vx vy = some v) (w : World) :
    (do eqGuard op t x y vx vy; binOp op t vx vy : Sem Value).run P w = .ok v w := by
  cases vx <;> cases vy <;> (try (simp [binE] at h; done))
  · rename_i k a k' b
    simp only [binE] at h
    cases hsh : isSh op with
    | true =>
      simp only [hsh, shI] at h
      cases hb : natI b with
      | none => simp [hb] at h
      | some n =>
        cases b with
        | negSucc q => simp [natI] at hb
        | ofNat q =>
          simp [natI] at hb
          subst hb
          simp only [natI] at h
          have h0 : ¬ ((Int.ofNat q : Int) < 0) := by have := Int.natCast_nonneg q; simp only [Int.ofNat_eq_natCast]; omega
          cases op <;> simp [isSh] at hsh <;> simp at h <;> subst h <;> simp only [eqGuard, binOp, Op.shift, Sem.run_bind, if_neg h0] <;> simp [bShl, bShr, Sem.run_bind, if_neg h0]
    | false =>
    simp only [hsh] at h
    cases hk : sameK k k' with
    | false => simp [hk] at h
    | true =>
      simp only [hk] at h
      have := sameK_eq hk
      subst this
      cases hp : posB b with
      | false => cases op <;> simp [arI, cmpI, hp] at h <;> subst h <;> simp [eqGuard, binOp, Op.intCmp, Op.intArith, Op.intBits, bAnd, bOr, bXor, bAndNot, Sem.run_bind, bne, BEq.beq]
      | true =>
        have hne : b ≠ 0 := by intro e; subst e; cases hp
        cases op <;> simp [arI, cmpI, hp] at h <;> subst h <;> simp [eqGuard, binOp, Op.intCmp, Op.intArith, Op.intBits, Op.intDiv, bAnd, bOr, bXor, bAndNot, bQuo, bRem, hne, Sem.run_bind, bne, BEq.beq]
  · rename_i a b
    cases op <;> simp [binE] at h <;> subst h <;> simp [eqGuard, binOp, Op.stringOp, Sem.run_bind]

theorem pev_run {P : Program} {N : Nat} {env : Env} {a : Act} (ha : Agree N env a) {o : Oper} {v : Value} (h : pev env o.op = some v) (w : World) : (execOp a.eval o).run P w = .ok (.value v) w := by
  unfold execOp
  cases hop : o.op with
  | move x => rw [hop] at h; simp only [pev] at h; simp [ha.ev h]
  | assign x => rw [hop] at h; simp only [pev] at h; simp [ha.ev h]
  | pick c x y =>
    rw [hop] at h
    simp only [pev] at h
    cases hc : Env.ev env c with
    | none => simp [hc] at h
    | some u =>
      cases u <;> simp [hc] at h
      rename_i b
      cases b <;> simp at h <;> simp [ha.ev hc, asBool, Sem.run_bind, ha.ev h]
  | binOp op t x y t' =>
    rw [hop] at h
    simp only [pev] at h
    cases hx : Env.ev env x with
    | none => simp [hx] at h
    | some vx =>
      cases hy : Env.ev env y with
      | none => simp [hx, hy] at h
      | some vy =>
        simp only [hx, hy] at h
        simp only [ha.ev hx, ha.ev hy, Sem.run_bind]
        have := binE_run (P := P) (t := t) (x := x) (y := y) h w
        simp only [Sem.run_bind] at this
        rw [this]
        simp
  | unOp op t x =>
    rw [hop] at h
    cases op <;> simp only [pev] at h <;> try (cases h; done)
    cases hx : Env.ev env x with
    | none => simp [hx] at h
    | some vx =>
      cases vx <;> simp [hx] at h
      subst h
      simp [ha.ev hx, Op.unary, Sem.run_bind]
  | extract x i =>
    rw [hop] at h
    simp only [pev] at h
    cases hx : Env.ev env x with
    | none => simp [hx] at h
    | some vx =>
      cases vx <;> simp [hx] at h
      simp [ha.ev hx, Instr.extract, Sem.run_bind, h]
  | _ => rw [hop] at h; simp [pev] at h

section
variable {m : Md} {P : Program} {N : Nat} {w0 : World} {S0 : Foot} {ops : List Oper} {i : Nat} {lq : List Nat} {env : Env} {ro rw : List SL} {K : Act → World → Prop} {d : Nat} {op : Op} {ty : TypeId} {pos : String} {aft : Array Edge} {g : Option (Nat × Bool)}

theorem HO_pure {v : Value} (ho : ops[i]? = some ⟨some d, op, ty, pos, aft, g⟩) (hv : pev env op = some v) (hw : wantE ops env g = some true) (hN : Nat.blt d N = true) (hr : rdyB m ops i lq = true)
    (h : HO m P N w0 S0 ops lq ((d, v) :: env) ro rw K) : HO m P N w0 S0 ops (i :: lq) env ro rw K :=
  HO_val ho hw rfl hN hr (fun _ w ha _ => pev_run ha hv w) h

/-- the address of a field -/
theorem HO_faddr {x : Operand} {s f b off o : Nat} [hF : FOff P s f o] (ho : ops[i]? = some ⟨some d, .fieldAddr s x f, ty, pos, aft, g⟩) (hx : Env.ev env x = some (.pointer (some ⟨b, off, none⟩)))
    (hw : wantE ops env g = some true) (hN : Nat.blt d N = true) (hr : rdyB m ops i lq = true)
    (h : HO m P N w0 S0 ops lq ((d, .pointer (some ⟨b, off + o, none⟩)) :: env) ro rw K) : HO m P N w0 S0 ops (i :: lq) env ro rw K := by
  refine HO_val ho hw rfl hN hr (fun a w ha hf => ?_) h
  have hF := hF.h
  unfold fOffB at hF
  cases hu : P.underlying s with
  | none => simp [hu] at hF
  | some dd =>
    cases dd <;> simp [hu] at hF
    rename_i fs
    cases hfl : fs[f]? with
    | none => simp [hfl] at hF
    | some fl =>
      simp only [hfl, Bool.and_eq_true, beq_iff_eq] at hF
      cases hin : P.info? fl.type with
      | none => simp [hin] at hF
      | some inf =>
        simp [hin] at hF
        obtain ⟨h1, h2⟩ := hF
        simp [execOp, Instr.fieldAt, Sem.run_bind, run_underlying hu, hfl, Instr.sureAddr, ha.ev hx, fieldPlace, run_sizeOf w hin, Program.cellsOf, hin, h2, addr_add, h1]

end

section
variable {m : Md} {P : Program} {N : Nat} {w0 : World} {S0 : Foot} {ops : List Oper} {i : Nat} {lq : List Nat} {env : Env} {ro rw : List SL} {K : Act → World → Prop} {d : Nat} {op : Op} {ty : TypeId} {pos : String} {aft : Array Edge} {g : Option (Nat × Bool)}

theorem Fits.push {S : Foot} {w : World} (h : Fits w0 S0 ro rw S w) (T : TypeId) (cs : List Value) : ∃ T', Fits w0 S0 ro (cel w.heap.size T cs :: rw) T' (w.alloc (.cells cs.toArray T)) := by
  have := h.new (w' := w.alloc (.cells cs.toArray T)) ((Below.refl _ _).alloc (Nat.le_refl _) _) [cel w.heap.size T cs] (fun b => b = w.heap.size) (fun b hb => by subst hb; simp)
    ⟨fun b => b = w.heap.size, fun _ => False, fun _ h => h, fun _ h => h.elim, fun _ _ h => h, ⟨rfl, heap_alloc_new w _⟩, trivial⟩
  simpa using this

/-- a new variable that holds a value -/
theorem HO_box1 {x : Operand} {T : Nat} {v : Value} (ho : ops[i]? = some ⟨some d, .box T x, ty, pos, aft, g⟩) (hx : Env.ev env x = some v) (h1 : v.oneCell' = true) (hw : wantE ops env g = some true) (hN : Nat.blt d N = true) (hs : soleB m ops i lq = true)
    (h : ∀ b : Nat, HO (nmM m) P N w0 S0 ops lq ((d, .pointer (some ⟨b, 0, none⟩)) :: env) ro (cel b T [v] :: rw) K) : HO m P N w0 S0 ops (i :: lq) env ro rw K := by
  refine HO_act_ex (α := Nat) (φ := fun _ => True) (v := fun b => .pointer (some ⟨b, 0, none⟩)) (rw' := fun b => cel b T [v] :: rw) ho hw rfl hN hs (fun w1 S1 a S w ha hf => ?_) (fun b _ => h b)
  obtain ⟨T', hf'⟩ := hf.push T [v]
  have hc : v.cells = #[v] := by cases v <;> first | rfl | simp [Value.oneCell'] at h1
  exact ⟨w.heap.size, T', _, trivial, by simp [execOp, Instr.box, newVar, newRow, newObj, ha.ev hx, Sem.run_bind, Sem.run, hc], hf'⟩
theorem HO_boxn {x : Operand} {T : Nat} {l : List Value} (ho : ops[i]? = some ⟨some d, .box T x, ty, pos, aft, g⟩) (hx : Env.ev env x = some (.agg l.toArray)) (hw : wantE ops env g = some true) (hN : Nat.blt d N = true) (hs : soleB m ops i lq = true)
    (h : ∀ b : Nat, HO (nmM m) P N w0 S0 ops lq ((d, .pointer (some ⟨b, 0, none⟩)) :: env) ro (cel b T l :: rw) K) : HO m P N w0 S0 ops (i :: lq) env ro rw K := by
  refine HO_act_ex (α := Nat) (φ := fun _ => True) (v := fun b => .pointer (some ⟨b, 0, none⟩)) (rw' := fun b => cel b T l :: rw) ho hw rfl hN hs (fun w1 S1 a S w ha hf => ?_) (fun b _ => h b)
  obtain ⟨T', hf'⟩ := hf.push T l
  exact ⟨w.heap.size, T', _, trivial, by simp [execOp, Instr.box, newVar, newRow, newObj, ha.ev hx, Sem.run_bind, Sem.run, Value.cells], hf'⟩
theorem HO_alloc1 {T : Nat} {z : Value} [hz : TyZero P T z] (ho : ops[i]? = some ⟨some d, .alloc T, ty, pos, aft, g⟩) (h1 : z.oneCell' = true) (hw : wantE ops env g = some true) (hN : Nat.blt d N = true) (hs : soleB m ops i lq = true)
    (h : ∀ b : Nat, HO (nmM m) P N w0 S0 ops lq ((d, .pointer (some ⟨b, 0, none⟩)) :: env) ro (cel b T [z] :: rw) K) : HO m P N w0 S0 ops (i :: lq) env ro rw K := by
  refine HO_act_ex (α := Nat) (φ := fun _ => True) (v := fun b => .pointer (some ⟨b, 0, none⟩)) (rw' := fun b => cel b T [z] :: rw) ho hw rfl hN hs (fun w1 S1 a S w ha hf => ?_) (fun b _ => h b)
  obtain ⟨T', hf'⟩ := hf.push T [z]
  have hc : z.cells = #[z] := by cases z <;> first | rfl | simp [Value.oneCell'] at h1
  exact ⟨w.heap.size, T', _, trivial, by simp [execOp, Instr.alloc, zero_run w hz.h, newVar, newRow, newObj, Sem.run_bind, Sem.run, hc], hf'⟩
theorem HO_allocn {T : Nat} {l : List Value} [hz : TyZero P T (.agg l.toArray)] (ho : ops[i]? = some ⟨some d, .alloc T, ty, pos, aft, g⟩) (hw : wantE ops env g = some true) (hN : Nat.blt d N = true) (hs : soleB m ops i lq = true)
    (h : ∀ b : Nat, HO (nmM m) P N w0 S0 ops lq ((d, .pointer (some ⟨b, 0, none⟩)) :: env) ro (cel b T l :: rw) K) : HO m P N w0 S0 ops (i :: lq) env ro rw K := by
  refine HO_act_ex (α := Nat) (φ := fun _ => True) (v := fun b => .pointer (some ⟨b, 0, none⟩)) (rw' := fun b => cel b T l :: rw) ho hw rfl hN hs (fun w1 S1 a S w ha hf => ?_) (fun b _ => h b)
  obtain ⟨T', hf'⟩ := hf.push T l
  exact ⟨w.heap.size, T', _, trivial, by simp [execOp, Instr.alloc, zero_run w hz.h, newVar, newRow, newObj, Sem.run_bind, Sem.run, Value.cells], hf'⟩

theorem set_get {rw : List SL} {k : Nat} {e : SL} (hk : rw[k]? = some e) (e' : SL) {S : Foot} {w : World} (h : Star rw S w) :
    ∃ A : Foot, (∀ b, A b → S b) ∧ e.p A w ∧ ∀ w', (∀ b, S b → ¬ A b → w'.heap[b]? = w.heap[b]?) → e'.p A w' → Star (rw.set k e') S w' := by
  induction rw generalizing k S with
  | nil => simp at hk
  | cons f es ih =>
    obtain ⟨A1, B1, h1, h2, h12, he, hs⟩ := h
    cases k with
    | zero =>
      simp at hk; subst hk
      exact ⟨A1, h1, he, fun w' hw he' => ⟨A1, B1, h1, h2, h12, he', hs.st fun b hb => hw b (h2 b hb) (fun ha => h12 b ha hb)⟩⟩
    | succ k =>
      obtain ⟨A, hA, ha, hk'⟩ := ih (by simpa using hk) hs
      exact ⟨A, fun b hb => h2 b (hA b hb), ha, fun w' hw he' => ⟨A1, B1, h1, h2, h12, f.st _ _ _ (fun b hb => hw b (h1 b hb) (fun hab => h12 b hb (hA b hab))) he,
        hk' w' (fun b hb hn => hw b (h2 b hb) hn) he'⟩⟩

/-- a store into a piece that is known whole -/
theorem HO_store {x y : Operand} {T b off U n : Nat} {v : Value} {vs cs l : List Value} (k : Nat) (ho : ops[i]? = some ⟨none, .store T x y, ty, pos, aft, g⟩) (hx : Env.ev env x = some (.pointer (some ⟨b, off, none⟩)))
    (hy : Env.ev env y = some v) (hk : rw[k]? = some (cel b U cs)) (hvs : v.cells = vs.toArray) (hn : vs.length = n) (hT : (tyOneB P T && n == 1 || tyAggB P T n) = true) (h1 : vs.all Value.oneCell' = true) (hl : putL cs off vs = some l)
    (hw : wantE ops env g = some true) (hs : soleB m ops i lq = true)
    (h : HO (nmM m) P N w0 S0 ops lq env ro (rw.set k (cel b U l)) K) : HO m P N w0 S0 ops (i :: lq) env ro rw K := by
  refine HO_unit ho hw rfl hs (fun w1 S1 a S w ha hf => ?_) h
  obtain ⟨A, hA, hp, hss⟩ := set_get hk (cel b U l) hf.star
  have hsz : (sizeOf T).run P w = .ok n w := by
    rcases Bool.or_eq_true _ _ |>.mp hT with h2 | h2
    · simp only [Bool.and_eq_true, beq_iff_eq] at h2
      rw [size_one w h2.1, h2.2]
    · exact size_agg w h2
  obtain ⟨w', hr, h2, h3, h4, h5, h6, h7⟩ := run_storeCells_cel (P := P) (b := b) (T := U) vs w cs off 0 l hp.2 hl (fun u hu => List.all_eq_true.1 h1 u hu)
  refine ⟨S, w', ?_, ⟨⟨h5.trans hf.fr.os, h6.trans hf.fr.tape, h7.trans hf.fr.output, by have := hf.fr.size; omega, fun c hc hn' => ?_⟩, fun c hc => by have := hf.lt c hc; omega, hf.sub, ?_, fun e he => ?_⟩⟩
  · simp only [execOp, Instr.storeAt, Instr.sureAddr, ha.ev hx, ha.ev hy, Sem.run_bind, Sem.run_pure, Result.andThen_ok, storeVar, hsz, hvs]
    simp [hn, hr, Sem.run_bind]
  · by_cases hcb : c = b
    · subst hcb
      exact absurd ((hf.sub c (hA c hp.1)).resolve_left hn') (by omega)
    · exact (h3 c hcb).trans (hf.fr.block c hc hn')
  · exact hss w' (fun c hc hn' => by
      by_cases hcb : c = b
      · subst hcb; exact absurd hp.1 hn'
      · exact h3 c hcb) ⟨hp.1, h2⟩
  · obtain ⟨F, hF, hpe⟩ := hf.ros e he
    refine ⟨F, fun c hc => ⟨by have := (hF c hc).1; omega, (hF c hc).2⟩, e.st F w w' (fun c hc => ?_) hpe⟩
    by_cases hcb : c = b
    · subst hcb; exact absurd (hA c hp.1) (hF c hc).2
    · exact h3 c hcb
end
end Go.Proofs.YtdeeokkkcfkbjaaDoor
