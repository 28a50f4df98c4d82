/- The symbolic walk: nil, shifts by a number that is not written out. -/
import Derived.Test.YtdeeokkkcfkbjaaDoorEng10
import Derived.Lib.AppendZeros
namespace Go.Proofs.YtdeeokkkcfkbjaaDoor
set_option linter.unusedVariables false
set_option linter.unusedSimpArgs false
open Go.RowKit

class TyPtr (P : Program) (T : Nat) (e : outParam Nat) : Prop where h : P.underlying T = some (.pointer e)
section
variable {m : Md} {P : Program} {N : Nat} {w0 : World} {S0 : Foot} {ops : List Oper} {i : Nat} {lq : List Nat} {env : Env} {ro rw : List SL} {K : Act → World → Prop} {d : Nat} {op : Op} {ty : TypeId} {pos : String} {aft : Array Edge} {g : Option (Nat × Bool)}

theorem eqs_run {T e n c D : Nat} {A : Option Addr} (w : World) (hT : P.underlying T = some (.slice e)) : (Op.equalIn (D + 1) T (.slice A n c) (.slice none 0 0)).run P w = .ok A.isNone w := by
  cases A <;> simp [Op.equalIn, Sem.run_bind, run_underlying hT]
theorem eqp_run {T e D : Nat} {A : Option Addr} (w : World) (hT : P.underlying T = some (.pointer e)) : (Op.equalIn (D + 1) T (.pointer A) (.pointer none)).run P w = .ok A.isNone w := by
  cases A <;> simp [Op.equalIn, Sem.run_bind, run_underlying hT]
/-- a slice held against nil -/
theorem HO_eqs {bop : BinOp} {T U e n c : Nat} {A : Option Addr} {x y : Operand} {r : Bool} [hT : TySlice P T e] (ho : ops[i]? = some ⟨some d, .binOp bop T x y U, ty, pos, aft, g⟩) (hx : Env.ev env x = some (.slice A n c)) (hy : Env.ev env y = some (.slice none 0 0)) (he : eqN bop A.isNone = some r)
    (hw : wantE ops env g = some true) (hN : Nat.blt d N = true) (hr : rdyB m ops i lq = true)
    (h : HO m P N w0 S0 ops lq ((d, .bool r) :: env) ro rw K) : HO m P N w0 S0 ops (i :: lq) env ro rw K := by
  refine HO_val ho hw rfl hN hr (fun a' w ha hf => ?_) h
  cases bop <;> (try (simp [eqN] at he; done)) <;> (injection he with he; subst he) <;>
    simp [execOp, eqGuard, binOp, Sem.run_bind, ha.ev hx, ha.ev hy, Op.equal, show Op.maxDepth = 9999 + 1 from rfl, eqs_run w hT.h]
/-- a pointer held against nil -/
theorem HO_eqp {bop : BinOp} {T U e : Nat} {A : Option Addr} {x y : Operand} {r : Bool} [hT : TyPtr P T e] (ho : ops[i]? = some ⟨some d, .binOp bop T x y U, ty, pos, aft, g⟩) (hx : Env.ev env x = some (.pointer A)) (hy : Env.ev env y = some (.pointer none)) (he : eqN bop A.isNone = some r)
    (hw : wantE ops env g = some true) (hN : Nat.blt d N = true) (hr : rdyB m ops i lq = true)
    (h : HO m P N w0 S0 ops lq ((d, .bool r) :: env) ro rw K) : HO m P N w0 S0 ops (i :: lq) env ro rw K := by
  refine HO_val ho hw rfl hN hr (fun a' w ha hf => ?_) h
  cases bop <;> (try (simp [eqN] at he; done)) <;> (injection he with he; subst he) <;>
    simp [execOp, eqGuard, binOp, Sem.run_bind, ha.ev hx, ha.ev hy, Op.equal, show Op.maxDepth = 9999 + 1 from rfl, eqp_run w hT.h]
theorem HO_nilc {x : Operand} {a : Addr} (ho : ops[i]? = some ⟨some d, .nilCheck x, ty, pos, aft, g⟩) (hx : Env.ev env x = some (.pointer (some a)))
    (hw : wantE ops env g = some true) (hN : Nat.blt d N = true) (hr : rdyB m ops i lq = true)
    (h : HO m P N w0 S0 ops lq ((d, .pointer (some a)) :: env) ro rw K) : HO m P N w0 S0 ops (i :: lq) env ro rw K := by
  refine HO_val ho hw rfl hN hr (fun a' w ha hf => ?_) h
  simp [execOp, ha.ev hx]
def shS (op : BinOp) (k : IntKind) (a : Int) (n : Nat) : Option Value := match op with
  | .shl => some (.int k (bShl k a n))
  | .shr => some (.int k (bShr k a n))
  | _ => none
theorem HO_sh {bop : BinOp} {T U : Nat} {x y : Operand} {k k' : IntKind} {p q : Int} {v : Value} (ho : ops[i]? = some ⟨some d, .binOp bop T x y U, ty, pos, aft, g⟩) (hx : Env.ev env x = some (.int k p)) (hy : Env.ev env y = some (.int k' q)) (hs : shS bop k p q.toNat = some v) (h0 : 0 ≤ q)
    (hw : wantE ops env g = some true) (hN : Nat.blt d N = true) (hr : rdyB m ops i lq = true)
    (h : HO m P N w0 S0 ops lq ((d, v) :: env) ro rw K) : HO m P N w0 S0 ops (i :: lq) env ro rw K := by
  refine HO_val ho hw rfl hN hr (fun a' w ha hf => ?_) h
  have h0' : ¬ q < 0 := by omega
  cases bop <;> simp [shS] at hs <;> subst hs <;> simp [execOp, eqGuard, binOp, Op.shift, Sem.run_bind, ha.ev hx, ha.ev hy, h0', bShl, bShr]
/-- x[:hi:mx] -/
theorem HO_slc0 {T e sz by_ n c : Nat} {A : Option Addr} {x : Operand} {hi mx : Option Operand} {hi' mi : Int} [hT : TySlice P T e] [hI : TyInfo P e sz by_]
    (ho : ops[i]? = some ⟨some d, .slice T x none hi mx, ty, pos, aft, g⟩) (hx : Env.ev env x = some (.slice A n c)) (hok : okS hi mx = true) (hm : optI env mx c = some mi) (hh : optI env hi n = some hi')
    (hb : 0 ≤ hi' ∧ (hi = none ∨ hi' ≤ mi) ∧ (mx = none ∨ mi ≤ c)) (hw : wantE ops env g = some true) (hN : Nat.blt d N = true) (hr : rdyB m ops i lq = true)
    (h : HO m P N w0 S0 ops lq ((d, .slice A hi'.toNat mi.toNat) :: env) ro rw K) : HO m P N w0 S0 ops (i :: lq) env ro rw K := by
  refine HO_slc (li := 0) ho hx hok hm hh rfl ⟨Int.le_refl _, hb.1, hb.2.1, hb.2.2⟩ hw hN hr ?_
  rw [show (0 : Int).toNat = 0 from rfl, cutA_zero, Nat.sub_zero, Nat.sub_zero]
  exact h
/-- what the pieces tell -/
theorem HX_know {C : Prop} {x : Exit} {Q : Exit → Act → World → Prop} (hC : ∀ w, RoOk (ro ++ rw) w → C) (h : C → HX N w0 S0 x env ro rw Q) : HX N w0 S0 x env ro rw Q :=
  fun a S w ha hf => h (hC w hf.roOk) a S w ha hf
theorem Tri_know {C : Prop} {f : Nat} {args : List Value} {α : Type} {φ : α → Prop} {val : α → Value} {es : α → List SL} (hC : ∀ w, RoOk (ro ++ rw) w → C) (h : C → Tri P f args ro rw φ val es) : Tri P f args ro rw φ val es :=
  fun w S hf => h (hC w hf.roOk) w S hf
theorem arr_some {α : Type} {enc : α → List Value} {sz : Nat} {A : Option Addr} {l : List α} {es : List SL} {w : World} (k : Nat) (hk : es[k]? = some (arr enc sz A l)) (h : RoOk es w) : A = none → l = [] := fun hA => by
  obtain ⟨F, _, hp⟩ := h _ (List.mem_of_getElem? hk)
  cases l with
  | nil => rfl
  | cons x l =>
    obtain ⟨ad, h1, _⟩ := hp (by simp)
    rw [hA] at h1
    cases h1
theorem own_cap {α : Type} {enc : α → List Value} {T sz n c : Nat} {A : Option Addr} {l : List α} {es : List SL} {w : World} (k : Nat) (hk : es[k]? = some (own enc T sz A n c l)) (h : RoOk es w) : n ≤ c := by
  obtain ⟨F, _, hp⟩ := h _ (List.mem_of_getElem? hk)
  rcases hp.2.1.2 with ⟨hv, hn⟩ | ⟨g, cap, cur, hv, _, _, hnc, _⟩
  · omega
  · injection hv with _ _ hc
    omega
/-- one of many read pieces, by itself -/
theorem HC_see {α : Type} {enc : α → List Value} {sz : Nat} {A : Option Addr} {xs : List α} {L : List SL} {c : Code} {Q : Exit → Act → World → Prop} (hin : inn L ∈ ro) (hmem : arr enc sz A xs ∈ L)
    (h : HC P N w0 S0 c env (arr enc sz A xs :: ro) rw Q) : HC P N w0 S0 c env ro rw Q := fun a S w ha hf =>
  h a S w ha ⟨hf.fr, hf.lt, hf.sub, hf.star, fun e he => by
    cases he with
    | head =>
      obtain ⟨F, hF, hp⟩ := hf.ros _ hin
      exact ⟨F, hF, inn_arr hmem _ _ hp⟩
    | tail _ he => exact hf.ros e he⟩
theorem HX_unsee {e : SL} {x : Exit} {Q : Exit → Act → World → Prop} (h : HX N w0 S0 x env ro rw Q) : HX N w0 S0 x env (e :: ro) rw Q := fun a S w ha hf =>
  h a S w ha ⟨hf.fr, hf.lt, hf.sub, hf.star, fun f hm => hf.ros f (List.mem_cons_of_mem _ hm)⟩
theorem HC_unsee {e : SL} {c : Code} {Q : Exit → Act → World → Prop} (h : HC P N w0 S0 c env ro rw Q) : HC P N w0 S0 c env (e :: ro) rw Q := fun a S w ha hf =>
  h a S w ha ⟨hf.fr, hf.lt, hf.sub, hf.star, fun f hm => hf.ros f (List.mem_cons_of_mem _ hm)⟩
/-- a slice's address, if it has one -/
def adr (A : Option Addr) : Addr := A.getD ⟨0, 0, none⟩
theorem HO_ixA {sz sz' T e c n by_ : Nat} {A : Option Addr} {xs : List (List Value)} {x y : Operand} {k : IntKind} {q : Int} [hT : TySlice P T e] [hI : TyInfo P e sz by_]
    (ho : ops[i]? = some ⟨some d, .indexAddr T x y, ty, pos, aft, g⟩) (hx : Env.ev env x = some (.slice A n c)) (hy : Env.ev env y = some (.int k q)) [hk : SeeAt m ro rw A sz' xs] (hs : Nat.beq sz sz' = true) (hwf : WfL sz' xs)
    (h0 : 0 ≤ q) (h1 : q < (n : Int)) (hn : n = xs.length) (hw : wantE ops env g = some true) (hN : Nat.blt d N = true) (hr : rdyB m ops i lq = true)
    (h : HO m P N w0 S0 ops lq ((d, .pointer (some (eP (adr A) q.toNat sz 0))) :: env) ro rw K) : HO m P N w0 S0 ops (i :: lq) env ro rw K :=
  HO_ix ho hx hy hs hwf h0 h1 hn hw hN hr fun ad hA => by
    have : adr A = ad := by rw [hA]; rfl
    rw [← this]
    exact h
theorem HO_ldA {x : Operand} {T q sz sz' off n : Nat} {A : Option Addr} {ag : Bool} {v : Value} {row l : List Value} {xs : List (List Value)} [hT : TyKind P T ag n] (ho : ops[i]? = some ⟨some d, .load T x, ty, pos, aft, g⟩) (hx : Env.ev env x = some (.pointer (some (eP (adr A) q sz off))))
    [hk : SeeAt m ro rw A sz' xs] (hs : Nat.beq sz sz' = true) (hwf : WfL sz' xs) (hq : xs[q]? = some row) (hv : subL row off n = some l) (hl : valOf ag l = some v) (hw : wantE ops env g = some true) (hN : Nat.blt d N = true) (hr : rdyB m ops i lq = true)
    (h : HO m P N w0 S0 ops lq ((d, v) :: env) ro rw K) : HO m P N w0 S0 ops (i :: lq) env ro rw K := by
  obtain ⟨e0, hmem, hent⟩ := hk.h
  refine HO_val ho hw rfl hN hr (fun a w ha hf => ?_) h
  obtain ⟨F, _, hp⟩ := hf _ hmem
  have hs := Nat.eq_of_beq_eq_true hs
  subst hs
  obtain ⟨ad, he, _, hc⟩ := hent hwf _ _ hp (by intro e; subst e; simp at hq)
  subst he
  rw [show adr (some ad) = ad from rfl] at hx
  obtain ⟨hll, hcc⟩ := subL_spec _ _ _ _ hv
  have cell : ∀ k u, l[k]? = some u → w.cell? ((eP ad q sz off).add k) = some u := fun k u hku => by
    rw [eP_add, eP_eq]
    have hlt := (List.getElem?_eq_some_iff.1 hku).1
    exact hc q row hq (off + k) u ((hcc k (by omega)).trans hku)
  have hT := hT.h
  have hload : (loadVar T (eP ad q sz off)).run P w = .ok v w := by
    cases ag with
    | true =>
      simp [valOf] at hl
      subst hl hll
      exact run_loadVar_agg w hT cell
    | false =>
      simp only [Bool.and_eq_true, beq_iff_eq] at hT
      match l, hl with
      | [u], hl =>
        simp [valOf] at hl
        subst hl
        have h9 := cell 0 u rfl
        exact run_loadVar_one w hT.1 (by simpa [eP_add] using h9)
  simp [execOp, Instr.loadAt, Instr.sureAddr, ha.ev hx, Sem.run_bind, hload]
/-- a store into an element of a row of the call's own -/
theorem HO_stA {x y : Operand} {T q sz off k e n c sz' : Nat} {A0 : Option Addr} {v : Value} {row row' : List Value} {xs : List (List Value)} {rw' : List SL} [hT : TyOne P T]
    (ho : ops[i]? = some ⟨none, .store T x y, ty, pos, aft, g⟩) (hx : Env.ev env x = some (.pointer (some (eP (adr A0) q sz off)))) (hy : Env.ev env y = some v) (h1 : cellsL v = [v]) (h1' : v.oneCell' = true)
    [hk : OwnAt rw A0 k e sz' n c xs] (hs' : Nat.beq sz sz' = true) (hwf : WfL sz' xs) (hq : xs[q]? = some row) (hoff : Nat.blt off sz = true) (hrow : putL row off [v] = some row')
    (hrw : setO rw k (own idE e sz' A0 n c (xs.set q row')) = some rw') (hw : wantE ops env g = some true) (hs : soleB m ops i lq = true)
    (h : HO (nmM m) P N w0 S0 ops lq env ro rw' K) : HO m P N w0 S0 ops (i :: lq) env ro rw K := by
  have hs' := Nat.eq_of_beq_eq_true hs'
  subst hs'
  have hrw := setO_eq hrw
  subst hrw
  have hoff : off < sz := by simpa [Nat.blt_eq] using hoff
  obtain ⟨hlt, hput⟩ := putL_cons _ _ _ _ _ hrow
  have hput : row' = row.set off v := by simpa [putL] using hput.symm
  subst hput
  refine HO_unit ho hw rfl hs (fun w1 S1 a S w ha hf => ?_) h
  obtain ⟨A, hA, hp, hss⟩ := set_get hk.h (own idE e sz A0 n c (xs.set q (row.set off v))) hf.star
  obtain ⟨hn, how, hS⟩ := hp
  have hql0 : q < xs.length := (List.getElem?_eq_some_iff.1 hq).1
  obtain ⟨g', hA0⟩ : ∃ g', A0 = some ⟨g', 0, none⟩ := by
    rcases how.2 with ⟨_, hn0⟩ | ⟨g', cap, cur, hv, _⟩
    · omega
    · injection hv with hv; exact ⟨g', hv⟩
  subst hA0
  have hSb := hS _ rfl
  rw [show adr (some ⟨g', 0, none⟩) = ⟨g', 0, none⟩ from rfl] at hx
  have hlen : ∀ x ∈ xs, x.length = sz := fun x hx => (hwf x hx).1
  have hql : q < xs.length := (List.getElem?_eq_some_iff.1 hq).1
  have haddr : eP ⟨g', 0, none⟩ q sz off = ⟨g', q * sz + off, none⟩ := by rw [eP_eq, addr_add]; simp
  have hcell : w.cell? ⟨g', q * sz + off, none⟩ = (xs.flatMap idE)[q * sz + off]? := how.cellAt _ (by
    rw [hn]
    have := Nat.mul_le_mul_right sz (show q + 1 ≤ xs.length by omega)
    rw [Nat.add_mul] at this
    omega)
  have hsome : (xs.flatMap idE)[q * sz + off]? = some (row[off]'hlt) := flatMap_at xs hlen q row hq off _ (List.getElem?_eq_getElem hlt)
  have hfz := how.frozenAt (q * sz + off)
  obtain ⟨how', hg⟩ := how.stored (q * sz + off) v
  have hst : (store ⟨g', q * sz + off, none⟩ v).run P w = .ok () (w.setCell ⟨g', q * sz + off, none⟩ v) := by
    rw [run_store P w _ v .plain h1']
    simp [stored, hcell, hsome, hfz]
  have hblk : ∀ c, c ≠ g' → (w.setCell ⟨g', q * sz + off, none⟩ v).heap[c]? = w.heap[c]? := fun c hc => Below.heap_setCell _ _ _ _ hc
  have hzz : (w.setCell ⟨g', q * sz + off, none⟩ v).heap.size = w.heap.size := by simp [World.setCell]
  refine ⟨S, w.setCell ⟨g', q * sz + off, none⟩ v, ?_, ⟨⟨hf.fr.os, hf.fr.tape, hf.fr.output, by rw [hzz]; exact hf.fr.size, fun c hc hn' => ?_⟩, fun c hc => by rw [hzz]; exact hf.lt c hc, hf.sub, ?_, fun e he => ?_⟩⟩
  · simp only [execOp, Instr.storeAt, Instr.sureAddr, ha.ev hx, ha.ev hy, Sem.run_bind, Sem.run_pure, Result.andThen_ok, storeVar, size_one w hT.h, cellsL_eq, h1]
    simp [storeCells, haddr, addr_add, hst, Sem.run_bind]
  · by_cases hcb : c = g'
    · subst hcb
      exact absurd ((hf.sub c (hA c hSb)).resolve_left hn') (by omega)
    · exact (hblk c hcb).trans (hf.fr.block c hc hn')
  · exact hss _ (fun c hc hn' => by
      by_cases hcb : c = g'
      · subst hcb; exact absurd hSb hn'
      · exact hblk c hcb) ⟨by simpa using hn, by rw [← flatMap_set q off row v hlen hq hoff]; exact how', hS⟩
  · obtain ⟨F, hF, hpe⟩ := hf.ros e he
    refine ⟨F, fun c hc => ⟨by rw [hzz]; exact (hF c hc).1, (hF c hc).2⟩, e.st F w _ (fun c hc => ?_) hpe⟩
    by_cases hcb : c = g'
    · subst hcb; exact absurd (hA c hSb) (hF c hc).2
    · exact hblk c hcb

theorem HC_add {e : SL} {c : Code} {Q : Exit → Act → World → Prop} (he : ∀ w, e.p (fun _ => False) w) (h : HC P N w0 S0 c env ro (e :: rw) Q) : HC P N w0 S0 c env ro rw Q := HQ_add he h
theorem HX_add {e : SL} {x : Exit} {Q : Exit → Act → World → Prop} (he : ∀ w, e.p (fun _ => False) w) (h : HX N w0 S0 x env ro (e :: rw) Q) : HX N w0 S0 x env ro rw Q := HQ_add he h
theorem HC_keeps {rw' : List SL} {c : Code} {Q : Exit → Act → World → Prop} (hk : Keeps rw rw') (h : HC P N w0 S0 c env ro rw' Q) : HC P N w0 S0 c env ro rw Q := fun a S w ha hf => by
  obtain ⟨T, hT⟩ := hf.keeps hk
  exact h a T w ha hT
theorem HO_cap {T e n c : Nat} {A : Option Addr} {x : Operand} [hT : TySlice P T e] (ho : ops[i]? = some ⟨some d, .call { callee := .builtin .cap, args := #[x], argTypes := #[T] }, ty, pos, aft, g⟩)
    (hx : Env.ev env x = some (.slice A n c)) (hw : wantE ops env g = some true) (hN : Nat.blt d N = true) (hr : rdyB m ops i lq = true)
    (h : HO m P N w0 S0 ops lq ((d, .int .i64 (c : Int)) :: env) ro rw K) : HO m P N w0 S0 ops (i :: lq) env ro rw K := by
  refine HO_val ho hw rfl hN hr (fun a w ha hf => ?_) h
  simp [execOp, resolve, invoke, builtin, Builtin.cap_, Sem.run_bind, run_underlying hT.h, ha.ev hx, goInt]
theorem zeroCells_one (z : Value) (n : Nat) : (Builtin.zeroCells #[z] n).toList = List.replicate n z := by
  apply List.ext_getElem?
  intro j
  by_cases hj : j < n
  · simp [Builtin.zeroCells, hj, Nat.mod_one]
  · simp [Builtin.zeroCells, hj]
/-- append onto nil, so many zeros -/
theorem HO_appz {T U e by_ : Nat} {x y : Operand} {z : Value} {kn k : IntKind} {q : Int} [hT : TySlice P T e] [hU : TyInt P U kn] [hI : TyInfo P e 1 by_] [hZ : TyZero P e z]
    (ho : ops[i]? = some ⟨some d, .call { callee := .builtin .append, args := #[x, y], argTypes := #[T, U] }, ty, pos, aft, g⟩) (hx : Env.ev env x = some (.slice none 0 0)) (hy : Env.ev env y = some (.int k q)) (hz1 : cellsL z = [z]) (h0 : 0 < q) (hb : q * by_ ≤ 140737488355328) (hb2 : q ≤ 9223372036854775807)
    (hw : wantE ops env g = some true) (hN : Nat.blt d N = true) (hs : soleB m ops i lq = true)
    (h : ∀ (b c : Nat), q.toNat ≤ c → HO (nmM m) P N w0 S0 ops lq ((d, .slice (some ⟨b, 0, none⟩) q.toNat c) :: env) ro (own idE e 1 (some ⟨b, 0, none⟩) q.toNat c (List.replicate q.toNat [z]) :: rw) K) : HO m P N w0 S0 ops (i :: lq) env ro rw K := by
  refine HO_act_ex (α := Nat × Nat) (φ := fun p => q.toNat ≤ p.2) (v := fun p => .slice (some ⟨p.1, 0, none⟩) q.toNat p.2) (rw' := fun p => own idE e 1 (some ⟨p.1, 0, none⟩) q.toNat p.2 (List.replicate q.toNat [z]) :: rw) ho hw rfl hN hs (fun w1 S1 a S w ha hf => ?_) (fun p hp => h p.1 p.2 hp)
  obtain ⟨n, rfl⟩ : ∃ n : Nat, q = n := ⟨q.toNat, by omega⟩
  have hI := hI.h
  have hz := hZ.h
  cases hin : P.info? e with
  | none => simp [hin] at hI
  | some inf =>
    simp [hin] at hI hz
    have hzc : z.cells = #[z] := by rw [cellsL_eq, hz1]
    have hpos : 0 < n := by omega
    have hb' : n * inf.bytes ≤ 140737488355328 := by
      rw [hI.2]
      have : ((n * by_ : Nat) : Int) ≤ 140737488355328 := by rw [Int.natCast_mul]; exact hb
      omega
    have hrun := Go.Lib.run_append_nil_zeros (P := P) w T U ty e inf z k kn hT.h hU.h hin hz n hpos (by omega) hb2 (by omega)
    have hge := grownCap_ge w n 0 e
    have hcm : grownCap w n 0 e ≤ maxLen := grownCap_le_maxLen w n 0 e (by unfold maxLen; omega)
    rw [hzc] at hrun
    generalize grownCap w n 0 e = cap at hrun hge hcm
    have hl1 := zeroCells_one z n
    have hl2 := zeroCells_one z (cap - n)
    have hsz : (Builtin.zeroCells #[z] n ++ Builtin.zeroCells #[z] (cap - n)).size = cap * 1 := by
      rw [Array.size_append, ← Array.length_toList, ← Array.length_toList, hl1, hl2]
      simp; omega
    obtain ⟨T', hf'⟩ := hf.new (w' := w.drew.alloc (.cells (Builtin.zeroCells #[z] n ++ Builtin.zeroCells #[z] (cap - n)) e)) (((Below.refl _ w).drew).alloc (Nat.le_refl _) _) [own idE e 1 (some ⟨w.heap.size, 0, none⟩) n cap (List.replicate n [z])] (fun b => b = w.heap.size)
      (fun b hb => by subst hb; exact ⟨Nat.le_refl _, by simp⟩)
      ⟨fun b => b = w.heap.size, fun _ => False, fun _ h => h, fun _ h => h.elim, fun _ _ h => h, ⟨by simp, ⟨by rw [repl_flat]; simp, .inr ⟨w.heap.size, cap, _, rfl, Nat.zero_le _, heap_alloc_new w.drew _, hge, hcm, hsz, by
        rw [repl_flat, Array.toList_append, hl1, Nat.mul_one, List.take_append_of_le_length (by simp), List.take_of_length_le (by simp)]⟩⟩, fun ad hA => by injection hA with hA; rw [← hA]⟩, trivial⟩
    refine ⟨(w.heap.size, cap), T', _, hge, ?_, by simpa using hf'⟩
    simp [execOp, resolve, invoke, builtin, Sem.run_bind, ha.ev hx, ha.ev hy, hrun]
theorem flatMap_take {sz : Nat} : ∀ (l : List (List Value)) (k : Nat), (∀ x ∈ l, x.length = sz) → (l.take k).flatMap idE = (l.flatMap idE).take (k * sz)
  | [], k, _ => by simp
  | x :: l, 0, _ => by simp
  | x :: l, k + 1, hl => by
    have hx : (idE x).length = sz := hl x (by simp)
    rw [List.take_succ_cons, List.flatMap_cons, List.flatMap_cons, flatMap_take l k (fun y hy => hl y (by simp [hy])), List.take_append, hx, List.take_of_length_le (l := idE x) (by rw [hx, Nat.add_mul]; omega), show (k + 1) * sz - sz = k * sz by rw [Nat.add_mul]; omega]
/-- the first ones of a row of the call's own -/
theorem own_take {T sz n c : Nat} {A : Option Addr} {l : List (List Value)} (k : Nat) (hk : k ≤ n) (hl : ∀ x ∈ l, x.length = sz) : Ent (own idE T sz A n c l) (own idE T sz A k c (l.take k)) := fun S w ⟨h1, ⟨h2, h3⟩, h4⟩ => by
  have hf := flatMap_take (sz := sz) l k hl
  refine ⟨by simp; omega, ⟨?_, ?_⟩, h4⟩
  · rw [hf, List.length_take, h2]
    exact Nat.min_eq_left (Nat.mul_le_mul_right _ hk)
  · rcases h3 with ⟨hv, hn⟩ | ⟨g, cap, cur, hv, hg, hh, hnc, hcm, hcs, htk⟩
    · injection hv with hA hn' hc'
      subst hA hc'
      exact .inl ⟨by rw [show k = 0 by omega], by omega⟩
    · injection hv with hA hn' hc'
      subst hA hc'
      refine .inr ⟨g, c, cur, rfl, hg, hh, by omega, hcm, hcs, ?_⟩
      rw [hf, ← htk, List.take_take, Nat.min_eq_left (Nat.mul_le_mul_right _ hk)]
end
end Go.Proofs.YtdeeokkkcfkbjaaDoor
