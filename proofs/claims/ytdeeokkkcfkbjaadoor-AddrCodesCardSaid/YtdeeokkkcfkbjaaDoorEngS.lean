/- The symbolic walk: strings; contracts that the kit's shelf gives. -/
import Derived.Test.YtdeeokkkcfkbjaaDoorEng14
namespace Go.Proofs.YtdeeokkkcfkbjaaDoor
set_option linter.unusedVariables false
set_option linter.unusedSimpArgs false
open Go.RowKit

@[reducible] def sv (l : List UInt8) : Value := .string ⟨l.toArray⟩
def strE (l : List UInt8) : List Value := [.string ⟨l.toArray⟩]
instance : EncOk strE 1 := ⟨fun _ => ⟨rfl, rfl⟩⟩
theorem sba_loop (l : List UInt8) : ∀ (n i : Nat) (r : List UInt8), l.length - i = n → i ≤ l.length → ByteArray.toList.loop ⟨l.toArray⟩ i r = r.reverse ++ l.drop i := by
  intro n
  induction n with
  | zero =>
    intro i r h hi
    rw [ByteArray.toList.loop, if_neg (by show ¬ i < l.toArray.size; rw [List.size_toArray]; omega), List.drop_of_length_le (by omega), List.append_nil]
  | succ n ih =>
    intro i r h hi
    have hil : i < l.length := by omega
    have hg : ByteArray.get! ⟨l.toArray⟩ i = l[i] := by
      show l.toArray[i]! = l[i]
      rw [getElem!_pos l.toArray i (by rw [List.size_toArray]; exact hil), List.getElem_toArray]
    rw [ByteArray.toList.loop, if_pos (by show i < l.toArray.size; rw [List.size_toArray]; omega), ih _ _ (by omega) (by omega), hg, List.drop_eq_getElem_cons hil, List.reverse_cons, List.append_assoc]
    rfl
theorem sba_list (l : List UInt8) : ByteArray.toList ⟨l.toArray⟩ = l := by
  unfold ByteArray.toList
  rw [sba_loop l l.length 0 [] (by omega) (by omega)]
  rfl
theorem sba_eq (l l' : List UInt8) : (ByteArray.toList ⟨l.toArray⟩ == ByteArray.toList ⟨l'.toArray⟩) = decide (l = l') := by
  rw [sba_list, sba_list, Bool.eq_iff_iff, beq_iff_eq, decide_eq_true_eq]
section
variable {m : Md} {P : Program} {N : Nat} {w0 : World} {S0 : Foot} {ops : List Oper} {i : Nat} {lq : List Nat} {env : Env} {ro rw : List SL} {K : Act → World → Prop} {d : Nat} {ty : TypeId} {pos : String} {aft : Array Edge} {g : Option (Nat × Bool)}
/-- a text's length -/
theorem HO_slen {T : Nat} {x : Operand} {l : List UInt8} [hT : TyStr P T] (ho : ops[i]? = some ⟨some d, .call { callee := .builtin .len, args := #[x], argTypes := #[T] }, ty, pos, aft, g⟩)
    (hx : Env.ev env x = some (.string ⟨l.toArray⟩)) (hw : wantE ops env g = some true) (hN : Nat.blt d N = true) (hr : rdyB m ops i lq = true)
    (h : HO m P N w0 S0 ops lq ((d, .int .i64 (l.length : Int)) :: env) ro rw K) : HO m P N w0 S0 ops (i :: lq) env ro rw K :=
  HO_lens ho hx hw hN hr (by rw [show (ByteArray.mk l.toArray).size = l.length from List.size_toArray ..]; exact h)
/-- a byte of a text -/
theorem HO_sidx {T : Nat} {x y : Operand} {l : List UInt8} {k : IntKind} {j : Int} {b : UInt8} [hT : TyStr P T] (ho : ops[i]? = some ⟨some d, .index T x y, ty, pos, aft, g⟩) (hx : Env.ev env x = some (.string ⟨l.toArray⟩)) (hy : Env.ev env y = some (.int k j))
    (h0 : 0 ≤ j) (hb : l[j.toNat]? = some b) (hw : wantE ops env g = some true) (hN : Nat.blt d N = true) (hr : rdyB m ops i lq = true)
    (h : HO m P N w0 S0 ops lq ((d, .int .u8 (b.toNat : Int)) :: env) ro rw K) : HO m P N w0 S0 ops (i :: lq) env ro rw K := by
  refine HO_val ho hw rfl hN hr (fun a w ha hf => ?_) h
  have hlt : j.toNat < l.length := by
    rcases Nat.lt_or_ge j.toNat l.length with h | h
    · exact h
    · rw [List.getElem?_eq_none h] at hb
      cases hb
  have hsz : (ByteArray.mk l.toArray).size = l.length := by show l.toArray.size = _; simp
  have hc : 0 ≤ j ∧ j < ((ByteArray.mk l.toArray).size : Int) := by rw [hsz]; omega
  have hget : (ByteArray.mk l.toArray)[j.toNat]'(by rw [hsz]; exact hlt) = b := by
    show l.toArray[j.toNat]'_ = b
    rw [List.getElem_toArray]
    rw [List.getElem?_eq_getElem hlt] at hb
    injection hb
  simp only [execOp, Sem.run_bind, ha.ev hx, ha.ev hy]
  rw [run_index_string w T ⟨l.toArray⟩ k j hT.h, dif_pos hc, hget]
  rfl
theorem ex_mk (l : List UInt8) (a b : Nat) : (ByteArray.mk l.toArray).extract a b = ByteArray.mk ((l.drop a).take (b - a)).toArray := Go.ByteArray.extract_mk l a b
/-- a piece of a text -/
theorem HO_sslb {T : Nat} {x y z : Operand} {l : List UInt8} {k k' : IntKind} {j q : Int} [hT : TyStr P T] (ho : ops[i]? = some ⟨some d, .slice T x (some y) (some z) none, ty, pos, aft, g⟩) (hx : Env.ev env x = some (.string ⟨l.toArray⟩)) (hy : Env.ev env y = some (.int k j)) (hz : Env.ev env z = some (.int k' q))
    (hb : 0 ≤ j ∧ j ≤ q ∧ q ≤ l.length) (hw : wantE ops env g = some true) (hN : Nat.blt d N = true) (hr : rdyB m ops i lq = true)
    (h : HO m P N w0 S0 ops lq ((d, .string ⟨((l.drop j.toNat).take (q.toNat - j.toNat)).toArray⟩) :: env) ro rw K) : HO m P N w0 S0 ops (i :: lq) env ro rw K := by
  refine HO_val ho hw rfl hN hr (fun a w ha hf => ?_) h
  have hsz : (ByteArray.mk l.toArray).size = l.length := by show l.toArray.size = _; simp
  have hsl : (Instr.sliceAt T (.string ⟨l.toArray⟩) (some (.int k j)) (some (.int k' q)) none).run P w = .ok (.string ⟨((l.drop j.toNat).take (q.toNat - j.toNat)).toArray⟩) w := by
    rw [← ex_mk, ← run_slice_string w T ⟨l.toArray⟩ k k' j q hT.h hb.1 hb.2.1 (by rw [hsz]; exact hb.2.2)]
    simp [Instr.sliceAt, run_underlying hT.h]
  simp only [execOp, Sem.run_bind, ha.ev hx, Option.map_some, Option.map_none, ha.ev hy, ha.ev hz, hsl]
  rfl
theorem HO_sslh {T : Nat} {x z : Operand} {l : List UInt8} {k' : IntKind} {q : Int} [hT : TyStr P T] (ho : ops[i]? = some ⟨some d, .slice T x none (some z) none, ty, pos, aft, g⟩) (hx : Env.ev env x = some (.string ⟨l.toArray⟩)) (hz : Env.ev env z = some (.int k' q))
    (hb : 0 ≤ q ∧ q ≤ l.length) (hw : wantE ops env g = some true) (hN : Nat.blt d N = true) (hr : rdyB m ops i lq = true)
    (h : HO m P N w0 S0 ops lq ((d, .string ⟨(l.take q.toNat).toArray⟩) :: env) ro rw K) : HO m P N w0 S0 ops (i :: lq) env ro rw K := by
  refine HO_val ho hw rfl hN hr (fun a w ha hf => ?_) h
  have hsz : (ByteArray.mk l.toArray).size = l.length := by show l.toArray.size = _; simp
  have hsl : (Instr.sliceAt T (.string ⟨l.toArray⟩) none (some (.int k' q)) none).run P w = .ok (.string ⟨(l.take q.toNat).toArray⟩) w := by
    have e : ByteArray.mk (l.take q.toNat).toArray = (ByteArray.mk l.toArray).extract 0 q.toNat := by rw [ex_mk]; simp
    rw [e, ← run_slice_string_h w T ⟨l.toArray⟩ hT.h k' q hb.1 (by rw [hsz]; exact hb.2)]
    simp [Instr.sliceAt, run_underlying hT.h]
  simp only [execOp, Sem.run_bind, ha.ev hx, Option.map_some, Option.map_none, ha.ev hz, hsl]
  rfl
theorem HO_ssll {T : Nat} {x y : Operand} {l : List UInt8} {k : IntKind} {j : Int} [hT : TyStr P T] (ho : ops[i]? = some ⟨some d, .slice T x (some y) none none, ty, pos, aft, g⟩) (hx : Env.ev env x = some (.string ⟨l.toArray⟩)) (hy : Env.ev env y = some (.int k j))
    (hb : 0 ≤ j ∧ j ≤ l.length) (hw : wantE ops env g = some true) (hN : Nat.blt d N = true) (hr : rdyB m ops i lq = true)
    (h : HO m P N w0 S0 ops lq ((d, .string ⟨(l.drop j.toNat).toArray⟩) :: env) ro rw K) : HO m P N w0 S0 ops (i :: lq) env ro rw K := by
  refine HO_val ho hw rfl hN hr (fun a w ha hf => ?_) h
  have hsz : (ByteArray.mk l.toArray).size = l.length := by show l.toArray.size = _; simp
  have hsl : (Instr.sliceAt T (.string ⟨l.toArray⟩) (some (.int k j)) none none).run P w = .ok (.string ⟨(l.drop j.toNat).toArray⟩) w := by
    have e : ByteArray.mk (l.drop j.toNat).toArray = (ByteArray.mk l.toArray).extract j.toNat (ByteArray.mk l.toArray).size := by
      rw [ex_mk, hsz, List.take_of_length_le (by rw [List.length_drop]; exact Nat.le_refl _)]
    rw [e, ← run_slice_string_l w T ⟨l.toArray⟩ hT.h k j hb.1 (by rw [hsz]; exact hb.2)]
    simp [Instr.sliceAt, run_underlying hT.h]
  simp only [execOp, Sem.run_bind, ha.ev hx, Option.map_some, Option.map_none, ha.ev hy, hsl]
  rfl
/-- two texts, one behind the other -/
theorem HO_cat {T U : Nat} {x y : Operand} {l l' : List UInt8} [hT : TyStr P T] (ho : ops[i]? = some ⟨some d, .binOp .add T x y U, ty, pos, aft, g⟩) (hx : Env.ev env x = some (.string ⟨l.toArray⟩)) (hy : Env.ev env y = some (.string ⟨l'.toArray⟩))
    (hb : l.length + l'.length ≤ 9223372036854775807) (hw : wantE ops env g = some true) (hN : Nat.blt d N = true) (hr : rdyB m ops i lq = true)
    (h : HO m P N w0 S0 ops lq ((d, .string ⟨(l ++ l').toArray⟩) :: env) ro rw K) : HO m P N w0 S0 ops (i :: lq) env ro rw K := by
  refine HO_val ho hw rfl hN hr (fun a w ha hf => ?_) h
  have e : (ByteArray.mk l.toArray) ++ (ByteArray.mk l'.toArray) = ByteArray.mk (l ++ l').toArray := by
    apply ByteArray.ext
    simp
  have hs : ¬ (((ByteArray.mk l.toArray).size + (ByteArray.mk l'.toArray).size : Nat) : Int) > IntKind.i64.max := by
    have h1 : (ByteArray.mk l.toArray).size = l.length := by show l.toArray.size = _; simp
    have h2 : (ByteArray.mk l'.toArray).size = l'.length := by show l'.toArray.size = _; simp
    rw [h1, h2, show IntKind.i64.max = 9223372036854775807 from rfl]
    omega
  simp only [execOp, Sem.run_bind, ha.ev hx, ha.ev hy, eqGuard, binOp_string_add, Op.stringOp, if_neg hs, e]
  simp [Sem.run_bind]
end
/-- a contract of the shelf's whose world is as it was below -/
theorem Tri_below {P : Program} {f : Nat} {args : List Value} {ro : List SL} {v : Value} (h : ∀ w, RoOk ro w → Calls P f args.toArray w fun e w' => e = .returned v ∧ Below w.heap.size w w') : Tri P f args ro [] (fun _ : Unit => True) (fun _ => v) (fun _ => []) := by
  unfold Tri
  intro w S hf
  have hro : RoOk ro w := fun e he => by
    obtain ⟨F, hF, hp⟩ := hf.ros e he
    exact ⟨F, fun b hb => (hF b hb).1, hp⟩
  refine (h w hro).mono fun e w' ⟨he, hb⟩ => ⟨(), S, trivial, he, ⟨Fr.below hb, fun b hS => Nat.lt_of_lt_of_le (hf.lt b hS) hb.size, hf.sub, trivial, fun e' he' => ?_⟩⟩
  obtain ⟨F, hF, hp⟩ := hf.ros e' he'
  exact ⟨F, fun b hb' => ⟨Nat.lt_of_lt_of_le (hF b hb').1 hb.size, (hF b hb').2⟩, e'.st F w w' (fun b hb' => hb.block b (hF b hb').1) hp⟩
/-- what a variable holds -/
def glbs (g : Nat) (cs : Array Value) : SL where
  p S w := S g ∧ ∃ T fz, w.heap[g]? = some (.cells cs T fz)
  st S w w' h hp := ⟨hp.1, by rw [h g hp.1]; exact hp.2⟩
theorem glbs_cell {g : Nat} {v : Value} {ro : List SL} {w : World} (h : RoOk ro w) (hm : glbs g #[v] ∈ ro) : w.cell? ⟨g, 0, none⟩ = some v := by
  obtain ⟨F, _, _, T, fz, hp⟩ := h _ hm
  simp [World.cell?, hp]
theorem glbs_var {P : Program} {g : Nat} {cs : Array Value} {name : String} (hG : P.globalNamed name = some g) {ro : List SL} {w : World} (h : RoOk ro w) (hm : glbs g cs ∈ ro) : w.var? P name = some cs := by
  obtain ⟨F, _, _, T, fz, hp⟩ := h _ hm
  simp [World.var?, hG, hp]
theorem below_drew (w : World) (n : Nat) : Below w.heap.size w (w.drewN n) := ⟨rfl, rfl, rfl, Nat.le_refl _, fun _ _ => rfl⟩
/-- a contract of the shelf that lays one new row of texts -/
theorem Tri_texts {P : Program} {f : Nat} {args : List Value} {ro : List SL} {T : Nat} {l : List (List UInt8)}
    (h : ∀ w, RoOk ro w → Calls P f args.toArray w fun e w' => e = .returned (.slice (some ⟨w.heap.size, 0, none⟩) l.length l.length) ∧ w' = w.alloc (.cells (l.map fun x => Value.string ⟨x.toArray⟩).toArray T)) :
    Tri P f args ro [] (fun _ : Nat => True) (fun b => .slice (some ⟨b, 0, none⟩) l.length l.length) (fun b => [arr strE 1 (some ⟨b, 0, none⟩) l]) := by
  unfold Tri
  intro w S hf
  have hro : RoOk ro w := fun e he => by
    obtain ⟨F, hF, hp⟩ := hf.ros e he
    exact ⟨F, fun b hb => (hF b hb).1, hp⟩
  refine (h w hro).mono fun e w' ⟨he, hw⟩ => ⟨w.heap.size, fun b => b = w.heap.size, trivial, he, ?_⟩
  subst hw
  have hsz : (w.alloc (.cells (l.map fun x => Value.string ⟨x.toArray⟩).toArray T)).heap.size = w.heap.size + 1 := Array.size_push ..
  have hold : ∀ b, b < w.heap.size → (w.alloc (.cells (l.map fun x => Value.string ⟨x.toArray⟩).toArray T)).heap[b]? = w.heap[b]? := fun b hb => by
    show (w.heap.push _)[b]? = _
    rw [Array.getElem?_push, if_neg (by omega)]
  have hnew : (w.alloc (.cells (l.map fun x => Value.string ⟨x.toArray⟩).toArray T)).heap[w.heap.size]? = some (.cells (l.map fun x => Value.string ⟨x.toArray⟩).toArray T (0, 0)) := by
    show (w.heap.push _)[w.heap.size]? = _
    rw [Array.getElem?_push, if_pos rfl]
  refine ⟨⟨rfl, rfl, rfl, by rw [hsz]; omega, fun b hb _ => hold b hb⟩, fun b hb => by rw [hb, hsz]; omega, fun b hb => .inr (by rw [hb]; exact Nat.le_refl _), ?_, fun e he => ?_⟩
  · refine ⟨fun b => b = w.heap.size, fun _ => False, fun _ h => h, fun _ h => h.elim, fun _ _ h => h, ?_, trivial⟩
    intro _
    refine ⟨⟨w.heap.size, 0, none⟩, rfl, rfl, fun q x hq k u hk => ?_⟩
    have hk0 : k = 0 := by
      cases k with
      | zero => rfl
      | succ k => simp [strE] at hk
    subst hk0
    have hu : u = .string ⟨x.toArray⟩ := by simpa [strE] using hk.symm
    subst hu
    have e1 : ((⟨w.heap.size, 0, none⟩ : Addr).add (q * 1 + 0)) = ⟨w.heap.size, q, none⟩ := by simp [Addr.add]; omega
    rw [e1]
    unfold World.cell?
    simp only [hnew]
    show (l.map fun x => Value.string ⟨x.toArray⟩).toArray[q]? = _
    rw [List.getElem?_toArray, List.getElem?_map, hq]
    rfl
  · obtain ⟨F, hF, hp⟩ := hf.ros e he
    exact ⟨F, fun b hb => ⟨by have := (hF b hb).1; rw [hsz]; omega, fun h => by have h1 := (hF b hb).1; have h2 : b = w.heap.size := h; omega⟩, e.st F w _ (fun b hb => hold b (hF b hb).1) hp⟩
end Go.Proofs.YtdeeokkkcfkbjaaDoor
