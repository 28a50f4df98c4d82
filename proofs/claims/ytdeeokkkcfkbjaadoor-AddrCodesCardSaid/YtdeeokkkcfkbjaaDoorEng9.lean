/- The symbolic walk: elements of slices, found by the slice's address. -/
import Derived.Test.YtdeeokkkcfkbjaaDoorEng8
namespace Go.Proofs.YtdeeokkkcfkbjaaDoor
set_option linter.unusedVariables false
set_option linter.unusedSimpArgs false
open Go.RowKit

theorem Tri_weak {P : Program} {g : Nat} {args : List Value} {ro rw : List SL} {α β : Type} {φ : α → Prop} {val : α → Value} {es : α → List SL} {ψ : β → Prop} {val' : β → Value} {es' : β → List SL}
    (h : Tri P g args ro rw φ val es) (hk : ∀ x, φ x → ∃ y, ψ y ∧ val x = val' y ∧ Keeps (es x) (es' y)) : Tri P g args ro rw ψ val' es' := by
  unfold Tri at h ⊢
  exact fun w S hf => (h w S hf).mono fun e w' ⟨x, T, hx, he, hfx⟩ => by
    obtain ⟨y, hy, hv, hkp⟩ := hk x hx
    obtain ⟨T', h'⟩ := hfx.keeps hkp
    exact ⟨y, T', hy, by rw [he, hv], h'⟩

theorem Tri_free {P : Program} {g : Nat} {args : List Value} {e : SL} {ro rw : List SL} {α : Type} {φ : α → Prop} {val : α → Value} {es : α → List SL}
    (h : Tri P g args (e :: ro) rw φ val es) (he : ∀ w, e.p (fun _ => False) w) : Tri P g args ro rw φ val es := fun w S hf =>
  (h w S ⟨hf.fr, hf.lt, hf.sub, hf.star, fun f hm => by
    cases hm with
    | head => exact ⟨fun _ => False, fun _ h => h.elim, he w⟩
    | tail _ hm => exact hf.ros f hm⟩).mono fun _ _ ⟨x, T, hx, he', hfx⟩ => ⟨x, T, hx, he', hfx.fr, hfx.lt, hfx.sub, hfx.star, fun f hm => hfx.ros f (List.mem_cons_of_mem _ hm)⟩
theorem AllSrc.mem_ {src l : List SL} {e : SL} (hk : e ∈ src) (h : AllSrc src l) : AllSrc src (e :: l) := ⟨.inl ⟨e, hk, Ent.rfl_⟩, h⟩
theorem Tri_ro {P : Program} {g : Nat} {args : List Value} {ro ro' rw : List SL} {α : Type} {φ : α → Prop} {val : α → Value} {es : α → List SL}
    (h : Tri P g args ro rw φ val es) (hs : AllSrc ro' ro) : Tri P g args ro' rw φ val es := fun w S hf =>
  (h w S ⟨hf.fr, hf.lt, hf.sub, hf.star, fun f hm => by
    rcases hs.get f hm with ⟨e0, he0, hent⟩ | hfree
    · obtain ⟨F, hF, hp⟩ := hf.ros e0 he0
      exact ⟨F, hF, hent _ _ hp⟩
    · exact ⟨fun _ => False, fun _ h => h.elim, hfree w⟩⟩).mono fun _ w' ⟨x, T, hx, he', hfx⟩ => ⟨x, T, hx, he', hfx.fr, hfx.lt, hfx.sub, hfx.star, fun f hm => by
    obtain ⟨F, hF, hp⟩ := hf.ros f hm
    exact ⟨F, fun b hb => ⟨Nat.lt_of_lt_of_le (hF b hb).1 hfx.fr.size, fun hT => (hfx.sub b hT).elim (hF b hb).2 (fun hge => by have := (hF b hb).1; omega)⟩, f.st F w w' (fun b hb => hfx.fr.block b (hF b hb).1 (hF b hb).2) hp⟩⟩
/-- pieces that are only read, as many as there are, as one -/
def inn (L : List SL) : SL where
  p S w := ∀ e ∈ L, ∃ F : Foot, (∀ b, F b → S b) ∧ e.p F w
  st S w w' h hp := fun e he => by
    obtain ⟨F, hF, hp⟩ := hp e he
    exact ⟨F, hF, e.st F w w' (fun b hb => h b (hF b hb)) hp⟩
theorem inn_arr {α : Type} {enc : α → List Value} {sz : Nat} {A : Option Addr} {xs : List α} {L : List SL} (h : arr enc sz A xs ∈ L) : Ent (inn L) (arr enc sz A xs) := fun S w hp hne => by
  obtain ⟨F, hF, h1⟩ := hp _ h
  obtain ⟨ad, h2, h3, h4⟩ := h1 hne
  exact ⟨ad, h2, hF _ h3, h4⟩
theorem Tri_inn {P : Program} {g : Nat} {args : List Value} {L ro rw : List SL} {α : Type} {φ : α → Prop} {val : α → Value} {es : α → List SL}
    (h : Tri P g args (inn L :: ro) rw φ val es) : Tri P g args (L ++ ro) rw φ val es := fun w S hf =>
  (h w S ⟨hf.fr, hf.lt, hf.sub, hf.star, fun f hm => by
    cases hm with
    | head => exact ⟨fun b => b < w.heap.size ∧ ¬ S b, fun b hb => hb, fun e he => by
        obtain ⟨F, hF, hp⟩ := hf.ros e (List.mem_append.2 (.inl he))
        exact ⟨F, hF, hp⟩⟩
    | tail _ hm => exact hf.ros f (List.mem_append.2 (.inr hm))⟩).mono fun _ w' ⟨x, T, hx, he', hfx⟩ => ⟨x, T, hx, he', hfx.fr, hfx.lt, hfx.sub, hfx.star, fun f hm => by
    obtain ⟨F, hF, hp⟩ := hf.ros f hm
    exact ⟨F, fun b hb => ⟨Nat.lt_of_lt_of_le (hF b hb).1 hfx.fr.size, fun hT => (hfx.sub b hT).elim (hF b hb).2 (fun hge => by have := (hF b hb).1; omega)⟩, f.st F w w' (fun b hb => hfx.fr.block b (hF b hb).1 (hF b hb).2) hp⟩⟩
theorem HX_move {N : Nat} {w0 : World} {S0 : Foot} {env : Env} {ro rw rw' : List SL} {x : Exit} {Q : Exit → Act → World → Prop} (k : Nat) {e : SL} (hk : rw[k]? = some e) (hr : eraseO rw k = some rw') (h : HX N w0 S0 x env ro (e :: rw') Q) : HX N w0 S0 x env ro rw Q := by
  have e := eraseO_eq hr
  subst e
  exact HQ_move k hk h
theorem decT {p : Prop} [Decidable p] (h : p) : Value.bool (decide p) = Value.bool true := by rw [decide_eq_true h]
theorem decF {p : Prop} [Decidable p] (h : ¬ p) : Value.bool (decide p) = Value.bool false := by rw [decide_eq_false h]
theorem map_at {α : Type} {enc : α → List Value} {l : List α} {q : Nat} {a : α} (h : l[q]? = some a) : (l.map enc)[q]? = some (enc a) := by rw [List.getElem?_map, h]; rfl
class PlainMd (m : Md) : Prop where h : plainM m = true
instance : PlainMd .ord := ⟨rfl⟩
instance : PlainMd .quiet := ⟨rfl⟩
instance {m : Md} [h : PlainMd m] : PlainMd (nmM m) := ⟨by have := h.h; cases m <;> first | rfl | cases this⟩
/-- a piece on the one side or the other -/
class SeeAt (m : Md) (ro rw : List SL) (A : Option Addr) (sz : outParam Nat) (xs : outParam (List (List Value))) : Prop where h : ∃ e, e ∈ seeL m ro rw ∧ (WfL sz xs → Ent e (arr idE sz A xs))
instance (priority := low) see_rw {m : Md} {ro rw : List SL} {A : Option Addr} {k sz : Nat} {xs : List (List Value)} [hm : PlainMd m] [h : SrcAt rw A k sz xs] : SeeAt m ro rw A sz xs := ⟨by
  obtain ⟨e, h1, h2⟩ := h.h
  exact ⟨e, by rw [seeL_plain hm.h]; exact List.mem_append.2 (.inr (List.mem_of_getElem? h1)), h2⟩⟩
instance see_ro {m : Md} {ro rw : List SL} {A : Option Addr} {k sz : Nat} {xs : List (List Value)} [h : SrcAt ro A k sz xs] : SeeAt m ro rw A sz xs := ⟨by
  obtain ⟨e, h1, h2⟩ := h.h
  exact ⟨e, seeL_ro (List.mem_of_getElem? h1), h2⟩⟩

section
variable {m : Md} {P : Program} {N : Nat} {w0 : World} {S0 : Foot} {ops : List Oper} {i : Nat} {lq : List Nat} {env : Env} {ro rw : List SL} {K : Act → World → Prop} {d : Nat} {op : Op} {ty : TypeId} {pos : String} {aft : Array Edge} {g : Option (Nat × Bool)}
theorem HO_dt {l : List Nat} {p : Prop} [Decidable p] (hp : p) (h : HO m P N w0 S0 ops l ((d, .bool true) :: env) ro rw K) : HO m P N w0 S0 ops l ((d, .bool (decide p)) :: env) ro rw K := HO_rw (decT hp) h
theorem HO_df {l : List Nat} {p : Prop} [Decidable p] (hp : ¬ p) (h : HO m P N w0 S0 ops l ((d, .bool false) :: env) ro rw K) : HO m P N w0 S0 ops l ((d, .bool (decide p)) :: env) ro rw K := HO_rw (decF hp) h
theorem HO_ndt {l : List Nat} {p : Prop} [Decidable p] (hp : p) (h : HO m P N w0 S0 ops l ((d, .bool false) :: env) ro rw K) : HO m P N w0 S0 ops l ((d, .bool (!decide p)) :: env) ro rw K := HO_rw (by rw [decide_eq_true hp]; rfl) h
theorem HO_ndf {l : List Nat} {p : Prop} [Decidable p] (hp : ¬ p) (h : HO m P N w0 S0 ops l ((d, .bool true) :: env) ro rw K) : HO m P N w0 S0 ops l ((d, .bool (!decide p)) :: env) ro rw K := HO_rw (by rw [decide_eq_false hp]; rfl) h
theorem HO_i64 {l : List Nat} {x : Int} (hx : -9223372036854775808 ≤ x ∧ x ≤ 9223372036854775807) (h : HO m P N w0 S0 ops l ((d, .int .i64 x) :: env) ro rw K) : HO m P N w0 S0 ops l ((d, .int .i64 (IntKind.i64.wrap x)) :: env) ro rw K := HO_rw (wrap_i64 hx) h
theorem HO_u32 {l : List Nat} {x : Int} (hx : 0 ≤ x ∧ x ≤ 4294967295) (h : HO m P N w0 S0 ops l ((d, .int .u32 x) :: env) ro rw K) : HO m P N w0 S0 ops l ((d, .int .u32 (IntKind.u32.wrap x)) :: env) ro rw K := HO_rw (wrap_u32 hx) h
theorem HO_u8 {l : List Nat} {x : Int} (hx : 0 ≤ x ∧ x ≤ 255) (h : HO m P N w0 S0 ops l ((d, .int .u8 x) :: env) ro rw K) : HO m P N w0 S0 ops l ((d, .int .u8 (IntKind.u8.wrap x)) :: env) ro rw K := HO_rw (wrap_u8 hx) h
/-- the address of an element -/
theorem HO_ix {sz sz' T e c n by_ : Nat} {A : Option Addr} {xs : List (List Value)} {x y : Operand} {k : IntKind} {q : Int} [hT : TySlice P T e] [hI : TyInfo P e sz by_]
    (ho : ops[i]? = some ⟨some d, .indexAddr T x y, ty, pos, aft, g⟩) (hx : Env.ev env x = some (.slice A n c)) (hy : Env.ev env y = some (.int k q)) [hk : SeeAt m ro rw A sz' xs] (hs : Nat.beq sz sz' = true) (hwf : WfL sz' xs)
    (h0 : 0 ≤ q) (h1 : q < (n : Int)) (hn : n = xs.length) (hw : wantE ops env g = some true) (hN : Nat.blt d N = true) (hr : rdyB m ops i lq = true)
    (h : ∀ ad, A = some ad → HO m P N w0 S0 ops lq ((d, .pointer (some (eP ad q.toNat sz 0))) :: env) ro rw K) : HO m P N w0 S0 ops (i :: lq) env ro rw K := by
  obtain ⟨e0, hmem, hent⟩ := hk.h
  refine HO_gen (C := ∃ ad, A = some ad) (by cases m <;> first | rfl | exact (Bool.noConfusion hr)) (fun w hf => ?_) (fun ⟨ad, hA⟩ => ?_)
  · obtain ⟨F, _, hp⟩ := hf _ hmem
    obtain ⟨ad, hA, _⟩ := hent hwf _ _ hp (by intro e; subst e; simp at hn; omega)
    exact ⟨ad, hA⟩
  · subst hA
    refine HO_val ho hw rfl hN hr (fun a w ha hf => ?_) (h ad rfl)
    have hI := hI.h
    cases hin : P.info? e with
    | none => simp [hin] at hI
    | some inf =>
      simp [hin] at hI
      simp [execOp, Instr.indexAt, Sem.run_bind, run_underlying hT.h, asIntOf, ha.ev hx, ha.ev hy, h0, h1, run_sizeOf w hin, Program.cellsOf, hin, hI.1, eP, Addr.add]

/-- a load from an element -/
theorem HO_ldE {x : Operand} {T q sz sz' off n : Nat} {ad : Addr} {ag : Bool} {v : Value} {row l : List Value} {xs : List (List Value)} [hT : TyKind P T ag n] (ho : ops[i]? = some ⟨some d, .load T x, ty, pos, aft, g⟩) (hx : Env.ev env x = some (.pointer (some (eP ad q sz off))))
    [hk : SeeAt m ro rw (some ad) sz' xs] (hs : Nat.beq sz sz' = true) (hwf : WfL sz' xs) (hq : xs[q]? = some row) (hv : subL row off n = some l) (hl : valOf ag l = some v) (hw : wantE ops env g = some true) (hN : Nat.blt d N = true) (hr : rdyB m ops i lq = true)
    (h : HO m P N w0 S0 ops lq ((d, v) :: env) ro rw K) : HO m P N w0 S0 ops (i :: lq) env ro rw K := by
  obtain ⟨e0, hmem, hent⟩ := hk.h
  refine HO_val ho hw rfl hN hr (fun a w ha hf => ?_) h
  obtain ⟨F, _, hp⟩ := hf _ hmem
  have hs := Nat.eq_of_beq_eq_true hs
  subst hs
  obtain ⟨ad', he, _, hc⟩ := hent hwf _ _ hp (by intro e; subst e; simp at hq)
  injection he with he
  subst he
  obtain ⟨hll, hcc⟩ := subL_spec _ _ _ _ hv
  have cell : ∀ k u, l[k]? = some u → w.cell? ((eP ad q sz off).add k) = some u := fun k u hku => by
    rw [eP_add, eP_eq]
    have hlt := (List.getElem?_eq_some_iff.1 hku).1
    exact hc q row hq (off + k) u ((hcc k (by omega)).trans hku)
  have hT := hT.h
  have hload : (loadVar T (eP ad q sz off)).run P w = .ok v w := by
    cases ag with
    | true =>
      simp [valOf] at hl
      subst hl hll
      exact run_loadVar_agg w hT cell
    | false =>
      simp only [Bool.and_eq_true, beq_iff_eq] at hT
      match l, hl with
      | [u], hl =>
        simp [valOf] at hl
        subst hl
        have h9 := cell 0 u rfl
        exact run_loadVar_one w hT.1 (by simpa [eP_add] using h9)
  simp [execOp, Instr.loadAt, Instr.sureAddr, ha.ev hx, Sem.run_bind, hload]
end
end Go.Proofs.YtdeeokkkcfkbjaaDoor
