/- The symbolic walk: reading, writing, appending to, making and cutting slices. -/
import Derived.Test.YtdeeokkkcfkbjaaDoorEng5
namespace Go.Proofs.YtdeeokkkcfkbjaaDoor
set_option linter.unusedVariables false
set_option linter.unusedSimpArgs false
open Go.RowKit

section
variable {α : Type} {m : Md} {P : Program} {N : Nat} {w0 : World} {S0 : Foot} {ops : List Oper} {i : Nat} {lq : List Nat} {env : Env} {ro rw : List SL} {K : Act → World → Prop} {d : Nat} {op : Op} {ty : TypeId} {pos : String} {aft : Array Edge} {g : Option (Nat × Bool)}

/-- the address of an element -/
theorem HO_idx {enc : α → List Value} {sz T e c n : Nat} {A : Option Addr} {l : List α} {x y : Operand} {k : IntKind} {q : Int} (kk : Nat) [hT : TySlice P T e] {by_ : Nat} [hI : TyInfo P e sz by_]
    (ho : ops[i]? = some ⟨some d, .indexAddr T x y, ty, pos, aft, g⟩) (hx : Env.ev env x = some (.slice A n c)) (hy : Env.ev env y = some (.int k q)) (hk : (seeL m ro rw)[kk]? = some (arr enc sz A l))
    (h0 : 0 ≤ q) (h1 : q < (n : Int)) (hn : n = l.length) (hw : wantE ops env g = some true) (hN : Nat.blt d N = true) (hr : rdyB m ops i lq = true)
    (h : ∀ ad, A = some ad → HO m P N w0 S0 ops lq ((d, .pointer (some (eP ad q.toNat sz 0))) :: env) ro rw K) : HO m P N w0 S0 ops (i :: lq) env ro rw K := by
  refine HO_gen (C := ∃ ad, A = some ad) (by cases m <;> first | rfl | exact (Bool.noConfusion hr)) (fun w hf => ?_) (fun ⟨ad, hA⟩ => ?_)
  · obtain ⟨F, _, hp⟩ := hf _ (List.mem_of_getElem? hk)
    obtain ⟨ad, hA, _⟩ := hp (by intro e; subst e; simp at hn; omega)
    exact ⟨ad, hA⟩
  · subst hA
    refine HO_val ho hw rfl hN hr (fun a w ha hf => ?_) (h ad rfl)
    have hI := hI.h
    cases hin : P.info? e with
    | none => simp [hin] at hI
    | some inf =>
      simp [hin] at hI
      simp [execOp, Instr.indexAt, Sem.run_bind, run_underlying hT.h, asIntOf, ha.ev hx, ha.ev hy, h0, h1, run_sizeOf w hin, Program.cellsOf, hin, hI.1, eP, Addr.add]

/-- the address of a field of an element -/
theorem HO_faddrE {x : Operand} {s f q sz off o : Nat} {ad : Addr} [hF : FOff P s f o] (ho : ops[i]? = some ⟨some d, .fieldAddr s x f, ty, pos, aft, g⟩) (hx : Env.ev env x = some (.pointer (some (eP ad q sz off))))
    (hw : wantE ops env g = some true) (hN : Nat.blt d N = true) (hr : rdyB m ops i lq = true)
    (h : HO m P N w0 S0 ops lq ((d, .pointer (some (eP ad q sz (off + o)))) :: env) ro rw K) : HO m P N w0 S0 ops (i :: lq) env ro rw K := by
  refine HO_val ho hw rfl hN hr (fun a w ha hf => ?_) h
  have hF := hF.h
  unfold fOffB at hF
  cases hu : P.underlying s with
  | none => simp [hu] at hF
  | some dd =>
    cases dd <;> simp [hu] at hF
    rename_i fs
    cases hfl : fs[f]? with
    | none => simp [hfl] at hF
    | some fl =>
      simp only [hfl, Bool.and_eq_true, beq_iff_eq] at hF
      cases hin : P.info? fl.type with
      | none => simp [hin] at hF
      | some inf =>
        simp [hin] at hF
        obtain ⟨h1, h2⟩ := hF
        simp [execOp, Instr.fieldAt, Sem.run_bind, run_underlying hu, hfl, Instr.sureAddr, ha.ev hx, fieldPlace, run_sizeOf w hin, Program.cellsOf, hin, h2, eP_add, h1]

theorem arr_at [Inhabited α] {enc : α → List Value} {sz : Nat} {ad : Addr} {l : List α} {S : Foot} {w : World} (h : (arr enc sz (some ad) l).p S w) {q : Nat} (hq : q < l.length) : ∀ k u, (enc l[q]!)[k]? = some u → w.cell? (ad.add (q * sz + k)) = some u := by
  obtain ⟨ad', he, _, hc⟩ := h (by intro e; subst e; simp at hq)
  injection he with he
  subst he
  exact hc q _ (by rw [List.getElem?_eq_getElem hq, getElem!_pos l q hq])

/-- a load of one cell of an element -/
theorem HO_loadE1 [Inhabited α] {enc : α → List Value} {x : Operand} {T q sz off : Nat} {ad : Addr} {v : Value} {l : List α} (k : Nat) [hT : TyOne P T] (ho : ops[i]? = some ⟨some d, .load T x, ty, pos, aft, g⟩) (hx : Env.ev env x = some (.pointer (some (eP ad q sz off))))
    (hk : (seeL m ro rw)[k]? = some (arr enc sz (some ad) l)) (hq : q < l.length) (hv : (enc l[q]!)[off]? = some v) (hw : wantE ops env g = some true) (hN : Nat.blt d N = true) (hr : rdyB m ops i lq = true)
    (h : HO m P N w0 S0 ops lq ((d, v) :: env) ro rw K) : HO m P N w0 S0 ops (i :: lq) env ro rw K := by
  refine HO_val ho hw rfl hN hr (fun a w ha hf => ?_) h
  obtain ⟨F, _, hp⟩ := hf _ (List.mem_of_getElem? hk)
  have hc := arr_at hp hq off v hv
  rw [← eP_eq] at hc
  simp [execOp, Instr.loadAt, Instr.sureAddr, ha.ev hx, Sem.run_bind, run_loadVar_one w hT.h hc]
theorem HO_loadEn [Inhabited α] {enc : α → List Value} {x : Operand} {T q sz off n : Nat} {ad : Addr} {vs : List Value} {l : List α} (k : Nat) [hT : TyAgg P T n] (ho : ops[i]? = some ⟨some d, .load T x, ty, pos, aft, g⟩) (hx : Env.ev env x = some (.pointer (some (eP ad q sz off))))
    (hk : (seeL m ro rw)[k]? = some (arr enc sz (some ad) l)) (hq : q < l.length) (hv : subL (enc l[q]!) off n = some vs) (hw : wantE ops env g = some true) (hN : Nat.blt d N = true) (hr : rdyB m ops i lq = true)
    (h : HO m P N w0 S0 ops lq ((d, .agg vs.toArray) :: env) ro rw K) : HO m P N w0 S0 ops (i :: lq) env ro rw K := by
  refine HO_val ho hw rfl hN hr (fun a w ha hf => ?_) h
  obtain ⟨F, _, hp⟩ := hf _ (List.mem_of_getElem? hk)
  obtain ⟨hl, hc⟩ := subL_spec _ _ _ _ hv
  subst hl
  have := run_loadVar_agg (P := P) (T := T) w (a := eP ad q sz off) (l := vs) hT.h (fun k v hkv => by
    rw [eP_add, eP_eq]
    exact arr_at hp hq _ _ ((hc k (List.getElem?_eq_some_iff.1 hkv).1).trans hkv))
  simp [execOp, Instr.loadAt, Instr.sureAddr, ha.ev hx, Sem.run_bind, this]

/-- a view of a piece besides it, to be read alone -/
theorem HO_view {k : Nat} {e e' : SL} {l : List Nat} (hm : plainM m = true) (hk : ro[k]? = some e) (he : Ent e e') (h : HO m P N w0 S0 ops l env (e' :: ro) rw K) : HO m P N w0 S0 ops l env ro rw K := by
  have key : ∀ {S : Foot} {w : World}, Fits w0 S0 ro rw S w → Fits w0 S0 (e' :: ro) rw S w := fun hf => ⟨hf.fr, hf.lt, hf.sub, hf.star, fun f hm => by
    cases hm with
    | head => obtain ⟨F, hF, hp⟩ := hf.ros e (List.mem_of_getElem? hk); exact ⟨F, hF, he _ _ hp⟩
    | tail _ hm => exact hf.ros f hm⟩
  cases m with
  | ord => exact fun a S w ha hf => h a S w ha (key hf)
  | quiet =>
    intro a ha
    have := h a ha
    have hcls : cls w0 S0 (e' :: ro) rw = cls w0 S0 ro rw := by
      funext w
      refine propext ⟨fun ⟨S, hf⟩ => ⟨S, hf.fr, hf.lt, hf.sub, hf.star, fun f hm => hf.ros f (List.mem_cons_of_mem _ hm)⟩, fun ⟨S, hf⟩ => ⟨S, key hf⟩⟩
    rwa [hcls] at this
  | lex _ => cases hm
  | pick _ => cases hm
end

/-! ## judgements on pieces, at whatever place -/
theorem Star.map_at {e e' : SL} (he : Ent e e') : ∀ {es : List SL} {k : Nat} {S : Foot} {w : World}, es[k]? = some e → Star es S w → Star (es.set k e') S w
  | [], _, _, _, h, _ => by simp at h
  | f :: es, 0, S, w, h, ⟨A, B, h1, h2, h12, hf, hs⟩ => by
    simp at h
    subst h
    exact ⟨A, B, h1, h2, h12, he _ _ hf, hs⟩
  | f :: es, k + 1, S, w, h, ⟨A, B, h1, h2, h12, hf, hs⟩ => ⟨A, B, h1, h2, h12, hf, Star.map_at he (by simpa using h) hs⟩

theorem Star.insert_set {e e' : SL} : ∀ {es : List SL} {k : Nat} {S : Foot} {w : World}, es[k]? = some e → Star (e' :: es.eraseIdx k) S w → Star (es.set k e') S w
  | [], _, _, _, h, _ => by simp at h
  | f :: es, 0, S, w, _, h => by simpa using h
  | f :: es, k + 1, S, w, h, ⟨A, B, h1, h2, h12, he, hs⟩ => by
    simp only [List.eraseIdx_cons_succ] at hs
    obtain ⟨A2, B2, h3, h4, h34, hf, hs⟩ := hs
    refine ⟨A2, fun b => A b ∨ B2 b, fun b hb => h2 b (h3 b hb), fun b hb => hb.elim (h1 b) (fun hb => h2 b (h4 b hb)), fun b hb hc => hc.elim (fun hc => h12 b hc (h3 b hb)) (h34 b hb), hf, ?_⟩
    exact Star.insert_set (by simpa using h) ⟨A, B2, fun _ h => .inl h, fun _ h => .inr h, fun b hb hc => h12 b hb (h4 b hc), he, hs⟩
theorem flatMap_len {α β : Type} {enc : α → List β} {sz : Nat} : ∀ l : List α, (∀ x ∈ l, (enc x).length = sz) → (l.flatMap enc).length = l.length * sz
  | [], _ => by simp
  | y :: l, h => by rw [List.flatMap_cons, List.length_append, h y (by simp), flatMap_len l (fun x hx => h x (by simp [hx])), List.length_cons, Nat.add_mul]; omega

section
variable {α : Type} {m : Md} {P : Program} {N : Nat} {w0 : World} {S0 : Foot} {ops : List Oper} {i : Nat} {lq : List Nat} {env : Env} {ro rw : List SL} {K : Act → World → Prop} {d : Nat} {op : Op} {ty : TypeId} {pos : String} {aft : Array Edge} {g : Option (Nat × Bool)}

theorem HQ_map {k : Nat} {e e' : SL} (hk : rw[k]? = some e) (he : Ent e e') (h : HQ N w0 S0 env ro (rw.set k e') K) : HQ N w0 S0 env ro rw K :=
  fun a S w ha hf => h a S w ha ⟨hf.fr, hf.lt, hf.sub, Star.map_at he hk hf.star, hf.ros⟩
theorem HQ_add {e : SL} (he : ∀ w, e.p (fun _ => False) w) (h : HQ N w0 S0 env ro (e :: rw) K) : HQ N w0 S0 env ro rw K :=
  fun a S w ha hf => h a S w ha ⟨hf.fr, hf.lt, hf.sub, ⟨fun _ => False, S, fun _ h => h.elim, fun _ h => h, fun _ h => h.elim, he w, hf.star⟩, hf.ros⟩
def loudM : Md → Bool
  | .quiet => false
  | _ => true
theorem Fits.comm2 {a b : List SL} {e : SL} {S : Foot} {w : World} (h : Fits w0 S0 ro (e :: (a ++ b)) S w) : Fits w0 S0 ro (a ++ e :: b) S w := by
  obtain ⟨A, B, hA, hB, hd, he, hs⟩ := h.star
  obtain ⟨C, D, hC, hD, hcd, h8, h9⟩ := hs.split
  have h10 : Star (e :: b) (fun x => A x ∨ D x) w := ⟨A, D, fun _ h => .inl h, fun _ h => .inr h, fun x hx hc => hd x hx (hD x hc), he, h9⟩
  exact ⟨h.fr, h.lt, h.sub, Star.append (fun x hx => hB x (hC x hx)) (fun x hx => hx.elim (hA x) (fun hx => hB x (hD x hx))) (fun x hx hc => hc.elim (fun hc => hd x hc (hC x hx)) (hcd x hx)) h8 h10, h.ros⟩
theorem HO_add {e : SL} {l : List Nat} (hm : loudM m = true) (he : ∀ w, e.p (fun _ => False) w) (h : HO m P N w0 S0 ops l env ro (e :: rw) K) : HO m P N w0 S0 ops l env ro rw K := by
  have key : ∀ {ro : List SL} {rw : List SL} {S : Foot} {w : World}, Fits w0 S0 ro rw S w → Fits w0 S0 ro (e :: rw) S w := fun {ro rw S w} hf =>
    ⟨hf.fr, hf.lt, hf.sub, ⟨fun _ => False, S, fun _ h => h.elim, fun _ h => h, fun _ h => h.elim, he w, hf.star⟩, hf.ros⟩
  cases m with
  | ord => exact fun a S w ha hf => h a S w ha (key hf)
  | quiet => cases hm
  | lex ro0 => exact fun held hro a S w ha hf => h held hro a S w ha (key hf).comm2
  | pick ro0 =>
    intro held hro
    have := h held hro
    cases l with
    | nil => exact this
    | cons i l => exact fun a S w ha hf => this a S w ha (key hf).comm2
theorem HQ_pure {C : Prop} {k : Nat} {e : SL} (hk : (ro ++ rw)[k]? = some e) (hC : ∀ S w, e.p S w → C) (h : C → HQ N w0 S0 env ro rw K) : HQ N w0 S0 env ro rw K :=
  fun a S w ha hf => by
    obtain ⟨F, _, hp⟩ := hf.see (List.mem_of_getElem? hk)
    exact h (hC _ _ hp) a S w ha hf

theorem own_nil {enc : α → List Value} {T sz : Nat} (w : World) : (own enc T sz none 0 0 []).p (fun _ => False) w := ⟨rfl, ⟨by simp, .inl ⟨rfl, rfl⟩⟩, fun _ h => by cases h⟩
theorem arr_nil {enc : α → List Value} {sz : Nat} {A : Option Addr} (S : Foot) (w : World) : (arr enc sz A []).p S w := fun h => absurd rfl h

def oneB (l : List Value) : Bool := l.all Value.oneCell'

/-- append(out, x...): out is a row of the call's own -/
theorem HO_append {enc : α → List Value} {T e sz by_ n c n2 c2 : Nat} {A A2 : Option Addr} {l l2 : List α} {x y : Operand} {z : Value} {src : SL} (k : Nat) (k2 : Nat) [hT : TySlice P T e] [hI : TyInfo P e sz by_] [hZ : TyZero P e z]
    (ho : ops[i]? = some ⟨some d, .call { callee := .builtin .append, args := #[x, y], argTypes := #[T, T] }, ty, pos, aft, g⟩) (hx : Env.ev env x = some (.slice A n c)) (hy : Env.ev env y = some (.slice A2 n2 c2))
    (hk : rw[k]? = some (own enc e sz A n c l)) (hk2 : (ro ++ rw)[k2]? = some src) (hse : Ent src (arr enc sz A2 l2)) (hn2 : n2 = l2.length) (henc : ∀ x ∈ l2, (enc x).length = sz) (h1 : ∀ x ∈ l2, oneB (enc x) = true) (hzs : z.cells.size = sz) (hsz : 0 < sz)
    (hb : (l.length + l2.length) * by_ ≤ 140737488355328) (hb2 : l.length + l2.length ≤ 9223372036854775807)
    (hw : wantE ops env g = some true) (hN : Nat.blt d N = true) (hs : soleB m ops i lq = true)
    (h : ∀ A' c', HO (nmM m) P N w0 S0 ops lq ((d, .slice A' (n + n2) c') :: env) ro (own enc e sz A' (n + n2) c' (l ++ l2) :: rw.eraseIdx k) K) : HO m P N w0 S0 ops (i :: lq) env ro rw K := by
  refine HO_act_ex (α := Option Addr × Nat) (φ := fun _ => True) (v := fun p => .slice p.1 (n + n2) p.2) (rw' := fun p => own enc e sz p.1 (n + n2) p.2 (l ++ l2) :: rw.eraseIdx k) ho hw rfl hN hs (fun w1 S1 a S w ha hf => ?_) (fun p _ => h p.1 p.2)
  obtain ⟨F, hFl, hp2⟩ := hf.see (List.mem_of_getElem? hk2)
  have hr2 := hse _ _ hp2
  have hI := hI.h
  cases hin : P.info? e with
  | none => simp [hin] at hI
  | some inf =>
    simp [hin] at hI
    have hz := hZ.h
    simp [hin] at hz
    have hmv : Fits w1 S1 ro ([own enc e sz A n c l] ++ rw.eraseIdx k) S w := hf.move hk
    obtain ⟨B, ⟨B1, B2, hB1, hB2, hB12, ⟨hnl, how, hSo1⟩, _⟩, hBS, hBl, _, _, hstep⟩ := hmv.step
    have hlen2 : (l2.flatMap enc).length = n2 * sz := by rw [flatMap_len l2 henc, hn2]
    have hreads : Reads w w.heap.size sz A2 n2 (l2.flatMap enc) := by
      refine ⟨hlen2, fun hpos => ?_⟩
      obtain ⟨ad, hA, hS, hc⟩ := hr2 (by intro e; subst e; simp at hn2; omega)
      refine ⟨ad, hA, hFl _ hS, fun q u hq => ?_⟩
      have hqlt := (List.getElem?_eq_some_iff.1 hq).1
      rw [hlen2, hn2] at hqlt
      have hqd : q / sz < l2.length := Nat.div_lt_of_lt_mul (by rw [Nat.mul_comm]; exact hqlt)
      have hx1 : l2[q / sz]? = some l2[q / sz] := List.getElem?_eq_getElem hqd
      have hkm : q % sz < (enc l2[q / sz]).length := by rw [henc _ (List.getElem_mem _)]; exact Nat.mod_lt _ hsz
      have h2 := flatMap_at l2 henc _ _ hx1 (q % sz) _ (List.getElem?_eq_getElem hkm)
      have h3 := hc _ _ hx1 (q % sz) _ (List.getElem?_eq_getElem hkm)
      have hqe : q / sz * sz + q % sz = q := by rw [Nat.mul_comm]; exact Nat.div_add_mod q sz
      rw [hqe] at h2 h3
      rw [hq] at h2
      injection h2 with h2
      rw [h3, ← h2]
    have hone : ∀ u ∈ l2.flatMap enc, u.oneCell' = true := by
      intro u hu
      obtain ⟨y, hyl, hy⟩ := List.mem_flatMap.1 hu
      exact List.all_eq_true.1 (h1 y hyl) u hy
    have hnl2 : n + n2 = l.length + l2.length := by omega
    obtain ⟨v', w', hrun, how', hg, hblk⟩ := run_append_any (P := P) w 0 T ty e inf z sz by_ hT.h hin hz hI.1 hI.2 hzs hsz (.slice A n c) n (l.flatMap enc) how w.heap.size A2 n2 c2 (l2.flatMap enc) hreads hone (by unfold maxLen; omega) (by rw [hnl2]; exact hb) (Nat.zero_le _)
    obtain ⟨A', c', hv'⟩ : ∃ A' c', v' = .slice A' (n + n2) c' := by
      rcases how'.2 with ⟨hv, hn0⟩ | ⟨g', cap, cur, hv, _⟩
      · exact ⟨none, 0, by rw [hv, hn0]⟩
      · exact ⟨_, cap, hv⟩
    subst hv'
    have hlt' : ∀ ad, A' = some ad → ad.block < w'.heap.size := by
      intro ad hA
      rcases how'.2 with ⟨hv, hn0⟩ | ⟨g', cap, cur, hv, _, hh, _⟩
      · injection hv with hv; rw [hv] at hA; cases hA
      · injection hv with hv
        rw [hA] at hv
        injection hv with hv
        subst hv
        rcases Nat.lt_or_ge g' w'.heap.size with h' | h'
        · exact h'
        · rw [Array.getElem?_eq_none h'] at hh; cases hh
    have hmemB : ∀ ad, A' = some ad → B1 ad.block ∨ ad.block = w.heap.size := by
      intro ad hA
      rcases hblk with hb' | hb'
      · left
        simp only [Value.ownBlock, hA] at hb'
        cases hAo : A with
        | none => rw [hAo] at hb'; cases hb'
        | some ad0 =>
          rw [hAo] at hb'
          injection hb' with hb'
          rw [hb']
          exact hSo1 ad0 hAo
      · right
        simp only [Value.ownBlock, hA] at hb'
        injection hb'
    have hsameB : ∀ b, b < w.heap.size → ¬ B b → w'.heap[b]? = w.heap[b]? := by
      intro b hb' hn'
      refine hg.block b hb' (fun he => ?_)
      cases hAo : A with
      | none => rw [hAo] at he; cases he
      | some ad0 =>
        rw [hAo] at he
        injection he with he
        exact hn' (he ▸ hB1 _ (hSo1 ad0 hAo))
    obtain ⟨T', hT'⟩ := hstep w' (fun b => (∃ ad, A' = some ad ∧ ad.block = b)) [own enc e sz A' (n + n2) c' (l ++ l2)] ⟨hg.os, hg.tape, hg.output, hg.size, hsameB⟩
      (fun b ⟨ad, hA, hb'⟩ => hb' ▸ hlt' ad hA) (fun b ⟨ad, hA, hb'⟩ => hb' ▸ (hmemB ad hA).elim (fun h => .inl (hB1 _ h)) (fun h => .inr (by omega)))
      ⟨fun b => (∃ ad, A' = some ad ∧ ad.block = b), fun _ => False, fun _ h => h, fun _ h => h.elim, fun _ _ h => h, ⟨by simp [hnl, hn2], by rw [List.flatMap_append]; exact how', fun ad hA => ⟨ad, hA, rfl⟩⟩, trivial⟩
    refine ⟨(A', c'), T', w', trivial, ?_, by simpa using hT'⟩
    simp [execOp, resolve, invoke, builtin, Sem.run_bind, ha.ev hx, ha.ev hy, hrun]
end


/-! ## finding the rule, and the piece -/
def opk (ops : List Oper) (i : Nat) : Nat := match ops[i]? with
  | none => 99
  | some o => match o.op with
    | .move _ => 0 | .assign _ => 0 | .pick _ _ _ => 0 | .binOp _ _ _ _ _ => 0 | .unOp _ _ _ => 0 | .extract _ _ => 0
    | .box _ _ => 1 | .load _ _ => 2 | .store _ _ _ => 3 | .alloc _ => 4 | .fieldAddr _ _ _ => 5 | .build _ _ => 6 | .convert _ _ _ => 7
    | .makeFunc _ _ _ => 9 | .indexAddr _ _ _ => 10 | .slice _ _ _ _ _ => 13 | .makeSlice _ _ _ => 14 | .buildSlice _ _ _ => 15 | .field _ _ _ => 16 | .index _ _ _ => 17 | .nilCheck _ => 18
    | .call c => match c.callee with
      | .value _ => 12
      | .builtin .len => 8
      | .builtin .append => 11
      | .builtin .min => 22
      | .builtin _ => 19
      | .invoke _ _ => 20
    | _ => 21
def opg (ops : List Oper) (env : Env) (i : Nat) : Nat := match ops[i]? with
  | none => 99
  | some o => match o.guard with
    | none => 0
    | some (j, _) => match ops[j]? with
      | none => 99
      | some o => match o.dst with
        | none => 99
        | some d => match Env.get env d with
          | some (.bool _) => 2
          | some (.tuple _) => 1
          | _ => 3

/-- a region in which nothing is made or written (calls aside) -/
def stillB : Op → Bool
  | .box _ _ | .store _ _ _ | .alloc _ | .makeSlice _ _ _ | .buildSlice _ _ _ => false
  | .call c => match c.callee with
    | .builtin .append => false
    | .builtin .copy => false
    | _ => true
  | _ => true
theorem HC_quiet {P : Program} {N : Nat} {w0 : World} {S0 : Foot} {c : Code} {env : Env} {ro rw : List SL} {Q : Exit → Act → World → Prop} (_ : (isDraw c && (cOps c).all (fun o => stillB o.op)) = true) (h : HC P N w0 S0 c env ro rw Q) : HC P N w0 S0 c env ro rw Q := h

class CelAt (l : List SL) (b : Nat) (k U : outParam Nat) (cs : outParam (List Value)) : Prop where h : l[k]? = some (cel b U cs)
instance (priority := high) {b U : Nat} {cs : List Value} {l : List SL} : CelAt (cel b U cs :: l) b 0 U cs := ⟨rfl⟩
instance {b U k : Nat} {cs : List Value} {e : SL} {l : List SL} [h : CelAt l b k U cs] : CelAt (e :: l) b (k + 1) U cs := ⟨by simpa using h.h⟩

section
variable {m : Md} {P : Program} {N : Nat} {w0 : World} {S0 : Foot} {ops : List Oper} {i : Nat} {lq : List Nat} {env : Env} {ro rw : List SL} {K : Act → World → Prop} {d : Nat} {op : Op} {ty : TypeId} {pos : String} {aft : Array Edge} {g : Option (Nat × Bool)}
theorem HO_k (k : Nat) (hk : Nat.beq (opk ops i) k = true) (h : HO m P N w0 S0 ops (i :: lq) env ro rw K) : HO m P N w0 S0 ops (i :: lq) env ro rw K := h
theorem HO_g (k : Nat) (hk : Nat.beq (opg ops env i) k = true) (h : HO m P N w0 S0 ops (i :: lq) env ro rw K) : HO m P N w0 S0 ops (i :: lq) env ro rw K := h
theorem at_right {ro rw : List SL} {k : Nat} {e : SL} (h : rw[k]? = some e) : (ro ++ rw)[ro.length + k]? = some e := by
  rw [List.getElem?_append_right (by omega)]; simpa using h
class TyKind (P : Program) (T : Nat) (ag : outParam Bool) (n : outParam Nat) : Prop where h : (match ag with | true => tyAggB P T n | false => tyOneB P T && n == 1) = true
instance (priority := high) {P : Program} {T : Nat} [h : TyOne P T] : TyKind P T false 1 := ⟨by simp [h.h]⟩
instance {P : Program} {T n : Nat} [h : TyAgg P T n] : TyKind P T true n := ⟨by simp [h.h]⟩
def valOf : Bool → List Value → Option Value
  | true, l => some (.agg l.toArray)
  | false, [v] => some v
  | _, _ => none
theorem loadVar_kind {T n off : Nat} {ag : Bool} {b U : Nat} {cs l : List Value} {v : Value} {S : Foot} {w : World} (hT : TyKind P T ag n) (hp : (cel b U cs).p S w) (hv : subL cs off n = some l) (ho : valOf ag l = some v) :
    (loadVar T ⟨b, off, none⟩).run P w = .ok v w := by
  have hT := hT.h
  obtain ⟨hl, hc⟩ := subL_spec _ _ _ _ hv
  cases ag with
  | true =>
    simp [valOf] at ho
    subst ho hl
    exact run_loadVar_agg w hT (fun k v hkv => by
      rw [addr_add, cel_cell hp, hc k (by have := (List.getElem?_eq_some_iff.1 hkv).1; exact this)]
      exact hkv)
  | false =>
    simp only [Bool.and_eq_true, beq_iff_eq] at hT
    match l, ho with
    | [u], ho =>
      simp [valOf] at ho
      subst ho
      have := hc 0 (by omega)
      simp at this
      exact run_loadVar_one w hT.1 ((cel_cell hp off).trans this)
theorem seeL_plain (hm : plainM m = true) : seeL m ro rw = ro ++ rw := by cases m <;> first | rfl | cases hm
theorem seeL_ro {e : SL} (he : e ∈ ro) : e ∈ seeL m ro rw := by cases m <;> first | exact he | exact List.mem_append.2 (.inl he)
theorem HO_lo {x : Operand} {T b off k U n : Nat} {ag : Bool} {v : Value} {l cs : List Value} [hT : TyKind P T ag n] (hm : plainM m = true) (ho : ops[i]? = some ⟨some d, .load T x, ty, pos, aft, g⟩) (hx : Env.ev env x = some (.pointer (some ⟨b, off, none⟩)))
    [hk : CelAt rw b k U cs] (hv : subL cs off n = some l) (hl : valOf ag l = some v) (hw : wantE ops env g = some true) (hN : Nat.blt d N = true) (hr : rdyB m ops i lq = true)
    (h : HO m P N w0 S0 ops lq ((d, v) :: env) ro rw K) : HO m P N w0 S0 ops (i :: lq) env ro rw K := by
  refine HO_val ho hw rfl hN hr (fun a w ha hf => ?_) h
  obtain ⟨F, _, hp⟩ := hf (cel b U cs) (by rw [seeL_plain hm]; exact List.mem_append.2 (.inr (List.mem_of_getElem? hk.h)))
  simp [execOp, Instr.loadAt, Instr.sureAddr, ha.ev hx, Sem.run_bind, loadVar_kind hT hp hv hl]
theorem HO_lor {x : Operand} {T b off k U n : Nat} {ag : Bool} {v : Value} {l cs : List Value} [hT : TyKind P T ag n] (ho : ops[i]? = some ⟨some d, .load T x, ty, pos, aft, g⟩) (hx : Env.ev env x = some (.pointer (some ⟨b, off, none⟩)))
    [hk : CelAt ro b k U cs] (hv : subL cs off n = some l) (hl : valOf ag l = some v) (hw : wantE ops env g = some true) (hN : Nat.blt d N = true) (hr : rdyB m ops i lq = true)
    (h : HO m P N w0 S0 ops lq ((d, v) :: env) ro rw K) : HO m P N w0 S0 ops (i :: lq) env ro rw K := by
  refine HO_val ho hw rfl hN hr (fun a w ha hf => ?_) h
  obtain ⟨F, _, hp⟩ := hf (cel b U cs) (seeL_ro (List.mem_of_getElem? hk.h))
  simp [execOp, Instr.loadAt, Instr.sureAddr, ha.ev hx, Sem.run_bind, loadVar_kind hT hp hv hl]

/-- the list of pieces with another one in its place, or without one, written out -/
def setO : List SL → Nat → SL → Option (List SL)
  | [], _, _ => none
  | _ :: l, 0, e => some (e :: l)
  | x :: l, k + 1, e => match setO l k e with
    | some r => some (x :: r)
    | none => none
theorem setO_eq : ∀ {l : List SL} {k : Nat} {e : SL} {r : List SL}, setO l k e = some r → r = l.set k e
  | [], _, _, _, h => by simp [setO] at h
  | _ :: _, 0, _, _, h => by simp [setO] at h; simp [h]
  | x :: l, k + 1, e, r, h => by
    simp only [setO] at h
    cases hs : setO l k e with
    | none => simp [hs] at h
    | some q => simp [hs] at h; subst h; simp [setO_eq hs]
def eraseO : List SL → Nat → Option (List SL)
  | [], _ => none
  | _ :: l, 0 => some l
  | x :: l, k + 1 => match eraseO l k with
    | some r => some (x :: r)
    | none => none
theorem eraseO_eq : ∀ {l : List SL} {k : Nat} {r : List SL}, eraseO l k = some r → r = l.eraseIdx k
  | [], _, _, h => by simp [eraseO] at h
  | _ :: _, 0, _, h => by simp [eraseO] at h; simp [h]
  | x :: l, k + 1, r, h => by
    simp only [eraseO] at h
    cases hs : eraseO l k with
    | none => simp [hs] at h
    | some q => simp [hs] at h; subst h; simp [eraseO_eq hs]
/-- a load in a region that draws and does more than reading: the piece is held till the region's end -/
theorem HO_loh {ro0 rw' : List SL} {x : Operand} {T b off k U n : Nat} {ag : Bool} {v : Value} {l cs : List Value} [hT : TyKind P T ag n] (ho : ops[i]? = some ⟨some d, .load T x, ty, pos, aft, g⟩) (hx : Env.ev env x = some (.pointer (some ⟨b, off, none⟩)))
    [hk : CelAt rw b k U cs] (hv : subL cs off n = some l) (hl : valOf ag l = some v) (hrw : eraseO rw k = some rw') (hw : wantE ops env g = some true) (hN : Nat.blt d N = true) (hr : rdyB (.lex ro0) ops i lq = true)
    (h : HO (.lex ro0) P N w0 S0 ops lq ((d, v) :: env) (cel b U cs :: ro) rw' K) : HO (.lex ro0) P N w0 S0 ops (i :: lq) env ro rw K := by
  have e := eraseO_eq hrw
  subst e
  exact HO_hold hk.h (HO_lor ho hx hv hl hw hN hr h)
class TySize (P : Program) (T : Nat) (n : outParam Nat) : Prop where h : (tyOneB P T && n == 1 || tyAggB P T n) = true
instance (priority := high) {P : Program} {T : Nat} [h : TyOne P T] : TySize P T 1 := ⟨by simp [h.h]⟩
instance {P : Program} {T n : Nat} [h : TyAgg P T n] : TySize P T n := ⟨by simp [h.h]⟩

theorem HO_st {x y : Operand} {T b off U n k : Nat} {v : Value} {cs l : List Value} {rw' : List SL} [hT : TySize P T n] (ho : ops[i]? = some ⟨none, .store T x y, ty, pos, aft, g⟩) (hx : Env.ev env x = some (.pointer (some ⟨b, off, none⟩)))
    (hy : Env.ev env y = some v) [hk : CelAt rw b k U cs] (hn : Nat.beq (cellsL v).length n = true) (h1 : (cellsL v).all Value.oneCell' = true) (hl : putL cs off (cellsL v) = some l) (hrw : setO rw k (cel b U l) = some rw')
    (hw : wantE ops env g = some true) (hs : soleB m ops i lq = true)
    (h : HO (nmM m) P N w0 S0 ops lq env ro rw' K) : HO m P N w0 S0 ops (i :: lq) env ro rw K := by
  have hrw := setO_eq hrw
  subst hrw
  exact HO_store k ho hx hy hk.h (cellsL_eq v) (Nat.eq_of_beq_eq_true hn) hT.h h1 hl hw hs h

theorem Res_ce {t T b off k U n : Nat} {ag : Bool} {v : Value} {vs : List Value} {rs : List ResultVar} {l cs : List Value} [hT : TyKind P T ag n] (hp : Env.get env t = some (.pointer (some ⟨b, off, none⟩))) [hk : CelAt rw b k U cs] (hv : subL cs off n = some l)
    (hl : valOf ag l = some v) (h : ResAll P N w0 S0 env ro rw rs vs) : ResAll P N w0 S0 env ro rw (.cell t T :: rs) (v :: vs) :=
  ⟨fun a S w ha hf => by
    obtain ⟨F, _, hc⟩ := hf.see (e := cel b U cs) (List.mem_append.2 (.inr (List.mem_of_getElem? hk.h)))
    simp [resV, Array.getD_eq_getD_getElem?, ha.at_ t _ hp, asAddr, Sem.run_bind, loadVar_kind hT hc hv hl], h⟩
end
end Go.Proofs.YtdeeokkkcfkbjaaDoor
