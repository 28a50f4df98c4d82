/- The symbolic walk: a guard that is not decided; calls by their contracts; a function's beginning and its end. -/
import Derived.Test.YtdeeokkkcfkbjaaDoorEng3
namespace Go.Proofs.YtdeeokkkcfkbjaaDoor
set_option linter.unusedVariables false
set_option linter.unusedSimpArgs false
open Go.RowKit

/-! ## lists of operations, one behind the other -/
section
variable {P : Program} {ops : Array Oper}

theorem wpList_append {K1 K : Act → World → Prop} : ∀ (l1 : List Oper) {l2 : List Oper} {a : Act} {w : World}, wpList P ops (Kof K1) l1 a w → (∀ a w, K1 a w → wpList P ops (Kof K) l2 a w) → wpList P ops (Kof K) (l1 ++ l2) a w
  | [], _, a, w, h, hk => hk a w h
  | o :: l1, l2, a, w, h, hk => by
    simp only [List.cons_append]
    unfold wpList at h ⊢
    split
    · rename_i hw
      rw [if_pos hw] at h
      rcases h with h | ⟨h, hl⟩
      · left
        unfold Oper.wp at h ⊢
        exact upon_mono (fun b w' _ v hb => wpList_append l1 hb hk) h
      · exact .inr ⟨h, LetsOut_Kof hl⟩
    · rename_i hw
      rw [if_neg hw] at h
      exact wpList_append l1 h hk

theorem wpList_keeps {K : Act → World → Prop} : ∀ (l : List Oper) {a : Act} {w : World}, wpList P ops (Kof K) l a w →
    wpList P ops (Kof fun a' w' => K a' w' ∧ ∀ t, (∀ o ∈ l, o.dst ≠ some t) → a'.tmps[t]? = a.tmps[t]?) l a w
  | [], a, w, h => ⟨h, fun _ _ => rfl⟩
  | o :: l, a, w, h => by
    have key : ∀ (b : Act) (w' : World), b.tmps = a.tmps → ∀ v, wpList P ops (Kof K) l (b.put o.dst v) w' →
        wpList P ops (Kof fun a' w' => K a' w' ∧ ∀ t, (∀ p ∈ o :: l, p.dst ≠ some t) → a'.tmps[t]? = a.tmps[t]?) l (b.put o.dst v) w' := by
      intro b w' hb v hv
      have := wpList_append (K := fun a' w' => K a' w' ∧ ∀ t, (∀ p ∈ o :: l, p.dst ≠ some t) → a'.tmps[t]? = a.tmps[t]?) (l2 := []) l (wpList_keeps l hv) (fun a' w'' hk => by
        refine ⟨hk.1, fun t ht => ?_⟩
        have h1 := hk.2 t (fun p hp => ht p (List.mem_cons_of_mem _ hp))
        rw [h1, ← hb]
        cases hd : o.dst with
        | none => rfl
        | some d =>
          have : d ≠ t := fun e => ht o (by simp) (by rw [hd, e])
          simp [Act.put, Array.getElem?_setIfInBounds, this])
      simpa using this
    unfold wpList at h ⊢
    split
    · rename_i hw
      rw [if_pos hw] at h
      rcases h with h | ⟨h, hl⟩
      · left
        unfold Oper.wp at h ⊢
        exact upon_mono key h
      · exact .inr ⟨h, LetsOut_Kof hl⟩
    · rename_i hw
      rw [if_neg hw] at h
      exact key a w rfl _ h

theorem wpQuiet_append {C : World → Prop} {Q1 Q : Act → Prop} : ∀ (l1 : List Oper) {l2 : List Oper} {a : Act}, wpQuiet P ops C Q1 l1 a → (∀ a, Q1 a → wpQuiet P ops C Q l2 a) → wpQuiet P ops C Q (l1 ++ l2) a
  | [], _, a, h, hk => hk a h
  | o :: l1, l2, a, h, hk => by
    simp only [List.cons_append]
    unfold wpQuiet at h ⊢
    split
    · rename_i hw
      rw [if_pos hw] at h
      exact Oper.quiet_mono (fun a' h' => wpQuiet_append l1 h' hk) h
    · rename_i hw
      rw [if_neg hw] at h
      exact wpQuiet_append l1 h hk

theorem wpQuiet_keeps {C : World → Prop} {Q : Act → Prop} : ∀ (l : List Oper) {a : Act}, wpQuiet P ops C Q l a →
    wpQuiet P ops C (fun a' => Q a' ∧ ∀ t, (∀ o ∈ l, o.dst ≠ some t) → a'.tmps[t]? = a.tmps[t]?) l a
  | [], a, h => ⟨h, fun _ _ => rfl⟩
  | o :: l, a, h => by
    have key : ∀ v, wpQuiet P ops C Q l (a.put o.dst v) → wpQuiet P ops C (fun a' => Q a' ∧ ∀ t, (∀ p ∈ o :: l, p.dst ≠ some t) → a'.tmps[t]? = a.tmps[t]?) l (a.put o.dst v) := by
      intro v hv
      have := wpQuiet_append (Q := fun a' => Q a' ∧ ∀ t, (∀ p ∈ o :: l, p.dst ≠ some t) → a'.tmps[t]? = a.tmps[t]?) (l2 := []) l (wpQuiet_keeps l hv) (fun a' hk => by
        refine ⟨hk.1, fun t ht => ?_⟩
        have h1 := hk.2 t (fun p hp => ht p (List.mem_cons_of_mem _ hp))
        rw [h1]
        cases hd : o.dst with
        | none => rfl
        | some d =>
          have : d ≠ t := fun e => ht o (by simp) (by rw [hd, e])
          simp [Act.put, Array.getElem?_setIfInBounds, this])
      simpa using this
    unfold wpQuiet at h ⊢
    split
    · rename_i hw
      rw [if_pos hw] at h
      obtain ⟨v, h1, h2⟩ := h
      exact ⟨v, h1, key v h2⟩
    · rename_i hw
      rw [if_neg hw] at h
      exact key _ h
end

/-! ## a guard that is not decided -/
def eqB : Bool → Bool → Bool | true, true => true | false, false => true | _, _ => false
theorem eqB_eq {a b : Bool} (h : eqB a b = true) : a = b := by cases a <;> cases b <;> first | rfl | cases h
/-- what stands under the guard (j0, want) is skipped with it, and writes only to slots of which nothing is known -/
def segOk (N : Nat) (ops : List Oper) (env : Env) (j0 : Nat) (want : Bool) : List Nat → List Nat → Bool
  | _, [] => true
  | done, k :: l => (match ops[k]? with
      | none => false
      | some o => (match o.guard with
          | some (j, w) => (Nat.beq j j0 && eqB w want) || memN j done
          | none => false) &&
        (match o.dst with
          | some d => Nat.blt d N && (Env.get env d).isNone
          | none => false)) && segOk N ops env j0 want (k :: done) l

theorem Agree.put_fresh {N : Nat} {e : Env} {a : Act} (h : Agree N e a) {d : Nat} (hd : Env.get e d = none) (v : Value) : Agree N e (a.put (some d) v) := by
  refine ⟨by simp [Act.put, h.size], by simp [Act.put, h.defers], fun t u ht => ?_⟩
  have : d ≠ t := fun he => by subst he; rw [hd] at ht; cases ht
  simp [Act.put, Array.getElem?_setIfInBounds, this, h.at_ t u ht]

def skipped (ops : List Oper) (done : List Nat) (a : Act) : Prop := ∀ q ∈ done, ∀ o d, ops[q]? = some o → o.dst = some d → a.tmps[d]? = some undef

theorem seg_head {N : Nat} {ops : List Oper} {env : Env} {j0 tc k : Nat} {want b : Bool} {done l : List Nat} {a : Act} (hj0 : (ops[j0]?).bind (·.dst) = some tc) (hb : Env.get env tc = some (.bool b)) (hne : b ≠ want)
    (ha : Agree N env a) (hs : skipped ops done a) (hseg : segOk N ops env j0 want done (k :: l) = true) :
    ∃ o d, ops[k]? = some o ∧ o.dst = some d ∧ d < N ∧ Env.get env d = none ∧ Region.wanted o (yielded ops.toArray a.tmps) = false ∧ segOk N ops env j0 want (k :: done) l = true ∧ skipped ops (k :: done) (a.put (some d) undef) := by
  simp only [segOk, Bool.and_eq_true] at hseg
  obtain ⟨hh, hrest⟩ := hseg
  cases ho : ops[k]? with
  | none => simp [ho] at hh
  | some o =>
    simp only [ho, Bool.and_eq_true] at hh
    obtain ⟨hg, hd⟩ := hh
    cases hdd : o.dst with
    | none => simp [hdd] at hd
    | some d =>
      simp only [hdd, Bool.and_eq_true, Nat.blt_eq, Option.isNone_iff_eq_none] at hd
      refine ⟨o, d, rfl, hdd, hd.1, hd.2, ?_, hrest, fun q hq p e hp he => ?_⟩
      · cases hgd : o.guard with
        | none => simp [hgd] at hg
        | some g =>
          obtain ⟨j, w⟩ := g
          simp only [hgd, Bool.or_eq_true, Bool.and_eq_true] at hg
          simp only [Region.wanted, hgd]
          rcases hg with ⟨h1, h2⟩ | h1
          · have e1 := Nat.eq_of_beq_eq_true h1
            have e2 := eqB_eq h2
            subst e1 e2
            have : yielded ops.toArray a.tmps j = some b := by
              unfold yielded
              simp only [List.getElem?_toArray, hj0, Option.bind_some, ha.at_ tc _ hb]
            rw [this]
            cases b <;> cases w <;> simp at hne ⊢
          · have hj := memN_iff.1 h1
            have : yielded ops.toArray a.tmps j = none := by
              unfold yielded
              simp only [List.getElem?_toArray]
              cases hoj : ops[j]? with
              | none => rfl
              | some oj =>
                simp only [Option.bind_some]
                cases hdj : oj.dst with
                | none => rfl
                | some dj => simp only [Option.bind_some, hs j hj oj dj hoj hdj, undef]
            rw [this]
            cases w <;> rfl
      · simp only [Act.put, Array.getElem?_setIfInBounds]
        by_cases hde : d = e
        · subst hde
          simp [ha.size, hd.1]
        · rw [if_neg hde]
          cases hq with
          | head =>
            rw [ho] at hp
            injection hp with hp
            subst hp
            rw [hdd] at he
            injection he with he
            exact absurd he hde
          | tail _ hq => exact hs q hq p e hp he

theorem seg_skip {P : Program} {N : Nat} {ops : List Oper} {env : Env} {j0 tc : Nat} {want b : Bool} {K : Act → World → Prop} (hj0 : (ops[j0]?).bind (·.dst) = some tc) (hb : Env.get env tc = some (.bool b)) (hne : b ≠ want) :
    ∀ (l done : List Nat) (a : Act) (w : World), Agree N env a → skipped ops done a → segOk N ops env j0 want done l = true → (∀ a', Agree N env a' → K a' w) → wpList P ops.toArray (Kof K) (opsAt ops l) a w
  | [], _, a, w, ha, _, _, hK => hK a ha
  | k :: l, done, a, w, ha, hs, hseg, hK => by
    obtain ⟨o, d, ho, hd, hdN, hfr, hw, hrest, hs'⟩ := seg_head hj0 hb hne ha hs hseg
    rw [opsAt_cons ho]
    unfold wpList
    rw [if_neg (by rw [hw]; simp), hd]
    exact seg_skip hj0 hb hne l _ _ w (ha.put_fresh hfr _) hs' hrest hK
theorem seg_skipQ {P : Program} {N : Nat} {ops : List Oper} {env : Env} {j0 tc : Nat} {want b : Bool} {C : World → Prop} {Q : Act → Prop} (hj0 : (ops[j0]?).bind (·.dst) = some tc) (hb : Env.get env tc = some (.bool b)) (hne : b ≠ want) :
    ∀ (l done : List Nat) (a : Act), Agree N env a → skipped ops done a → segOk N ops env j0 want done l = true → (∀ a', Agree N env a' → Q a') → wpQuiet P ops.toArray C Q (opsAt ops l) a
  | [], _, a, ha, _, _, hK => hK a ha
  | k :: l, done, a, ha, hs, hseg, hK => by
    obtain ⟨o, d, ho, hd, hdN, hfr, hw, hrest, hs'⟩ := seg_head hj0 hb hne ha hs hseg
    rw [opsAt_cons ho]
    unfold wpQuiet
    rw [if_neg (by rw [hw]; simp), hd]
    exact seg_skipQ hj0 hb hne l _ _ (ha.put_fresh hfr _) hs' hrest hK

theorem segOk_fresh {N : Nat} {ops : List Oper} {env : Env} {j0 : Nat} {want : Bool} : ∀ (l done : List Nat), segOk N ops env j0 want done l = true → ∀ o ∈ opsAt ops l, ∀ t v, Env.get env t = some v → o.dst ≠ some t
  | [], _, _, o, ho, _, _, _ => by simp [opsAt] at ho
  | k :: l, done, h, p, hp, t, v, ht => by
    simp only [segOk, Bool.and_eq_true] at h
    cases ho : ops[k]? with
    | none => simp [ho] at h
    | some o =>
      rw [opsAt_cons ho] at hp
      simp only [ho, Bool.and_eq_true] at h
      cases hp with
      | head =>
        intro hd
        have h2 := h.1.2
        rw [hd] at h2
        simp [ht] at h2
      | tail _ hp => exact segOk_fresh l _ h.2 p hp t v ht

theorem Agree.again {N : Nat} {e : Env} {a : Act} (h : Agree N e a) {t : Nat} {v : Value} (hv : Env.get e t = some v) : Agree N ((t, v) :: e) a := by
  refine ⟨h.size, h.defers, fun s u hs => ?_⟩
  cases hb : Nat.beq t s with
  | true =>
    have := Nat.eq_of_beq_eq_true hb
    subst this
    simp only [Env.get, hb] at hs
    injection hs with hs
    subst hs
    exact h.at_ _ _ hv
  | false =>
    simp only [Env.get, hb] at hs
    exact h.at_ s u hs

def SegK (N : Nat) (w0 : World) (S0 : Foot) (ro rw : List SL) (tb : Nat) (r : Bool) (a : Act) (w : World) : Prop :=
  a.tmps.size = N ∧ a.defers = [] ∧ a.tmps[tb]? = some (.bool r) ∧ cls w0 S0 ro rw w
def pickShape : Bool → Operand → Operand → Option Nat
  | true, .tmp t, .const (.bool false) => some t
  | false, .const (.bool true), .tmp t => some t
  | _, _, _ => none
def cmb : Bool → Bool → Bool → Bool
  | true, b, r => b && r
  | false, b, r => b || r
def plainM : Md → Bool
  | .ord => true
  | .quiet => true
  | _ => false
/-- where the guard that operation i stands under is picked up again -/
def gEnd (ops : List Oper) (i : Nat) (lq : List Nat) : Option (List Nat × Nat × List Nat) :=
  match ops[i]? with
  | some o => match o.guard with
    | some (j0, _) => match (ops[j0]?).bind (·.dst) with
      | some tc => seek tc lq
      | none => none
    | none => none
  | none => none
where
  seek (tc : Nat) : List Nat → Option (List Nat × Nat × List Nat)
    | [] => none
    | k :: l => match (match ops[k]? with
        | some o => (match o.op with
          | .pick (.tmp t) _ _ => Nat.beq t tc
          | _ => false)
        | none => false) with
      | true => some ([], k, l)
      | false => match seek tc l with
        | some (a, q, b) => some (k :: a, q, b)
        | none => none
theorem seek_spec {ops : List Oper} {tc : Nat} : ∀ {l a b : List Nat} {q : Nat}, gEnd.seek ops tc l = some (a, q, b) → l = a ++ q :: b
  | [], _, _, _, h => by simp [gEnd.seek] at h
  | k :: l, a, b, q, h => by
    simp only [gEnd.seek] at h
    split at h
    · simp only [Option.some.injEq, Prod.mk.injEq] at h
      obtain ⟨rfl, rfl, rfl⟩ := h
      rfl
    · split at h
      · rename_i a' q' b' hs
        simp only [Option.some.injEq, Prod.mk.injEq] at h
        obtain ⟨rfl, rfl, rfl⟩ := h
        rw [seek_spec hs]
        rfl
      · cases h
theorem gEnd_spec {ops : List Oper} {i q : Nat} {lq a b : List Nat} (h : gEnd ops i lq = some (a, q, b)) : lq = a ++ q :: b := by
  unfold gEnd at h
  split at h
  · split at h
    · split at h
      · exact seek_spec h
      · cases h
    · cases h
  · cases h

section
variable {m : Md} {P : Program} {N : Nat} {w0 : World} {S0 : Foot} {ops : List Oper} {i : Nat} {lq : List Nat} {env : Env} {ro rw : List SL} {K : Act → World → Prop} {d : Nat} {op : Op} {ty : TypeId} {pos : String} {aft : Array Edge} {g : Option (Nat × Bool)}

theorem opsAt_append (l1 l2 : List Nat) : opsAt ops (l1 ++ l2) = opsAt ops l1 ++ opsAt ops l2 := by simp [opsAt]

theorem HO_guard {b r want : Bool} {j0 tc tb d' i' : Nat} {dd : Option Nat} {x y : Operand} {ty' : TypeId} {pos' : String} {aft' : Array Edge} {g' : Option (Nat × Bool)} {sg rest : List Nat} (hm : plainM m = true)
    (ho : ops[i]? = some ⟨dd, op, ty, pos, aft, some (j0, want)⟩) (hsp : gEnd ops i lq = some (sg, i', rest)) (hp : ops[i']? = some ⟨some d', .pick (.tmp tc) x y, ty', pos', aft', g'⟩)
    (hj0 : (ops[j0]?).bind (·.dst) = some tc) (hb : Env.get env tc = some (.bool b)) (hx : pickShape want x y = some tb)
    (hseg : segOk N ops env j0 want [] (i :: sg) = true) (hw : wantE ops env g' = some true) (hN : Nat.blt d' N = true)
    (h1 : b = want → HO m P N w0 S0 ops (i :: sg) ((tc, .bool want) :: env) ro rw (SegK N w0 S0 ro rw tb r))
    (h2 : HO m P N w0 S0 ops rest ((d', .bool (cmb want b r)) :: env) ro rw K) : HO m P N w0 S0 ops (i :: lq) env ro rw K := by
  have hsplit : opsAt ops (i :: lq) = opsAt ops (i :: sg) ++ opsAt ops (i' :: rest) := by
    rw [gEnd_spec hsp, ← opsAt_append]
    rfl
  have hpick : ∀ (a' : Act) (w' : World), Agree N env a' → (b = want → a'.tmps[tb]? = some (.bool r)) →
      (execOp a'.eval ⟨some d', .pick (.tmp tc) x y, ty', pos', aft', g'⟩).run P w' = .ok (.value (.bool (cmb want b r))) w' := by
    intro a' w' ha' htb
    have hc : a'.eval (.tmp tc) = .bool b := ha'.ev (x := .tmp tc) hb
    have ht : b = want → a'.eval (.tmp tb) = .bool r := fun hbw => by simp [Act.eval, Array.getD_eq_getD_getElem?, htb hbw]
    cases want with
    | true =>
      have hxy : x = .tmp tb ∧ y = .const (.bool false) := by
        unfold pickShape at hx
        split at hx <;> simp_all
      obtain ⟨rfl, rfl⟩ := hxy
      cases b with
      | true => simp [execOp, hc, asBool, Sem.run_bind, ht rfl, cmb]
      | false => simp [execOp, hc, asBool, Sem.run_bind, cmb, show a'.eval (.const (.bool false)) = .bool false from rfl]
    | false =>
      have hxy : x = .const (.bool true) ∧ y = .tmp tb := by
        unfold pickShape at hx
        split at hx <;> simp_all
      obtain ⟨rfl, rfl⟩ := hxy
      cases b with
      | true => simp [execOp, hc, asBool, Sem.run_bind, cmb, show a'.eval (.const (.bool true)) = .bool true from rfl]
      | false => simp [execOp, hc, asBool, Sem.run_bind, ht rfl, cmb]
  have hkeep : ∀ {a a' : Act}, Agree N env a → a'.tmps.size = N → a'.defers = [] → (∀ t, (∀ o ∈ opsAt ops (i :: sg), o.dst ≠ some t) → a'.tmps[t]? = a.tmps[t]?) → Agree N env a' :=
    fun ha hs hd hfr => ⟨hs, hd, fun t v ht => (hfr t (fun o ho => segOk_fresh _ _ hseg o ho t v ht)).trans (ha.at_ t v ht)⟩
  cases m with
  | ord =>
    intro a S w ha hf
    rw [hsplit]
    have rest' : ∀ (a' : Act) (w' : World), Agree N env a' → (b = want → a'.tmps[tb]? = some (.bool r)) → cls w0 S0 ro rw w' → wpList P ops.toArray (Kof K) (opsAt ops (i' :: rest)) a' w' := by
      intro a' w' ha' htb ⟨T, hT⟩
      rw [opsAt_cons hp]
      unfold wpList
      rw [if_pos (wantE_ok (o := ⟨some d', .pick (.tmp tc) x y, ty', pos', aft', g'⟩) ha' hw)]
      left
      unfold Oper.wp
      rw [hpick a' w' ha' htb, Oper.upon_value]
      exact h2 _ T w' (ha'.put hN _) hT
    by_cases hbw : b = want
    · have h := h1 hbw a S w (ha.again (by rw [hb, hbw])) hf
      exact wpList_append _ (wpList_keeps _ h) fun a' w' ⟨⟨q1, q2, q3, q4⟩, q5⟩ => rest' a' w' (hkeep ha q1 q2 q5) (fun _ => q3) q4
    · refine wpList_append (K1 := fun a' w' => Agree N env a' ∧ w' = w) _ (seg_skip hj0 hb hbw _ [] a w ha (fun q hq => by cases hq) hseg (fun a' ha' => ⟨ha', rfl⟩)) fun a' w' ⟨ha', hw'⟩ => ?_
      subst hw'
      exact rest' a' w' ha' (fun h => absurd h hbw) ⟨S, hf⟩
  | quiet =>
    intro a ha
    rw [hsplit]
    have rest' : ∀ (a' : Act), Agree N env a' → (b = want → a'.tmps[tb]? = some (.bool r)) → wpQuiet P ops.toArray (cls w0 S0 ro rw) (fun a' => ∀ w', cls w0 S0 ro rw w' → K a' w') (opsAt ops (i' :: rest)) a' := by
      intro a' ha' htb
      rw [opsAt_cons hp]
      unfold wpQuiet
      rw [if_pos (wantE_ok (o := ⟨some d', .pick (.tmp tc) x y, ty', pos', aft', g'⟩) ha' hw)]
      refine ⟨.bool (cmb want b r), fun w' _ => ?_, h2 _ (ha'.put hN _)⟩
      unfold Oper.quietAt
      rw [hpick a' w' ha' htb]
      exact ⟨rfl, rfl⟩
    by_cases hbw : b = want
    · have h := h1 hbw a (ha.again (by rw [hb, hbw]))
      have hk := wpQuiet_keeps _ h
      by_cases hex : ∃ w', cls w0 S0 ro rw w'
      · obtain ⟨w', hw'⟩ := hex
        exact wpQuiet_append _ hk fun a' ⟨q, q5⟩ => rest' a' (hkeep ha (q w' hw').1 (q w' hw').2.1 q5) (fun _ => (q w' hw').2.2.1)
      · exact wpQuiet_none hex _ _
    · exact wpQuiet_append _ (seg_skipQ hj0 hb hbw _ [] a ha (fun q hq => by cases hq) hseg (fun a' ha' => ha')) fun a' ha' => rest' a' ha' (fun h => absurd h hbw)
  | lex ro0 => cases hm
  | pick ro0 => cases hm

theorem HO_and {b r : Bool} {j0 tc tb d' i' : Nat} {dd : Option Nat} {ty' : TypeId} {pos' : String} {aft' : Array Edge} {g' : Option (Nat × Bool)} {sg rest : List Nat} (hm : plainM m = true)
    (ho : ops[i]? = some ⟨dd, op, ty, pos, aft, some (j0, true)⟩) (hsp : gEnd ops i lq = some (sg, i', rest)) (hp : ops[i']? = some ⟨some d', .pick (.tmp tc) (.tmp tb) (.const (.bool false)), ty', pos', aft', g'⟩)
    (hj0 : (ops[j0]?).bind (·.dst) = some tc) (hb : Env.get env tc = some (.bool b)) (hseg : segOk N ops env j0 true [] (i :: sg) = true) (hw : wantE ops env g' = some true) (hN : Nat.blt d' N = true)
    (h1 : b = true → HO m P N w0 S0 ops (i :: sg) ((tc, .bool true) :: env) ro rw (SegK N w0 S0 ro rw tb r))
    (h2 : HO m P N w0 S0 ops rest ((d', .bool (b && r)) :: env) ro rw K) : HO m P N w0 S0 ops (i :: lq) env ro rw K :=
  HO_guard hm ho hsp hp hj0 hb rfl hseg hw hN h1 h2
theorem HO_or {b r : Bool} {j0 tc tb d' i' : Nat} {dd : Option Nat} {ty' : TypeId} {pos' : String} {aft' : Array Edge} {g' : Option (Nat × Bool)} {sg rest : List Nat} (hm : plainM m = true)
    (ho : ops[i]? = some ⟨dd, op, ty, pos, aft, some (j0, false)⟩) (hsp : gEnd ops i lq = some (sg, i', rest)) (hp : ops[i']? = some ⟨some d', .pick (.tmp tc) (.const (.bool true)) (.tmp tb), ty', pos', aft', g'⟩)
    (hj0 : (ops[j0]?).bind (·.dst) = some tc) (hb : Env.get env tc = some (.bool b)) (hseg : segOk N ops env j0 false [] (i :: sg) = true) (hw : wantE ops env g' = some true) (hN : Nat.blt d' N = true)
    (h1 : b = false → HO m P N w0 S0 ops (i :: sg) ((tc, .bool false) :: env) ro rw (SegK N w0 S0 ro rw tb r))
    (h2 : HO m P N w0 S0 ops rest ((d', .bool (b || r)) :: env) ro rw K) : HO m P N w0 S0 ops (i :: lq) env ro rw K :=
  HO_guard hm ho hsp hp hj0 hb rfl hseg hw hN h1 h2

theorem HQ_seg {tb : Nat} {r : Bool} (hr : Env.get env tb = some (.bool r)) : HQ N w0 S0 env ro rw (SegK N w0 S0 ro rw tb r) :=
  fun a S w ha hf => ⟨ha.size, ha.defers, ha.at_ _ _ hr, S, hf⟩
theorem HO_seg {tb : Nat} {r : Bool} (hm : plainM m = true) (hr : Env.get env tb = some (.bool r)) : HO m P N w0 S0 ops [] env ro rw (SegK N w0 S0 ro rw tb r) := by
  cases m with
  | ord => exact HO_done (HQ_seg hr)
  | quiet => exact HO_doneQ (HQ_seg hr)
  | lex ro0 => cases hm
  | pick ro0 => cases hm
end

/-! ## contracts, and calls by them -/
def Tri (P : Program) (g : Nat) (args : List Value) (ro rw : List SL) {α : Type} (φ : α → Prop) (val : α → Value) (es : α → List SL) : Prop :=
  ∀ (w : World) (S : Foot), Fits w S ro rw S w → Calls P g args.toArray w fun e w' => ∃ x T, φ x ∧ e = .returned (val x) ∧ Fits w S ro (es x) T w'

def Ent (e e' : SL) : Prop := ∀ S w, e.p S w → e'.p S w
theorem Ent.rfl_ {e : SL} : Ent e e := fun _ _ h => h
def AllSrc (src : List SL) : List SL → Prop
  | [] => True
  | e :: l => ((∃ e0, e0 ∈ src ∧ Ent e0 e) ∨ (∀ w, e.p (fun _ => False) w)) ∧ AllSrc src l
theorem AllSrc.at_ {src l : List SL} {e : SL} (k : Nat) (hk : src[k]? = some e) (h : AllSrc src l) : AllSrc src (e :: l) := ⟨.inl ⟨e, List.mem_of_getElem? hk, Ent.rfl_⟩, h⟩
theorem AllSrc.via {src l : List SL} {e0 e : SL} (k : Nat) (hk : src[k]? = some e0) (he : Ent e0 e) (h : AllSrc src l) : AllSrc src (e :: l) := ⟨.inl ⟨e0, List.mem_of_getElem? hk, he⟩, h⟩
theorem AllSrc.free {src l : List SL} {e : SL} (he : ∀ w, e.p (fun _ => False) w) (h : AllSrc src l) : AllSrc src (e :: l) := ⟨.inr he, h⟩
theorem AllSrc.get {src : List SL} : ∀ {l : List SL}, AllSrc src l → ∀ e ∈ l, (∃ e0, e0 ∈ src ∧ Ent e0 e) ∨ (∀ w, e.p (fun _ => False) w)
  | e :: l, h, f, hf => by
    cases hf with
    | head => exact h.1
    | tail _ hf => exact AllSrc.get h.2 f hf

/-- a function value: the function, and what it captured -/
def calE : Value → Option (Nat × List Value)
  | .func (.func g) first cap => match first.toList with | [] => some (g, cap.toList) | _ => none
  | _ => none

section
variable {m : Md} {P : Program} {N : Nat} {w0 : World} {S0 : Foot} {ops : List Oper} {i : Nat} {lq : List Nat} {env : Env} {ro rw : List SL} {K : Act → World → Prop} {op : Op} {ty : TypeId} {pos : String} {aft : Array Edge} {g : Option (Nat × Bool)}

theorem evL_spec {N : Nat} {a : Act} (ha : Agree N env a) : ∀ {xs : List Operand} {vs : List Value}, evL env xs = some vs → xs.map a.eval = vs
  | [], vs, h => by simp [evL] at h; simp [h]
  | x :: xs, vs, h => by
    simp only [evL] at h
    cases hx : Env.ev env x with
    | none => simp [hx] at h
    | some v =>
      cases hxs : evL env xs with
      | none => simp [hx, hxs] at h
      | some l =>
        simp [hx, hxs] at h
        subst h
        simp [ha.ev hx, evL_spec ha hxs]

theorem run_enter {f : Operand} {args : List Operand} {tys : Array TypeId} {vf : Value} {vs cap : List Value} {gn : Nat} [hf : FnOk P gn] {a : Act} (ha : Agree N env a) {dst : Option Nat}
    (hvf : Env.ev env f = some vf) (hc : calE vf = some (gn, cap)) (hvs : evL env args = some vs) (w : World) :
    (execOp a.eval ⟨dst, .call { callee := .value f, args := args.toArray, argTypes := tys }, ty, pos, aft, g⟩).run P w = .ok (.enter gn (vs ++ cap).toArray) w := by
  have hfn := hf.h
  unfold fnB at hfn
  obtain ⟨captured, rfl, rfl⟩ : ∃ captured : Array Value, vf = .func (.func gn) #[] captured ∧ cap = captured.toList := by
    cases vf <;> first | (cases hc; done) | skip
    rename_i fn first captured
    cases fn <;> first | (cases hc; done) | skip
    rename_i gn'
    obtain ⟨fl⟩ := first
    cases fl with
    | nil =>
      simp [calE] at hc
      exact ⟨captured, by rw [hc.1], hc.2.symm⟩
    | cons _ _ => simp [calE] at hc
  cases hp : P.funcs[gn]? with
  | none => simp [hp] at hfn
  | some fn =>
    simp only [hp, Bool.and_eq_true, bne_iff_ne] at hfn
    have hm := evL_spec ha hvs
    have hb : fn.body.isNone = false := by cases hbb : fn.body <;> simp [hbb] at hfn ⊢
    have hn : (fn.name == "runtime.NumGoroutine") = false := by simpa using hfn.2
    simp only [execOp, resolve, ha.ev hvf, Deferred.ofValue, Sem.run_bind, Sem.run_pure, Result.andThen_ok, invoke, callFunc, run_program, hp, hn, hb, Bool.false_eq_true, if_false]
    simp [← hm]

/-- A call: the pieces that the callee may change stand first. -/
theorem call_wp {f : Operand} {args : List Operand} {tys : Array TypeId} {dst : Option Nat} {vf : Value} {vs cap : List Value} {gn : Nat} [hf : FnOk P gn] {roC rwC rest : List SL} {α : Type} {φ : α → Prop} {val : α → Value} {es : α → List SL}
    (hvf : Env.ev env f = some vf) (hc : calE vf = some (gn, cap)) (hvs : evL env args = some vs)
    (hT : Tri P gn (vs ++ cap) roC rwC φ val es) (hro : AllSrc (ro ++ rest) roC)
    (w1 : World) (S1 : Foot) (a : Act) (S : Foot) (w : World) (n : Act → World → Prop) (ha : Agree N env a) (hf' : Fits w1 S1 ro (rwC ++ rest) S w) (hn : ∀ x S' w', φ x → Fits w1 S1 ro (es x ++ rest) S' w' → n (a.put dst (val x)) w') :
    (⟨dst, .call { callee := .value f, args := args.toArray, argTypes := tys }, ty, pos, aft, g⟩ : Oper).wp P a w n (Kof K) := by
  unfold Oper.wp
  rw [run_enter ha hvf hc hvs w, Oper.upon_enter]
  obtain ⟨A, hA, hAS, hAl, hr1, hr2, hk⟩ := hf'.step
  have hfit : Fits w A roC rwC A w := ⟨Fr.refl _ _, hAl, fun b hb => .inl hb, hA, fun e he => by
    rcases hro.get e he with ⟨e0, h0, hent⟩ | hfree
    case inr => exact ⟨fun _ => False, fun _ h => h.elim, hfree w⟩
    rcases List.mem_append.1 h0 with h0 | h0
    · obtain ⟨F, hF, hp⟩ := hr1 e0 h0
      exact ⟨F, hF, hent _ _ hp⟩
    · obtain ⟨F, hF, hp⟩ := hr2 e0 h0
      exact ⟨F, hF, hent _ _ hp⟩⟩
  refine (hT w A hfit).mono fun e w' ⟨x, T, hx, he, hfx⟩ => ?_
  subst he
  obtain ⟨T', hT'⟩ := hk w' T (es x) hfx.fr hfx.lt hfx.sub hfx.star
  exact hn x T' w' hx hT'

theorem HO_call {f : Operand} {args : List Operand} {tys : Array TypeId} {d : Nat} {vf : Value} {vs cap : List Value} {gn : Nat} [hf : FnOk P gn] {roC rwC rest : List SL} {α : Type} {φ : α → Prop} {val : α → Value} {es : α → List SL}
    (ho : ops[i]? = some ⟨some d, .call { callee := .value f, args := args.toArray, argTypes := tys }, ty, pos, aft, g⟩)
    (hvf : Env.ev env f = some vf) (hc : calE vf = some (gn, cap)) (hvs : evL env args = some vs)
    (hT : Tri P gn (vs ++ cap) roC rwC φ val es) (hrw : rw = rwC ++ rest) (hro : AllSrc (ro ++ rest) roC)
    (hw : wantE ops env g = some true) (hN : Nat.blt d N = true) (hs : soleB m ops i lq = true)
    (h : ∀ x, φ x → HO (nmM m) P N w0 S0 ops lq ((d, val x) :: env) ro (es x ++ rest) K) : HO m P N w0 S0 ops (i :: lq) env ro rw K := by
  subst hrw
  exact HO_do (φ := φ) (val := val) (rw' := fun x => es x ++ rest) ho hw hs hN (fun w1 S1 a S w n ha hf' hn => call_wp hvf hc hvs hT hro w1 S1 a S w n ha hf' hn) h
/-- The same without a place for the result. -/
theorem HO_call0 {f : Operand} {args : List Operand} {tys : Array TypeId} {vf : Value} {vs cap : List Value} {gn : Nat} [hf : FnOk P gn] {roC rwC rest : List SL} {α : Type} {φ : α → Prop} {val : α → Value} {es : α → List SL}
    (ho : ops[i]? = some ⟨none, .call { callee := .value f, args := args.toArray, argTypes := tys }, ty, pos, aft, g⟩)
    (hvf : Env.ev env f = some vf) (hc : calE vf = some (gn, cap)) (hvs : evL env args = some vs)
    (hT : Tri P gn (vs ++ cap) roC rwC φ val es) (hrw : rw = rwC ++ rest) (hro : AllSrc (ro ++ rest) roC)
    (hw : wantE ops env g = some true) (hs : soleB m ops i lq = true)
    (h : ∀ x, φ x → HO (nmM m) P N w0 S0 ops lq env ro (es x ++ rest) K) : HO m P N w0 S0 ops (i :: lq) env ro rw K := by
  subst hrw
  exact HO_do (φ := φ) (val := val) (rw' := fun x => es x ++ rest) ho hw hs rfl (fun w1 S1 a S w n ha hf' hn => call_wp hvf hc hvs hT hro w1 S1 a S w n ha hf' hn) h

def soleQ (m : Md) (ops : List Oper) (i : Nat) (l : List Nat) : Bool := match m with
  | .quiet => true
  | m => soleB m ops i l
theorem soleQ_quiet {ops : List Oper} {i : Nat} {l : List Nat} : soleQ .quiet ops i l = true := rfl
theorem soleQ_ord {ops : List Oper} {i : Nat} {l : List Nat} : soleQ .ord ops i l = true := rfl
theorem soleQ_lex {ro0 : List SL} {ops : List Oper} {i : Nat} {l : List Nat} (h : soleL ops i l = true) : soleQ (.lex ro0) ops i l = true := h
theorem soleQ_pick {ro0 : List SL} {ops : List Oper} {i : Nat} {l : List Nat} (h : (!(memN i l) && Nat.blt i ops.length) = true) : soleQ (.pick ro0) ops i l = true := h
/-- A call whose result is known beforehand and that leaves nothing: in any order. -/
theorem HO_callq {f : Operand} {args : List Operand} {tys : Array TypeId} {d : Nat} {vf v : Value} {vs cap : List Value} {gn : Nat} [hf : FnOk P gn] {roC : List SL} {α : Type} {φ : α → Prop} {val : α → Value} {es : α → List SL}
    (ho : ops[i]? = some ⟨some d, .call { callee := .value f, args := args.toArray, argTypes := tys }, ty, pos, aft, g⟩)
    (hvf : Env.ev env f = some vf) (hc : calE vf = some (gn, cap)) (hvs : evL env args = some vs)
    (hT : Tri P gn (vs ++ cap) roC [] φ val es) (hval : ∀ x, φ x → val x = v) (hro : AllSrc (ro ++ rw) roC)
    (hw : wantE ops env g = some true) (hN : Nat.blt d N = true) (hs : soleQ m ops i lq = true)
    (h : HO (nmM m) P N w0 S0 ops lq ((d, v) :: env) ro rw K) : HO m P N w0 S0 ops (i :: lq) env ro rw K := by
  have hT' : Tri P gn (vs ++ cap) roC [] (fun _ : Unit => True) (fun _ => v) (fun _ => []) := fun w S hfit => (hT w S hfit).mono fun e w' ⟨x, T, hx, he, hfx⟩ =>
    ⟨(), T, trivial, by rw [he, hval x hx], hfx.fr, hfx.lt, hfx.sub, trivial, hfx.ros⟩
  have hdo : soleB m ops i lq = true → HO m P N w0 S0 ops (i :: lq) env ro rw K := fun hs' =>
    HO_call (rest := rw) ho hvf hc hvs hT' rfl hro hw hN hs' (fun _ _ => h)
  cases m with
  | ord => exact hdo hs
  | lex ro0 => exact hdo hs
  | pick ro0 => exact hdo hs
  | quiet =>
    intro a ha
    rw [opsAt_cons ho]
    unfold wpQuiet
    rw [if_pos (wantE_ok (o := ⟨some d, .call { callee := .value f, args := args.toArray, argTypes := tys }, ty, pos, aft, g⟩) ha hw)]
    refine ⟨v, fun w ⟨S, hf'⟩ => ?_, h _ (ha.put hN _)⟩
    unfold Oper.quietAt
    rw [run_enter ha hvf hc hvs w]
    refine ⟨rfl, ?_⟩
    obtain ⟨A, hA, hAS, hAl, hr1, hr2, hk⟩ := Fits.step (cs := []) (rest := rw) hf'
    have hfit : Fits w (fun _ => False) roC [] (fun _ => False) w := ⟨Fr.refl _ _, fun _ h => h.elim, fun _ h => h.elim, trivial, fun e he => by
      rcases hro.get e he with ⟨e0, h0, hent⟩ | hfree
      case inr => exact ⟨fun _ => False, fun _ h => h.elim, hfree w⟩
      rcases List.mem_append.1 h0 with h0 | h0
      · obtain ⟨F, hF, hp⟩ := hr1 e0 h0
        exact ⟨F, fun b hb => ⟨(hF b hb).1, fun h => h⟩, hent _ _ hp⟩
      · obtain ⟨F, hF, hp⟩ := hr2 e0 h0
        exact ⟨F, fun b hb => ⟨(hF b hb).1, fun h => h⟩, hent _ _ hp⟩⟩
    exact (hT w _ hfit).mono fun e w' ⟨x, T, hx, he, hfx⟩ => ⟨by rw [he, hval x hx], hf'.grow hfx.fr.toBelow⟩
end

/-! ## a function's beginning and its end -/
def zipE : List Value → Nat → Option Env
  | [], _ => some []
  | v :: vs, k => match zipE vs (k + 1) with
    | some e => some ((k, v) :: e)
    | none => none
theorem zipE_spec : ∀ {vs : List Value} {k : Nat} {e : Env}, zipE vs k = some e → ∀ t v, Env.get e t = some v → k ≤ t ∧ vs[t - k]? = some v
  | [], k, e, h, t, v, ht => by simp [zipE] at h; subst h; simp [Env.get] at ht
  | u :: vs, k, e, h, t, v, ht => by
    simp only [zipE] at h
    cases hz : zipE vs (k + 1) with
    | none => simp [hz] at h
    | some e' =>
      simp [hz] at h
      subst h
      cases hb : Nat.beq k t with
      | true =>
        have := Nat.eq_of_beq_eq_true hb
        subst this
        simp only [Env.get, hb] at ht
        simpa using ht
      | false =>
        simp only [Env.get, hb] at ht
        obtain ⟨h1, h2⟩ := zipE_spec hz t v ht
        refine ⟨by omega, ?_⟩
        rw [show t - k = (t - (k + 1)) + 1 from by omega]
        simpa using h2

def Post (w0 : World) (S0 : Foot) (ro : List SL) {α : Type} (φ : α → Prop) (val : α → Value) (es : α → List SL) (e : Ending) (w : World) : Prop :=
  ∃ x T, φ x ∧ e = .returned (val x) ∧ Fits w0 S0 ro (es x) T w

/-- slots that only this region reads: what is no variable's, but the last one -/
def tmpsOf0 : List Oper → List Nat
  | [] => []
  | [_] => []
  | o :: l => match o.dst with
    | none => tmpsOf0 l
    | some d => match o.op with
      | .assign _ | .alloc _ | .box _ _ => tmpsOf0 l
      | _ => d :: tmpsOf0 l
/-- a loop's head over a range: its slots are read by the rounds -/
def headB : List Oper → Bool
  | [] => false
  | [o] => match o.op with
    | .move (.const _) => true
    | _ => false
  | _ :: l => headB l
def tmpsOf (l : List Oper) : List Nat := match headB l with
  | true => []
  | false => tmpsOf0 l
def gcE : Env → List Nat → Option Env
  | [], _ => some []
  | (t, v) :: e, seen => match memN t seen with
    | true => gcE e seen
    | false => match gcE e (t :: seen) with
      | some r => some ((t, v) :: r)
      | none => none
theorem gcE_get : ∀ {e : Env} {seen : List Nat} {r : Env}, gcE e seen = some r → ∀ t v, Env.get r t = some v → memN t seen = false ∧ Env.get e t = some v
  | [], seen, r, h, t, v, ht => by simp [gcE] at h; subst h; simp [Env.get] at ht
  | (s, u) :: e, seen, r, h, t, v, ht => by
    simp only [gcE] at h
    cases hm : memN s seen with
    | true =>
      simp only [hm] at h
      obtain ⟨h1, h2⟩ := gcE_get h t v ht
      refine ⟨h1, ?_⟩
      cases hb : Nat.beq s t with
      | true =>
        have := Nat.eq_of_beq_eq_true hb
        subst this
        rw [hm] at h1; cases h1
      | false => simp only [Env.get, hb]; exact h2
    | false =>
      simp only [hm] at h
      cases hg : gcE e (s :: seen) with
      | none => simp [hg] at h
      | some q =>
        simp [hg] at h
        subst h
        cases hb : Nat.beq s t with
        | true =>
          have := Nat.eq_of_beq_eq_true hb
          subst this
          simp only [Env.get, hb] at ht ⊢
          exact ⟨hm, ht⟩
        | false =>
          simp only [Env.get, hb] at ht ⊢
          obtain ⟨h1, h2⟩ := gcE_get hg t v ht
          simp only [memN, hb] at h1
          exact ⟨h1, h2⟩
section
variable {P : Program} {N : Nat} {w0 : World} {S0 : Foot} {ops : List Oper} {env env' : Env} {ro rw : List SL} {Q : Exit → Act → World → Prop}
theorem HO_doneG (hg : gcE env (tmpsOf ops) = some env') (h : HX N w0 S0 .normal env' ro rw Q) : HO .ord P N w0 S0 ops [] env ro rw (Q .normal) :=
  HO_done (fun a S w ha hf => h a S w ⟨ha.size, ha.defers, fun t v ht => ha.at_ t v (gcE_get hg t v ht).2⟩ hf)
theorem HO_doneGQ (hg : gcE env (tmpsOf ops) = some env') (h : HX N w0 S0 .normal env' ro rw Q) : HO .quiet P N w0 S0 ops [] env ro rw (Q .normal) :=
  HO_doneQ (fun a S w ha hf => h a S w ⟨ha.size, ha.defers, fun t v ht => ha.at_ t v (gcE_get hg t v ht).2⟩ hf)
def takeO : Nat → List SL → Option (List SL)
  | 0, _ => some []
  | _ + 1, [] => none
  | n + 1, e :: l => match takeO n l with
    | some r => some (e :: r)
    | none => none
def appO : List SL → List SL → Option (List SL)
  | [], m => some m
  | e :: l, m => match appO l m with
    | some r => some (e :: r)
    | none => none
theorem appO_eq : ∀ {l m r : List SL}, appO l m = some r → r = l ++ m
  | [], _, _, h => by simp [appO] at h; simp [h]
  | e :: l, m, r, h => by
    simp only [appO] at h
    cases hs : appO l m with
    | none => simp [hs] at h
    | some q => simp [hs] at h; subst h; simp [appO_eq hs]
theorem HO_doneGL {ro0 held rw' : List SL} (hh : takeO (ro.length - ro0.length) ro = some held) (hro : ro = held ++ ro0) (hr : Region.ready .any ops.toArray (dlist ops []) = []) (hg : gcE env (tmpsOf ops) = some env') (ha : appO held rw = some rw')
    (h : HX N w0 S0 .normal env' ro0 rw' Q) : HO (.lex ro0) P N w0 S0 ops [] env ro rw (Q .normal) := by
  have := appO_eq ha
  subst this
  exact HO_doneL hro hr (fun a S w ha hf => h a S w ⟨ha.size, ha.defers, fun t v ht => ha.at_ t v (gcE_get hg t v ht).2⟩ hf)
/-- the region's last store, behind every other operation, may write what was held -/
theorem HO_lastG {ro0 held rw' : List SL} {L : Nat} {K : Act → World → Prop} (hL : (lastB ops.toArray && Nat.beq L (ops.toArray.size - 1) && Nat.blt L ops.length) = true) (hh : takeO (ro.length - ro0.length) ro = some held) (hro : ro = held ++ ro0)
    (hr : Region.ready .any ops.toArray (dlist ops [L]) = [L]) (hr0 : Region.ready .any ops.toArray (dlist ops []) = []) (ha : appO held rw = some rw')
    (h : HO .ord P N w0 S0 ops [L] env ro0 rw' K) : HO (.lex ro0) P N w0 S0 ops [L] env ro rw K := by
  have := appO_eq ha
  subst this
  exact HO_lastL hro hL hr hr0 h
end
theorem HC_condT {P : Program} {N : Nat} {w0 : World} {S0 : Foot} {c : Code} {env : Env} {ro rw : List SL} {Q : Exit → Act → World → Prop} (hk : isCond c = true) (hv : Env.ev env (cCond c) = some (.bool true)) (h : HC P N w0 S0 (cT c) env ro rw Q) :
    HC P N w0 S0 c env ro rw Q := HC_cond hk hv (fun _ => h) (fun h => by cases h)
theorem HC_condF {P : Program} {N : Nat} {w0 : World} {S0 : Foot} {c : Code} {env : Env} {ro rw : List SL} {Q : Exit → Act → World → Prop} (hk : isCond c = true) (hv : Env.ev env (cCond c) = some (.bool false)) (h : HC P N w0 S0 (cE c) env ro rw Q) :
    HC P N w0 S0 c env ro rw Q := HC_cond hk hv (fun h => by cases h) (fun _ => h)

theorem Tri_of {P : Program} {g N : Nat} {fn : Func} {c : Code} {args : List Value} {ro rw : List SL} {α : Type} {φ : α → Prop} {val : α → Value} {es : α → List SL} {env : Env}
    (hf : P.funcs[g]? = some fn) (hb : fn.body = some c) (hn : fn.ntmps = N) (he : zipE args 0 = some env) (hle' : Nat.ble args.length N = true)
    (h : ∀ (w0 : World) (S0 : Foot), HC P N w0 S0 c env ro rw (bodyPost P fn (Post w0 S0 ro φ val es))) : Tri P g args ro rw φ val es := by
  have hle : args.length ≤ N := by simpa using hle'
  intro w S hfit
  refine calls_of_wp hf hb (h w S _ S w ⟨?_, rfl, fun t v ht => ?_⟩ hfit)
  · simp [hn]; omega
  · have h2 := (zipE_spec he t v ht).2
    simp only [Nat.sub_zero] at h2
    have hlt := (List.getElem?_eq_some_iff.1 h2).1
    simpa [Array.getElem?_append, hlt] using h2

/-- what a function hands back, read off its slots -/
def resV (a : Act) : ResultVar → Sem Value
  | .tmp t => pure (a.tmps.getD t undef)
  | .cell t T => do loadVar T (← asAddr (a.tmps.getD t undef))
def ResAll (P : Program) (N : Nat) (w0 : World) (S0 : Foot) (env : Env) (ro rw : List SL) : List ResultVar → List Value → Prop
  | [], [] => True
  | r :: rs, v :: vs => (∀ a S w, Agree N env a → Fits w0 S0 ro rw S w → (resV a r).run P w = .ok v w) ∧ ResAll P N w0 S0 env ro rw rs vs
  | _, _ => False
def tupV : List Value → Value
  | [v] => v
  | vs => .tuple vs.toArray

section
variable {P : Program} {N : Nat} {w0 : World} {S0 : Foot} {env : Env} {ro rw : List SL} {rs : List ResultVar} {vs : List Value}
theorem Res_nil : ResAll P N w0 S0 env ro rw [] [] := trivial
theorem Res_tmp {t : Nat} {v : Value} (hv : Env.get env t = some v) (h : ResAll P N w0 S0 env ro rw rs vs) : ResAll P N w0 S0 env ro rw (.tmp t :: rs) (v :: vs) :=
  ⟨fun a S w ha _ => by simp [resV, Array.getD_eq_getD_getElem?, ha.at_ t v hv], h⟩
theorem Res_cell1 {t T b off U : Nat} {v : Value} {cs : List Value} (k : Nat) [hT : TyOne P T] (hp : Env.get env t = some (.pointer (some ⟨b, off, none⟩))) (hk : (ro ++ rw)[k]? = some (cel b U cs)) (hv : cs[off]? = some v)
    (h : ResAll P N w0 S0 env ro rw rs vs) : ResAll P N w0 S0 env ro rw (.cell t T :: rs) (v :: vs) :=
  ⟨fun a S w ha hf => by
    obtain ⟨F, _, hc⟩ := hf.see (List.mem_of_getElem? hk)
    simp [resV, Array.getD_eq_getD_getElem?, ha.at_ t _ hp, asAddr, Sem.run_bind, run_loadVar_one w hT.h ((cel_cell hc off).trans hv)], h⟩
theorem Res_celln {t T b off U n : Nat} {l cs : List Value} (k : Nat) [hT : TyAgg P T n] (hp : Env.get env t = some (.pointer (some ⟨b, off, none⟩))) (hk : (ro ++ rw)[k]? = some (cel b U cs)) (hv : subL cs off n = some l)
    (h : ResAll P N w0 S0 env ro rw rs vs) : ResAll P N w0 S0 env ro rw (.cell t T :: rs) (.agg l.toArray :: vs) :=
  ⟨fun a S w ha hf => by
    obtain ⟨F, _, hc⟩ := hf.see (List.mem_of_getElem? hk)
    obtain ⟨hl, hcc⟩ := subL_spec _ _ _ _ hv
    subst hl
    have := run_loadVar_agg (P := P) (T := T) w (a := ⟨b, off, none⟩) hT.h (fun k v hkv => by
      rw [addr_add, cel_cell hc, hcc k (by have := (List.getElem?_eq_some_iff.1 hkv).1; exact this)]
      exact hkv)
    simp [resV, Array.getD_eq_getD_getElem?, ha.at_ t _ hp, asAddr, Sem.run_bind, this], h⟩

theorem ResAll.run : ∀ {rs : List ResultVar} {vs : List Value}, ResAll P N w0 S0 env ro rw rs vs → ∀ (a : Act) (S : Foot) (w : World), Agree N env a → Fits w0 S0 ro rw S w →
    (rs.mapM (resV a)).run P w = .ok vs w
  | [], [], _, a, S, w, _, _ => by simp [List.mapM_nil]
  | r :: rs, v :: vs, h, a, S, w, ha, hf => by
    simp only [List.mapM_cons, Sem.run_bind, h.1 a S w ha hf, Result.andThen_ok, ResAll.run h.2 a S w ha hf]
    simp
  | [], _ :: _, h, _, _, _, _, _ => False.elim h
  | _ :: _, [], h, _, _, _, _, _ => False.elim h

theorem results_run {fn : Func} (hr : ResAll P N w0 S0 env ro rw fn.results.toList vs) {a : Act} {S : Foot} {w : World} (ha : Agree N env a) (hf : Fits w0 S0 ro rw S w) : (results fn a.tmps).run P w = .ok (tupV vs) w := by
  have h1 := ResAll.run hr a S w ha hf
  have h2 : results fn a.tmps = (fn.results.mapM (resV a) >>= fun vs => pure (if h : vs.size = 1 then vs[0] else .tuple vs)) := by
    unfold results
    congr 1
  rw [h2, ← Array.toArray_toList (xs := fn.results), List.mapM_toArray]
  simp only [map_eq_pure_bind, Sem.run_bind, h1, Result.andThen_ok, Sem.run_pure]
  match vs with
  | [] => simp [tupV]
  | [v] => simp [tupV]
  | v :: u :: l => simp [tupV]

/-- what of the pieces is kept, in whatever form -/
def Keeps (rw rw' : List SL) : Prop := ∀ S w, Star rw S w → ∃ T : Foot, (∀ b, T b → S b) ∧ Star rw' T w
theorem Keeps.nil {rw : List SL} : Keeps rw [] := fun _ _ _ => ⟨fun _ => False, fun _ h => h.elim, trivial⟩
theorem Keeps.refl {rw : List SL} : Keeps rw rw := fun S _ h => ⟨S, fun _ h => h, h⟩
theorem Keeps.skip {e : SL} {rw rw' : List SL} (h : Keeps rw rw') : Keeps (e :: rw) rw' := fun S w ⟨A, B, _, hB, _, _, hs⟩ => by
  obtain ⟨T, h1, h2⟩ := h B w hs
  exact ⟨T, fun b hb => hB b (h1 b hb), h2⟩
theorem Keeps.cons {e e' : SL} {rw rw' : List SL} (he : Ent e e') (h : Keeps rw rw') : Keeps (e :: rw) (e' :: rw') := fun S w ⟨A, B, hA, hB, hd, hp, hs⟩ => by
  obtain ⟨T, h1, h2⟩ := h B w hs
  exact ⟨S, fun _ h => h, A, T, hA, fun b hb => hB b (h1 b hb), fun b ha hb => hd b ha (h1 b hb), he _ _ hp, h2⟩
theorem Keeps.pull {rw rw' : List SL} (k : Nat) {e : SL} (hk : rw[k]? = some e) (h : Keeps (e :: rw.eraseIdx k) rw') : Keeps rw rw' := fun S w hs => by
  obtain ⟨A, B, hA, hB, hd, he, hr⟩ := hs.take_ hk
  exact h S w ⟨A, B, hA, hB, hd, he, hr⟩
theorem Keeps.add {e : SL} {rw rw' : List SL} (he : ∀ w, e.p (fun _ => False) w) (h : Keeps rw rw') : Keeps rw (e :: rw') := fun S w hs => by
  obtain ⟨T, h1, h2⟩ := h S w hs
  exact ⟨T, h1, fun _ => False, T, fun _ h => h.elim, fun _ h => h, fun _ h => h.elim, he w, h2⟩
theorem Fits.keeps {rw' : List SL} (hk : Keeps rw rw') {S : Foot} {w : World} (h : Fits w0 S0 ro rw S w) : ∃ T, Fits w0 S0 ro rw' T w := by
  obtain ⟨T, h1, h2⟩ := hk S w h.star
  refine ⟨T, h.fr, fun b hb => h.lt b (h1 b hb), fun b hb => h.sub b (h1 b hb), h2, fun e he => ?_⟩
  obtain ⟨F, hF, hp⟩ := h.ros e he
  exact ⟨F, fun b hb => ⟨(hF b hb).1, fun hc => (hF b hb).2 (h1 b hc)⟩, hp⟩
theorem HX_keeps {rw' : List SL} {e : Exit} {Q : Exit → Act → World → Prop} (hk : Keeps rw rw') (h : HX N w0 S0 e env ro rw' Q) : HX N w0 S0 e env ro rw Q := fun a S w ha hf => by
  obtain ⟨T, hT⟩ := hf.keeps hk
  exact h a T w ha hT

def RetQ (vs : List Value) (rw : List SL) {α : Type} (φ : α → Prop) (val : α → Value) (es : α → List SL) : Prop := ∃ x, φ x ∧ tupV vs = val x ∧ Keeps rw (es x)
theorem HX_ret {fn : Func} {α : Type} {φ : α → Prop} {val : α → Value} {es : α → List SL} (hr : ResAll P N w0 S0 env ro rw fn.results.toList vs) (h : RetQ vs rw φ val es) :
    HX N w0 S0 .ret env ro rw (bodyPost P fn (Post w0 S0 ro φ val es)) := by
  obtain ⟨x, hφ, hv, hk⟩ := h
  exact fun a S w ha hf => by
    obtain ⟨T, hT⟩ := hf.keeps hk
    exact ⟨ha.defers, tupV vs, results_run hr ha hf, x, T, hφ, by rw [hv], hT⟩
theorem HX_retn {fn : Func} {α : Type} {φ : α → Prop} {val : α → Value} {es : α → List SL} (hr : ResAll P N w0 S0 env ro rw fn.results.toList vs) (h : RetQ vs rw φ val es) :
    HX N w0 S0 .normal env ro rw (bodyPost P fn (Post w0 S0 ro φ val es)) := by
  obtain ⟨x, hφ, hv, hk⟩ := h
  exact fun a S w ha hf => by
    obtain ⟨T, hT⟩ := hf.keeps hk
    exact ⟨ha.defers, tupV vs, results_run hr ha hf, x, T, hφ, by rw [hv], hT⟩

theorem HQ_drop {K : Act → World → Prop} (k : Nat) {e : SL} (hk : rw[k]? = some e) (h : HQ N w0 S0 env ro (rw.eraseIdx k) K) : HQ N w0 S0 env ro rw K := fun a _ w ha hf => by
  obtain ⟨T, hT⟩ := hf.give hk
  exact h a T w ha ⟨hT.fr, hT.lt, hT.sub, hT.star, fun f hm => hT.ros f (List.mem_cons_of_mem _ hm)⟩
theorem HX_nil {e : Exit} {Q : Exit → Act → World → Prop} (h : HX N w0 S0 e env ro [] Q) : HX N w0 S0 e env ro rw Q := fun a S w ha hf => h a S w ha ⟨hf.fr, hf.lt, hf.sub, trivial, hf.ros⟩
theorem HX_drop {e : Exit} {Q : Exit → Act → World → Prop} (k : Nat) {f : SL} (hk : rw[k]? = some f) (h : HX N w0 S0 e env ro (rw.eraseIdx k) Q) : HX N w0 S0 e env ro rw Q := HQ_drop k hk h
theorem HQ_nil {K : Act → World → Prop} (h : HQ N w0 S0 env ro [] K) : HQ N w0 S0 env ro rw K := fun a S w ha hf => h a S w ha ⟨hf.fr, hf.lt, hf.sub, trivial, hf.ros⟩
end
end Go.Proofs.YtdeeokkkcfkbjaaDoor
