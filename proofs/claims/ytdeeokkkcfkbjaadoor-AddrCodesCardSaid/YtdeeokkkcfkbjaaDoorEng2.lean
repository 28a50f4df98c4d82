/- The symbolic walk through one region: the operations that are left, in order, or (a region that draws) in whatever order. -/
import Derived.Test.YtdeeokkkcfkbjaaDoorEng
namespace Go.Proofs.YtdeeokkkcfkbjaaDoor
set_option linter.unusedVariables false
set_option linter.unusedSimpArgs false
open Go.RowKit

def Kof (K : Act → World → Prop) : Exit → Act → World → Prop
  | .normal, a, w => K a w
  | _, _, _ => False
theorem LetsOut_Kof {K K' : Act → World → Prop} (h : LetsOut (Kof K)) : LetsOut (Kof K') := by obtain ⟨_, _, h⟩ := h; exact h.elim

def cls (w0 : World) (S0 : Foot) (ro rw : List SL) (w : World) : Prop := ∃ S, Fits w0 S0 ro rw S w
/-- pieces that can be read -/
def RoOk (es : List SL) (w : World) : Prop := ∀ e ∈ es, ∃ F : Foot, (∀ b, F b → b < w.heap.size) ∧ e.p F w
theorem Fits.roOk {w0 : World} {S0 : Foot} {ro rw : List SL} {S : Foot} {w : World} (h : Fits w0 S0 ro rw S w) : RoOk (ro ++ rw) w := fun _ he => h.see he

/-- ord: as they stand; quiet: in whatever order, all of them quiet; lex: in whatever order, each time an operation that reads alone is taken first; pick: the first one is taken now -/
inductive Md where
  | ord | quiet | lex (ro0 : List SL) | pick (ro0 : List SL)
def seeL : Md → List SL → List SL → List SL
  | .ord, ro, rw => ro ++ rw
  | .quiet, ro, rw => ro ++ rw
  | .lex _, ro, _ => ro
  | .pick _, ro, _ => ro
@[reducible] def nmM : Md → Md
  | .pick ro0 => .lex ro0
  | m => m

def memN (t : Nat) : List Nat → Bool
  | [] => false
  | s :: l => match Nat.beq s t with | true => true | false => memN t l
theorem memN_iff {t : Nat} : ∀ {l : List Nat}, memN t l = true ↔ t ∈ l
  | [] => by simp [memN]
  | s :: l => by
    simp only [memN]
    cases hb : Nat.beq s t with
    | true => have := Nat.eq_of_beq_eq_true hb; subst this; simp
    | false =>
      have hne : t ≠ s := fun e => by subst e; simp at hb
      simp [memN_iff (l := l), hne]

def opsAt (ops : List Oper) (l : List Nat) : List Oper := l.filterMap (ops[·]?)
def dlist (ops : List Oper) (l : List Nat) : Array Bool := ((List.range ops.length).map fun i => !(memN i l)).toArray
theorem dlist_set {ops : List Oper} {i : Nat} {l : List Nat} (hi : memN i l = false) : (dlist ops (i :: l)).setIfInBounds i true = dlist ops l := by
  apply Array.ext_getElem?
  intro k
  simp only [dlist, Array.getElem?_setIfInBounds, List.getElem?_toArray, List.getElem?_map, List.size_toArray, List.length_map, List.length_range]
  by_cases hk : k < ops.length
  · rw [List.getElem?_range hk]
    by_cases hik : i = k
    · subst hik
      simp [hk, hi]
    · have hb : Nat.beq i k = false := by
        cases hb : Nat.beq i k with
        | true => exact absurd (Nat.eq_of_beq_eq_true hb) hik
        | false => rfl
      simp [hik, memN, hb]
  · rw [List.getElem?_eq_none (by simp; omega)]
    by_cases hik : i = k
    · subst hik; simp [hk]
    · simp [hik]

/-- the region ends in a store that comes, by the edges, after every other operation -/
def lastB (ops : Array Oper) : Bool := match ops[ops.size - 1]? with
  | none => false
  | some o => match o.op with
    | .store _ _ _ => (List.range (ops.size - 1)).all fun i => (List.range ops.size).any fun k => Nat.blt i k && match ops[k]? with
      | none => false
      | some ok => ok.after.any fun e => Region.binds .any e && Nat.beq e.on i
    | _ => false
def Closed (ops : Array Oper) (listed : Array Bool) : Prop := ∀ (k : Nat) (o : Oper), ops[k]? = some o → listed.getD k false = true → ∀ e ∈ o.after, Region.binds .any e = true → listed.getD e.on false = true
/-- the last store is listed -/
def exB (ops : Array Oper) (listed : Array Bool) : Bool := lastB ops && listed.getD (ops.size - 1) false
theorem Closed.below {ops : Array Oper} {listed : Array Bool} (hc : Closed ops listed) (hl : lastB ops = true) (h : listed.getD (ops.size - 1) false = true) : ∀ (n i : Nat), i + n = ops.size - 1 → listed.getD i false = true := by
  intro n
  induction n using Nat.strongRecOn with
  | _ n ih =>
    intro i hi
    cases n with
    | zero =>
      have : i = ops.size - 1 := by omega
      rw [this]; exact h
    | succ n =>
      unfold lastB at hl
      split at hl
      · cases hl
      · split at hl
        · rw [List.all_eq_true] at hl
          have h1 := hl i (List.mem_range.2 (by omega))
          rw [List.any_eq_true] at h1
          obtain ⟨k, hk, h2⟩ := h1
          rw [Bool.and_eq_true, Nat.blt_eq] at h2
          obtain ⟨hik, h3⟩ := h2
          have hk' := List.mem_range.1 hk
          split at h3
          · cases h3
          · rename_i ok hok
            obtain ⟨e, he, h4⟩ := Array.any_eq_true'.1 h3
            rw [Bool.and_eq_true] at h4
            have e1 := Nat.eq_of_beq_eq_true h4.2
            have := hc k ok hok (ih (ops.size - 1 - k) (by omega) k (by omega)) e he h4.1
            rwa [e1] at this
        · cases hl
theorem exB_first {ops : Array Oper} {listed : Array Bool} {i : Nat} (hlast : lastB ops = true → Closed ops listed ∧ i ≠ ops.size - 1) (hi : i ∈ Region.ready .any ops listed) : exB ops (listed.setIfInBounds i true) = false := by
  unfold exB
  cases hl : lastB ops with
  | false => rfl
  | true =>
    obtain ⟨hc, hne⟩ := hlast hl
    rw [Bool.true_and]
    cases hg : (listed.setIfInBounds i true).getD (ops.size - 1) false with
    | false => rfl
    | true =>
      rw [getD_set_ne false hne] at hg
      obtain ⟨h0, oi, hoi, _⟩ := mem_ready.1 hi
      have hlt : i < ops.size := (Array.getElem?_eq_some_iff.1 hoi).1
      have h1 := hc.below hl hg (ops.size - 1 - i) i (by omega)
      rcases Nat.lt_or_ge i listed.size with h' | h'
      · simp [h'] at h0 h1; rw [h0] at h1; cases h1
      · simp [Array.getElem?_eq_none h'] at h1
theorem Closed.set {ops : Array Oper} {listed : Array Bool} {j : Nat} (hc : Closed ops listed) (hj : j ∈ Region.ready .any ops listed) : Closed ops (listed.setIfInBounds j true) := by
  intro k o ho hk e he hb
  by_cases hjk : j = k
  · subst hjk
    obtain ⟨_, oj, hoj, hall⟩ := mem_ready.1 hj
    rw [ho] at hoj
    cases hoj
    exact getD_set_true (hall e he hb)
  · rw [getD_set_ne false hjk] at hk
    exact getD_set_true (hc k o ho hk e he hb)

def wpAnyD (P : Program) (ops : Array Oper) (D : World → Prop) (K : Act → World → Prop) : Nat → Array Bool → Act → World → Prop
  | 0, listed, a, w => (exB ops listed = false → D w) ∧ Region.ready .any ops listed = [] ∧ K a w
  | fuel + 1, listed, a, w => (exB ops listed = false → D w) ∧ (Region.ready .any ops listed = [] → K a w) ∧ ∀ i ∈ Region.ready .any ops listed, wpOp P ops (Kof K) i (wpAnyD P ops D K fuel (listed.setIfInBounds i true)) a w
section
variable {P : Program} {ops : Array Oper} {D D' : World → Prop} {K : Act → World → Prop}

theorem upon_mono {o : Oper} {a : Act} {n n' : Act → World → Prop} {K K' : Act → World → Prop} {r : Result Next}
    (hn : ∀ (b : Act) (w : World), (b.tmps = a.tmps) → ∀ v, n (b.put o.dst v) w → n' (b.put o.dst v) w) (h : o.upon P a n (Kof K) r) : o.upon P a n' (Kof K') r := by
  cases r with
  | ok x w =>
    cases x <;> simp only [Oper.upon] at h ⊢ <;> try (exact h)
    case value v => exact hn a w rfl v h
    case skip => exact hn a w rfl _ h
    case defer d => exact hn { a with defers := d :: a.defers } w rfl undef h
    case enter f args =>
      refine h.mono fun e w' he => ?_
      cases e with
      | returned v => exact hn a w' rfl v he
      | panicked c => exact he
      | outgrown => exact LetsOut_Kof he
    case row r args => exact h.mono fun v w' he => hn a w' rfl v he
  | halt x w => cases x <;> simp only [Oper.upon] at h ⊢ <;> exact h

theorem wpOp_mono {i : Nat} {n n' : Act → World → Prop} {K K' : Act → World → Prop} {a : Act} {w : World} (hn : ∀ a w, n a w → n' a w) (h : wpOp P ops (Kof K) i n a w) : wpOp P ops (Kof K') i n' a w := by
  unfold wpOp at h ⊢
  split
  · rename_i ho; simp only [ho] at h; exact hn _ _ h
  · rename_i o ho
    simp only [ho] at h
    split
    · rename_i hw
      simp only [hw, if_true] at h
      rcases h with h | ⟨h, hl⟩
      · exact .inl (upon_mono (fun b w _ v => hn _ _) h)
      · exact .inr ⟨h, LetsOut_Kof hl⟩
    · rename_i hw
      simp only [hw] at h
      exact hn _ _ h

theorem wpAnyD_weak (hD : ∀ w, D' w → D w) : ∀ (fuel : Nat) (listed : Array Bool) (a : Act) (w : World), wpAnyD P ops D' K fuel listed a w → wpAnyD P ops D K fuel listed a w
  | 0, _, _, _, h => ⟨fun e => hD _ (h.1 e), h.2⟩
  | fuel + 1, _, _, _, h => ⟨fun e => hD _ (h.1 e), h.2.1, fun i hi => wpOp_mono (fun a w => wpAnyD_weak hD fuel _ a w) (h.2.2 i hi)⟩
theorem wpAny_of_D : ∀ (fuel : Nat) (listed : Array Bool) (a : Act) (w : World), wpAnyD P ops D K fuel listed a w → wpAny P .any ops (Kof K) fuel listed a w
  | 0, _, _, _, h => h.2
  | fuel + 1, _, _, _, h => ⟨h.2.1, fun i hi => wpOp_mono (fun a w => wpAny_of_D fuel _ a w) (h.2.2 i hi)⟩

/-- the operation yields v, or is not wanted, in every world of the class -/
def YieldsD (P : Program) (ops : Array Oper) (D : World → Prop) (o : Oper) (v : Value) (a : Act) : Prop :=
  (Region.wanted o (yielded ops a.tmps) = true ∧ ∀ w, D w → (execOp a.eval o).run P w = .ok (.value v) w) ∨ (Region.wanted o (yielded ops a.tmps) = false ∧ v = undef)

theorem YieldsD.wpOp {i : Nat} {o : Oper} {v : Value} {a : Act} {w : World} {n : Act → World → Prop} (ho : ops[i]? = some o) (hy : YieldsD P ops D o v a) (hD : D w) (hn : n (a.put o.dst v) w) : wpOp P ops (Kof K) i n a w := by
  unfold Go.wpOp
  simp only [ho]
  rcases hy with ⟨hw, hv⟩ | ⟨hw, rfl⟩
  · rw [if_pos hw]
    left
    unfold Oper.wp
    rw [hv w hD]
    exact hn
  · rw [if_neg (by rw [hw]; simp)]
    exact hn

theorem wpOp_put {j : Nat} {oi oj : Oper} {v : Value} (hj : ops[j]? = some oj) (hap : oi.apart ops oj = true) (hsi : ∀ cs b, oi.op ≠ .select cs b) (hsj : ∀ cs b, oj.op ≠ .select cs b) {n : Act → World → Prop} {a : Act} {w : World}
    (hy : YieldsD P ops D oi v a) (h : wpOp P ops (Kof K) j n (a.put oi.dst v) w) : wpOp P ops (Kof K) j (fun a' w' => YieldsD P ops D oi v a' ∧ n (a'.put oi.dst v) w') a w := by
  obtain ⟨h1, h2, h3⟩ := Oper.apart_spec hap
  have keep : ∀ (b : Act), b.tmps = a.tmps → ∀ u, YieldsD P ops D oi v (b.put oj.dst u) := fun b hb u => by
    have e1 : execOp (b.put oj.dst u).eval oi = execOp a.eval oi := by
      rw [execOp_put oi hsi b oj.dst u h3]
      have : b.eval = a.eval := by funext x; cases x <;> simp [Act.eval, hb]
      rw [this]
    have e2 : Region.wanted oi (yielded ops (b.put oj.dst u).tmps) = Region.wanted oi (yielded ops a.tmps) := by rw [wanted_put oi b oj.dst u h3, hb]
    unfold YieldsD
    rw [e1, e2]
    exact hy
  unfold wpOp at h ⊢
  simp only [hj] at h ⊢
  rw [wanted_put oj a oi.dst v h1] at h
  split
  · rename_i hw
    simp only [hw, if_true] at h
    rcases h with h | ⟨h, hl⟩
    · left
      unfold Oper.wp at h ⊢
      rw [execOp_put oj hsj a oi.dst v h1] at h
      generalize (execOp a.eval oj).run P w = r at h
      cases r with
      | ok x w' =>
        cases x <;> simp only [Oper.upon] at h ⊢ <;> try (exact h)
        case value u => exact ⟨keep a rfl u, by rw [← Act.put_comm a v u h2]; exact h⟩
        case skip => exact ⟨keep a rfl undef, by rw [← Act.put_comm a v undef h2]; exact h⟩
        case defer d =>
          refine ⟨keep { a with defers := d :: a.defers } rfl undef, ?_⟩
          have e : ({ a with defers := d :: a.defers } : Act).put oi.dst v = { a.put oi.dst v with defers := d :: (a.put oi.dst v).defers } := by cases oi.dst <;> rfl
          rw [← Act.put_comm { a with defers := d :: a.defers } v undef h2, e]
          exact h
        case enter f args =>
          refine h.mono fun e w' he => ?_
          cases e with
          | returned u => exact ⟨keep a rfl u, by rw [← Act.put_comm a v u h2]; exact he⟩
          | panicked c => exact he
          | outgrown => exact LetsOut_Kof he
        case row r args => exact h.mono fun u w' he => ⟨keep a rfl u, by rw [← Act.put_comm a v u h2]; exact he⟩
      | halt x w' => cases x <;> simp only [Oper.upon] at h ⊢ <;> exact h
    · exact hl.elim fun _ ⟨_, h⟩ => h.elim
  · rename_i hw
    simp only [hw] at h
    exact ⟨keep a rfl undef, by rw [← Act.put_comm a v undef h2]; exact h⟩

/-- An operation that reads alone, and is ready, may be taken first. -/
theorem wpAnyD_first {i : Nat} {oi : Oper} {v : Value} (hi : ops[i]? = some oi) (hsel : ∀ (j : Nat) (o : Oper) cs b, ops[j]? = some o → o.op ≠ .select cs b) :
    ∀ (fuel : Nat) (listed : Array Bool) (a : Act) (w : World),
      (∀ j oj, ops[j]? = some oj → j ≠ i → listed.getD j true = false → (∀ e ∈ oj.after, Region.binds .any e = true → e.on ≠ i) → oi.apart ops oj = true) →
      (lastB ops = true → Closed ops listed ∧ i ≠ ops.size - 1) → i ∈ Region.ready .any ops listed → YieldsD P ops D oi v a → wpAnyD P ops D K fuel (listed.setIfInBounds i true) (a.put oi.dst v) w → wpAnyD P ops D K (fuel + 1) listed a w := by
  intro fuel
  induction fuel with
  | zero =>
    intro listed a w _ hlast hr hy H
    have HD := H.1 (exB_first hlast hr)
    refine ⟨fun _ => HD, fun h => (by rw [h] at hr; cases hr), fun j hj => ?_⟩
    by_cases hji : j = i
    · subst hji; exact hy.wpOp hi HD H
    · have := ready_mono hj hji
      rw [H.2.1] at this
      cases this
  | succ fuel ih =>
    intro listed a w hfree hlast hr hy H
    have HD := H.1 (exB_first hlast hr)
    refine ⟨fun _ => HD, fun h => (by rw [h] at hr; cases hr), fun j hj => ?_⟩
    by_cases hji : j = i
    · subst hji; exact hy.wpOp hi HD H
    · have h1 := H.2.2 j (ready_mono hj hji)
      obtain ⟨hjun, oj, hoj, hall⟩ := mem_ready.1 hj
      have hnot : ∀ e ∈ oj.after, Region.binds .any e = true → e.on ≠ i := fun e he hb heq => by
        have h1 := hall e he hb
        have h0 := (mem_ready.1 hr).1
        rw [heq] at h1
        rcases Nat.lt_or_ge i listed.size with h' | h'
        · simp [h'] at h0 h1; rw [h0] at h1; cases h1
        · simp [Array.getElem?_eq_none h'] at h1
      have h2 := wpOp_put hoj (hfree j oj hoj hji hjun hnot) (fun cs b => hsel i oi cs b hi) (fun cs b => hsel j oj cs b hoj) hy h1
      have hfree' : ∀ k ok, ops[k]? = some ok → k ≠ i → (listed.setIfInBounds j true).getD k true = false →
          (∀ e ∈ ok.after, Region.binds .any e = true → e.on ≠ i) → oi.apart ops ok = true := fun k ok hk hki hun hno => by
        refine hfree k ok hk hki ?_ hno
        by_cases hjk : j = k
        · subst hjk; exact hjun
        · rw [getD_set_ne true hjk] at hun; exact hun
      refine wpOp_mono (fun a' w' h3 => ih (listed.setIfInBounds j true) a' w' hfree' (fun hl => ⟨(hlast hl).1.set hj, (hlast hl).2⟩) (ready_mono hr (Ne.symm hji)) h3.1 ?_) h2
      rw [Array.setIfInBounds_comm _ _ hji]
      exact h3.2
end

/-- the operations of the list l, from this state -/
def HO (m : Md) (P : Program) (N : Nat) (w0 : World) (S0 : Foot) (ops : List Oper) (l : List Nat) (env : Env) (ro rw : List SL) (K : Act → World → Prop) : Prop :=
  match m with
  | .ord => HQ N w0 S0 env ro rw (wpList P ops.toArray (Kof K) (opsAt ops l))
  | .quiet => ∀ a, Agree N env a → wpQuiet P ops.toArray (cls w0 S0 ro rw) (fun a' => ∀ w', cls w0 S0 ro rw w' → K a' w') (opsAt ops l) a
  | .lex ro0 => ∀ held, ro = held ++ ro0 → HQ N w0 S0 env ro0 (held ++ rw) (wpAnyD P ops.toArray (RoOk ro) K l.length (dlist ops l))
  | .pick ro0 => ∀ held, ro = held ++ ro0 → match l with
    | [] => False
    | i :: l' => HQ N w0 S0 env ro0 (held ++ rw) (wpOp P ops.toArray (Kof K) i (wpAnyD P ops.toArray (RoOk ro) K l'.length (dlist ops l')))

def closedB (ops : List Oper) (l : List Nat) : Bool := (List.range ops.length).all fun k => memN k l || match ops[k]? with
  | none => true
  | some o => o.after.all fun e => !Region.binds .any e || (!memN e.on l && Nat.blt e.on ops.length)
def extraB (ops : List Oper) (i : Nat) (l : List Nat) : Bool := match lastB ops.toArray with
  | false => true
  | true => closedB ops (i :: l) && !(Nat.beq i (ops.length - 1))
theorem dlist_get {ops : List Oper} {l : List Nat} {k : Nat} : (dlist ops l).getD k false = (Nat.blt k ops.length && !memN k l) := by
  unfold dlist
  by_cases hk : k < ops.length
  · have : Nat.blt k ops.length = true := by rw [Nat.blt_eq]; exact hk
    simp [hk, this]
  · have : Nat.blt k ops.length = false := by
      cases hb : Nat.blt k ops.length with
      | false => rfl
      | true => exact absurd (by rw [Nat.blt_eq] at hb; exact hb) hk
    simp [hk, this]
theorem extraB_spec {ops : List Oper} {i : Nat} {l : List Nat} (h : extraB ops i l = true) (hl : lastB ops.toArray = true) : Closed ops.toArray (dlist ops (i :: l)) ∧ i ≠ ops.toArray.size - 1 := by
  unfold extraB at h
  rw [hl] at h
  simp only [Bool.and_eq_true, Bool.not_eq_true'] at h
  refine ⟨fun k o ho hk e he hb => ?_, fun hi => ?_⟩
  · rw [dlist_get, Bool.and_eq_true, Nat.blt_eq, Bool.not_eq_true'] at hk
    have h1 := h.1
    unfold closedB at h1
    rw [List.all_eq_true] at h1
    have h2 := h1 k (List.mem_range.2 hk.1)
    have ho' : ops[k]? = some o := by simpa using ho
    rw [hk.2, Bool.false_or, ho'] at h2
    have h3 := Array.all_eq_true_iff_forall_mem.1 h2 e he
    rw [hb] at h3
    simp only [Bool.not_true, Bool.false_or, Bool.and_eq_true, Bool.not_eq_true'] at h3
    rw [dlist_get, h3.1, h3.2]
    rfl
  · have hi : i = ops.length - 1 := by simpa using hi
    have := h.2
    rw [hi, Nat.beq_refl] at this
    cases this

/-- may a reading operation be taken now? -/
def rdyB (m : Md) (ops : List Oper) (i : Nat) (l : List Nat) : Bool := match m with
  | .ord => true
  | .quiet => true
  | .lex _ => !(memN i l) && Region.noSelect ops.toArray && (Region.ready .any ops.toArray (dlist ops (i :: l))).contains i && Region.free .any ops.toArray (dlist ops (i :: l)) i && extraB ops i l
  | .pick _ => false
/-- is this operation the one that comes now? -/
def soleB (m : Md) (ops : List Oper) (i : Nat) (l : List Nat) : Bool := match m with
  | .ord => true
  | .quiet => false
  | .lex _ => !(memN i l) && Nat.blt i ops.length && (match Region.ready .any ops.toArray (dlist ops (i :: l)) with | [j] => Nat.beq i j | _ => false)
  | .pick _ => !(memN i l) && Nat.blt i ops.length

def rdyL (ops : List Oper) (i : Nat) (l : List Nat) : Bool := !(memN i l) && Region.noSelect ops.toArray && (Region.ready .any ops.toArray (dlist ops (i :: l))).contains i && Region.free .any ops.toArray (dlist ops (i :: l)) i && extraB ops i l
def soleL (ops : List Oper) (i : Nat) (l : List Nat) : Bool := !(memN i l) && Nat.blt i ops.length && (match Region.ready .any ops.toArray (dlist ops (i :: l)) with | [j] => Nat.beq i j | _ => false)
theorem rdy_ord {ops : List Oper} {i : Nat} {l : List Nat} : rdyB .ord ops i l = true := rfl
theorem rdy_quiet {ops : List Oper} {i : Nat} {l : List Nat} : rdyB .quiet ops i l = true := rfl
theorem rdy_lexL {ro0 : List SL} {ops : List Oper} {i : Nat} {l : List Nat} (h : rdyL ops i l = true) : rdyB (.lex ro0) ops i l = true := h
theorem sole_ord {ops : List Oper} {i : Nat} {l : List Nat} : soleB .ord ops i l = true := rfl
theorem sole_lexL {ro0 : List SL} {ops : List Oper} {i : Nat} {l : List Nat} (h : soleL ops i l = true) : soleB (.lex ro0) ops i l = true := h
theorem sole_pick {ro0 : List SL} {ops : List Oper} {i : Nat} {l : List Nat} (h : (!(memN i l) && Nat.blt i ops.length) = true) : soleB (.pick ro0) ops i l = true := h

def wantE (ops : List Oper) (env : Env) : Option (Nat × Bool) → Option Bool
  | none => some true
  | some (j, want) => match ops[j]? with
    | none => none
    | some o => match o.dst with
      | none => none
      | some d => match Env.get env d with
        | some (.bool true) => match want with | true => some true | false => some false
        | some (.bool false) => match want with | true => some false | false => some true
        | some (.tuple _) => some false
        | _ => none

theorem wantE_ok {ops : List Oper} {N : Nat} {env : Env} {a : Act} (ha : Agree N env a) {o : Oper} {b : Bool} (h : wantE ops env o.guard = some b) : Region.wanted o (yielded ops.toArray a.tmps) = b := by
  unfold Region.wanted
  cases hg : o.guard with
  | none => simp [hg, wantE] at h; simp [h]
  | some g =>
    obtain ⟨j, want⟩ := g
    rw [hg] at h
    simp only [wantE] at h
    cases ho : ops[j]? with
    | none => simp [ho] at h
    | some o' =>
      simp only [ho] at h
      cases hd : o'.dst with
      | none => simp [hd] at h
      | some d =>
        simp only [hd] at h
        cases hv : Env.get env d with
        | none => simp [hv] at h
        | some v =>
          have hv' := ha.at_ d v hv
          simp only [hv] at h
          have hy : yielded ops.toArray a.tmps j = (match v with | .bool b => some b | _ => none) := by
            unfold yielded
            simp only [List.getElem?_toArray, ho, Option.bind_some, hd, hv']
            cases v <;> rfl
          show (yielded ops.toArray a.tmps j == some want) = b
          rw [hy]
          cases v with
          | bool b' => cases b' <;> cases want <;> (simp at h; subst h; rfl)
          | tuple vs => simp at h; subst h; rfl
          | _ => simp at h

section
variable {m : Md} {P : Program} {N : Nat} {w0 : World} {S0 : Foot} {ops : List Oper} {i : Nat} {lq : List Nat} {env : Env} {ro rw : List SL} {K : Act → World → Prop} {o : Oper}

theorem opsAt_cons (ho : ops[i]? = some o) : opsAt ops (i :: lq) = o :: opsAt ops lq := by simp [opsAt, ho]
theorem rdy_lex {ro0 : List SL} (h : rdyB (.lex ro0) ops i lq = true) : memN i lq = false ∧ Region.noSelect ops.toArray = true ∧ i ∈ Region.ready .any ops.toArray (dlist ops (i :: lq)) ∧ Region.free .any ops.toArray (dlist ops (i :: lq)) i = true ∧ extraB ops i lq = true := by
  simp only [rdyB, Bool.and_eq_true, Bool.not_eq_true', List.contains_iff_mem] at h
  exact ⟨h.1.1.1.1, h.1.1.1.2, h.1.1.2, h.1.2, h.2⟩

theorem HO_lexFirst {ro0 : List SL} {v : Value} (ho : ops[i]? = some o) (hr : rdyB (.lex ro0) ops i lq = true) {a : Act} {w : World} {D : World → Prop} (hy : YieldsD P ops.toArray D o v a)
    (h : wpAnyD P ops.toArray D K lq.length (dlist ops lq) (a.put o.dst v) w) : wpAnyD P ops.toArray D K (i :: lq).length (dlist ops (i :: lq)) a w := by
  obtain ⟨h1, h2, h3, h4, h5⟩ := rdy_lex hr
  have ho' : ops.toArray[i]? = some o := by simpa using ho
  refine wpAnyD_first ho' (Region.noSelect_spec h2) lq.length (dlist ops (i :: lq)) a w (Region.free_spec ho' h4) (extraB_spec h5) h3 hy ?_
  rw [dlist_set h1]
  exact h

/-- One operation that yields a value and leaves the world. -/
theorem HO_val {d : Nat} {v : Value} (ho : ops[i]? = some o) (hw : wantE ops env o.guard = some true) (hd : o.dst = some d) (hN : Nat.blt d N = true) (hr : rdyB m ops i lq = true)
    (hv : ∀ a w, Agree N env a → RoOk (seeL m ro rw) w → (execOp a.eval o).run P w = .ok (.value v) w)
    (h : HO m P N w0 S0 ops lq ((d, v) :: env) ro rw K) : HO m P N w0 S0 ops (i :: lq) env ro rw K := by
  cases m with
  | ord =>
    intro a S w ha hf
    rw [opsAt_cons ho]
    unfold wpList
    rw [if_pos (wantE_ok ha hw)]
    left
    unfold Oper.wp
    rw [hv a w ha hf.roOk, Oper.upon_value, hd]
    exact h _ S w (ha.put hN v) hf
  | quiet =>
    intro a ha
    rw [opsAt_cons ho]
    unfold wpQuiet
    rw [if_pos (wantE_ok ha hw)]
    refine ⟨v, fun w ⟨S, hf⟩ => ?_, ?_⟩
    · unfold Oper.quietAt
      rw [hv a w ha hf.roOk]
      exact ⟨rfl, rfl⟩
    · rw [hd]
      exact h _ (ha.put hN v)
  | lex ro0 =>
    intro held he a S w ha hf
    refine HO_lexFirst ho hr (.inl ⟨wantE_ok ha hw, fun w' hD => hv a w' ha hD⟩) ?_
    rw [hd]
    exact h held he _ S w (ha.put hN v) hf
  | pick ro0 => cases hr

/-- An operation that is not wanted. -/
theorem HO_skip {d : Nat} (ho : ops[i]? = some o) (hw : wantE ops env o.guard = some false) (hd : o.dst = some d) (hN : Nat.blt d N = true) (hr : rdyB m ops i lq = true)
    (h : HO m P N w0 S0 ops lq ((d, undef) :: env) ro rw K) : HO m P N w0 S0 ops (i :: lq) env ro rw K := by
  cases m with
  | ord =>
    intro a S w ha hf
    rw [opsAt_cons ho]
    unfold wpList
    rw [if_neg (by rw [wantE_ok ha hw]; simp), hd]
    exact h _ S w (ha.put hN _) hf
  | quiet =>
    intro a ha
    rw [opsAt_cons ho]
    unfold wpQuiet
    rw [if_neg (by rw [wantE_ok ha hw]; simp), hd]
    exact h _ (ha.put hN _)
  | lex ro0 =>
    intro held he a S w ha hf
    refine HO_lexFirst ho hr (.inr ⟨wantE_ok ha hw, rfl⟩) ?_
    rw [hd]
    exact h held he _ S w (ha.put hN _) hf
  | pick ro0 => cases hr
theorem HO_skip0 (ho : ops[i]? = some o) (hw : wantE ops env o.guard = some false) (hd : o.dst = none) (hr : rdyB m ops i lq = true)
    (h : HO m P N w0 S0 ops lq env ro rw K) : HO m P N w0 S0 ops (i :: lq) env ro rw K := by
  cases m with
  | ord =>
    intro a S w ha hf
    rw [opsAt_cons ho]
    unfold wpList
    rw [if_neg (by rw [wantE_ok ha hw]; simp), hd]
    exact h _ S w ha hf
  | quiet =>
    intro a ha
    rw [opsAt_cons ho]
    unfold wpQuiet
    rw [if_neg (by rw [wantE_ok ha hw]; simp), hd]
    exact h _ ha
  | lex ro0 =>
    intro held he a S w ha hf
    refine HO_lexFirst ho hr (.inr ⟨wantE_ok ha hw, rfl⟩) ?_
    rw [hd]
    exact h held he _ S w ha hf
  | pick ro0 => cases hr

theorem Fits.comm {a b : List SL} {S : Foot} {w : World} (h : Fits w0 S0 ro (a ++ b) S w) : Fits w0 S0 ro (b ++ a) S w := by
  obtain ⟨A, B, hA, hB, hd, h1, h2⟩ := h.star.split
  exact ⟨h.fr, h.lt, h.sub, Star.append hB hA (fun b hb ha => hd b ha hb) h2 h1, h.ros⟩

/-- The frame of all rules for operations that do something: 'hv' says what comes, at whatever frame. -/
def dEnv (o : Oper) (v : Value) (env : Env) : Env := match o.dst with | some d => (d, v) :: env | none => env
def dOk (N : Nat) (o : Oper) : Bool := match o.dst with | some d => Nat.blt d N | none => true
theorem Agree.dput {a : Act} (ha : Agree N env a) (hN : dOk N o = true) (v : Value) : Agree N (dEnv o v env) (a.put o.dst v) := by
  unfold dEnv dOk at *
  cases hd : o.dst with
  | none => exact ha
  | some d => rw [hd] at hN; exact ha.put hN _

theorem HO_do {α : Type} {rw' : α → List SL} {φ : α → Prop} {val : α → Value} (ho : ops[i]? = some o) (hw : wantE ops env o.guard = some true) (hs : soleB m ops i lq = true) (hN : dOk N o = true)
    (hv : ∀ w1 S1 a S w (n : Act → World → Prop), Agree N env a → Fits w1 S1 ro rw S w → (∀ x S' w', φ x → Fits w1 S1 ro (rw' x) S' w' → n (a.put o.dst (val x)) w') → o.wp P a w n (Kof K))
    (h : ∀ x, φ x → HO (nmM m) P N w0 S0 ops lq (dEnv o (val x) env) ro (rw' x) K) : HO m P N w0 S0 ops (i :: lq) env ro rw K := by
  have key : ∀ (held ro0 : List SL), ro = held ++ ro0 → ∀ (n : Act → World → Prop) (a : Act) (S : Foot) (w : World), Agree N env a → Fits w0 S0 ro0 (held ++ rw) S w →
      (∀ x T w', φ x → Fits w0 S0 ro0 (held ++ rw' x) T w' → n (a.put o.dst (val x)) w') → o.wp P a w n (Kof K) := by
    intro held ro0 hro n a S w ha hf hn
    obtain ⟨A, hA, hAS, hAl, hr1, hr2, hk⟩ := hf.comm.step
    refine hv w A a A w n ha ⟨Fr.refl _ _, hAl, fun b hb => .inl hb, hA, fun e he => ?_⟩ (fun x S' w' hx hfx => ?_)
    · rw [hro] at he
      exact (List.mem_append.1 he).elim (hr2 e) (hr1 e)
    · obtain ⟨T, hT⟩ := hk w' S' (rw' x) hfx.fr hfx.lt hfx.sub hfx.star
      exact hn x T w' hx hT.comm
  cases m with
  | ord =>
    intro a S w ha hf
    rw [opsAt_cons ho]
    unfold wpList
    rw [if_pos (wantE_ok ha hw)]
    left
    exact hv w0 S0 a S w _ ha hf fun x S' w' hx hfx => h x hx _ S' w' (ha.dput hN _) hfx
  | quiet => cases hs
  | lex ro0 =>
    simp only [soleB, Bool.and_eq_true, Bool.not_eq_true', Nat.blt_eq] at hs
    obtain ⟨⟨hnm, hlt⟩, hone⟩ := hs
    intro held hro a S w ha hf
    refine ⟨fun _ e he => ?_, fun hnil => ?_, fun j hj => ?_⟩
    · rw [hro] at he
      exact hf.see (by simp only [List.mem_append] at he ⊢; rcases he with he | he <;> simp [he])
    · rw [hnil] at hone; cases hone
    · have hji : j = i := by
        split at hone
        · rename_i q hq
          rw [hq] at hj
          have := Nat.eq_of_beq_eq_true hone
          simp at hj
          omega
        · cases hone
      subst hji
      unfold wpOp
      simp only [List.getElem?_toArray, ho]
      rw [if_pos (wantE_ok ha hw)]
      left
      refine key held ro0 hro _ a S w ha hf fun x T w' hx hfx => ?_
      rw [dlist_set hnm]
      exact h x hx held hro _ T w' (ha.dput hN _) hfx
  | pick ro0 =>
    intro held hro a S w ha hf
    unfold wpOp
    simp only [List.getElem?_toArray, ho]
    rw [if_pos (wantE_ok ha hw)]
    left
    exact key held ro0 hro _ a S w ha hf fun x T w' hx hfx => h x hx held hro _ T w' (ha.dput hN _) hfx

theorem HO_act_ex {α : Type} {d : Nat} {v : α → Value} {φ : α → Prop} {rw' : α → List SL} (ho : ops[i]? = some o) (hw : wantE ops env o.guard = some true) (hd : o.dst = some d) (hN : Nat.blt d N = true) (hs : soleB m ops i lq = true)
    (hv : ∀ w1 S1 a S w, Agree N env a → Fits w1 S1 ro rw S w → ∃ x S' w', φ x ∧ (execOp a.eval o).run P w = .ok (.value (v x)) w' ∧ Fits w1 S1 ro (rw' x) S' w')
    (h : ∀ x, φ x → HO (nmM m) P N w0 S0 ops lq ((d, v x) :: env) ro (rw' x) K) : HO m P N w0 S0 ops (i :: lq) env ro rw K := by
  refine HO_do (φ := φ) (val := v) (rw' := rw') ho hw hs (by simp only [dOk, hd]; exact hN) (fun w1 S1 a S w n ha hf hn => ?_) (fun x hx => by simp only [dEnv, hd]; exact h x hx)
  obtain ⟨x, S', w', hx, hr, hf'⟩ := hv w1 S1 a S w ha hf
  unfold Oper.wp
  rw [hr, Oper.upon_value]
  exact hn x S' w' hx hf'
theorem HO_unit {rw' : List SL} (ho : ops[i]? = some o) (hw : wantE ops env o.guard = some true) (hd : o.dst = none) (hs : soleB m ops i lq = true)
    (hv : ∀ w1 S1 a S w, Agree N env a → Fits w1 S1 ro rw S w → ∃ S' w', (execOp a.eval o).run P w = .ok .skip w' ∧ Fits w1 S1 ro rw' S' w')
    (h : HO (nmM m) P N w0 S0 ops lq env ro rw' K) : HO m P N w0 S0 ops (i :: lq) env ro rw K := by
  refine HO_do (α := Unit) (φ := fun _ => True) (val := fun _ => undef) (rw' := fun _ => rw') ho hw hs (by simp only [dOk, hd]) (fun w1 S1 a S w n ha hf hn => ?_) (fun x hx => by simp only [dEnv, hd]; exact h)
  obtain ⟨S', w', hr, hf'⟩ := hv w1 S1 a S w ha hf
  unfold Oper.wp
  rw [hr, Oper.upon_skip]
  exact hn () S' w' trivial hf'

/-- A piece is held for reading till the region's end. -/
theorem HO_hold {ro0 : List SL} {l : List Nat} {k : Nat} {e : SL} (hk : rw[k]? = some e) (h : HO (.lex ro0) P N w0 S0 ops l env (e :: ro) (rw.eraseIdx k) K) : HO (.lex ro0) P N w0 S0 ops l env ro rw K := by
  intro held hro a S w ha hf
  have h1 := h (e :: held) (by rw [hro]; rfl)
  have h2 : Fits w0 S0 ro0 ((e :: held) ++ rw.eraseIdx k) S w := by
    have hk' : (held ++ rw)[held.length + k]? = some e := by rw [List.getElem?_append_right (by omega)]; simpa using hk
    have := hf.move hk'
    rwa [List.eraseIdx_append_of_length_le (by omega), Nat.add_sub_cancel_left] at this
  exact wpAnyD_weak (fun w hD e' he' => hD e' (List.mem_cons_of_mem _ he')) _ _ _ _ (h1 a S w ha h2)

/-- Two operations may come now. -/
theorem HO_two {ro0 : List SL} {l l1 l2 : List Nat} {i j : Nat} (hr : Region.ready .any ops.toArray (dlist ops l) = [i, j]) (hl : Nat.blt 0 l.length = true) (h1 : (dlist ops (i :: l1)).toList = (dlist ops l).toList ∧ memN i l1 = false ∧ l1.length + 1 = l.length)
    (h2 : (dlist ops (j :: l2)).toList = (dlist ops l).toList ∧ memN j l2 = false ∧ l2.length + 1 = l.length)
    (g1 : HO (.pick ro0) P N w0 S0 ops (i :: l1) env ro rw K) (g2 : HO (.pick ro0) P N w0 S0 ops (j :: l2) env ro rw K) : HO (.lex ro0) P N w0 S0 ops l env ro rw K := by
  intro held hro a S w ha hf
  obtain ⟨e1, n1, q1⟩ := h1
  obtain ⟨e2, n2, q2⟩ := h2
  have e1' : dlist ops (i :: l1) = dlist ops l := Array.ext' e1
  have e2' : dlist ops (j :: l2) = dlist ops l := Array.ext' e2
  rw [← q1]
  refine ⟨fun _ e he => ?_, ?_, fun q hq => ?_⟩
  rotate_left 1
  · intro hnil
    rw [hr] at hnil
    cases hnil
  rotate_left 1
  · rw [hro] at he
    exact hf.see (by simp only [List.mem_append] at he ⊢; rcases he with he | he <;> simp [he])
  · rw [hr] at hq
    simp at hq
    rcases hq with rfl | rfl
    · rw [← e1', dlist_set n1]
      exact g1 held hro a S w ha hf
    · rw [← e2', dlist_set n2]
      have : l1.length = l2.length := by omega
      rw [this]
      exact g2 held hro a S w ha hf

theorem HO_done (h : HQ N w0 S0 env ro rw K) : HO .ord P N w0 S0 ops [] env ro rw K := h
theorem HO_doneQ (h : HQ N w0 S0 env ro rw K) : HO .quiet P N w0 S0 ops [] env ro rw K := fun a ha w' ⟨S, hS⟩ => h a S w' ha hS
theorem HO_doneL {ro0 held : List SL} (hro : ro = held ++ ro0) (hr : Region.ready .any ops.toArray (dlist ops []) = []) (h : HQ N w0 S0 env ro0 (held ++ rw) K) : HO (.lex ro0) P N w0 S0 ops [] env ro rw K := by
  intro held' hro' a S w ha hf
  have : held' = held := List.append_cancel_right (hro'.symm.trans hro)
  subst this
  refine ⟨fun _ e he => ?_, hr, h a S w ha hf⟩
  rw [hro] at he
  exact hf.see (by simp only [List.mem_append] at he ⊢; rcases he with he | he <;> simp [he])

/-- The region's last store may write what was held. -/
theorem HO_lastL {ro0 held : List SL} {L : Nat} (hro : ro = held ++ ro0) (hL : (lastB ops.toArray && Nat.beq L (ops.toArray.size - 1) && Nat.blt L ops.length) = true) (hr : Region.ready .any ops.toArray (dlist ops [L]) = [L]) (hr0 : Region.ready .any ops.toArray (dlist ops []) = [])
    (h : HO .ord P N w0 S0 ops [L] env ro0 (held ++ rw) K) : HO (.lex ro0) P N w0 S0 ops [L] env ro rw K := by
  intro held' hro' a S w ha hf
  have : held' = held := List.append_cancel_right (hro'.symm.trans hro)
  subst this
  rw [Bool.and_eq_true, Bool.and_eq_true] at hL
  obtain ⟨⟨hl, hLe⟩, hblt⟩ := hL
  have hlt : L < ops.length := by rw [Nat.blt_eq] at hblt; exact hblt
  have hLe := Nat.eq_of_beq_eq_true hLe
  have ho : ops[L]? = some ops[L] := List.getElem?_eq_getElem hlt
  have hw := h a S w ha hf
  rw [opsAt_cons ho] at hw
  refine ⟨fun _ e he => ?_, fun hn => ?_, fun q hq => ?_⟩
  · rw [hro] at he
    exact hf.see (by simp only [List.mem_append] at he ⊢; rcases he with he | he <;> simp [he])
  · rw [hr] at hn; cases hn
  · rw [hr] at hq
    simp at hq
    subst hq
    rw [dlist_set rfl]
    have hex : exB ops.toArray (dlist ops []) = true := by
      unfold exB
      rw [hl, ← hLe, dlist_get, hblt]
      rfl
    have hend : ∀ (a : Act) (w : World), wpList P ops.toArray (Kof K) (opsAt ops []) a w → wpAnyD P ops.toArray (RoOk ro) K 0 (dlist ops []) a w := fun a w hk =>
      ⟨fun he => (by rw [hex] at he; cases he), hr0, hk⟩
    unfold wpOp
    simp only [List.getElem?_toArray, ho]
    unfold wpList at hw
    split
    · rename_i hwn
      simp only [hwn, if_true] at hw
      rcases hw with hw | hw
      · left
        exact upon_mono (fun b w' _ v hk => hend _ _ hk) hw
      · exact .inr hw
    · rename_i hwn
      simp only [hwn] at hw
      exact hend _ _ hw
theorem HO_rw {l : List Nat} {d : Nat} {v v' : Value} (hv : v = v') (h : HO m P N w0 S0 ops l ((d, v') :: env) ro rw K) : HO m P N w0 S0 ops l ((d, v) :: env) ro rw K := hv ▸ h

theorem wpQuiet_none {P : Program} {ops : Array Oper} {C : World → Prop} {K : Act → World → Prop} (hC : ¬ ∃ w, C w) : ∀ (l : List Oper) (a : Act), wpQuiet P ops C (fun a' => ∀ w', C w' → K a' w') l a
  | [], _ => fun w hw => absurd ⟨w, hw⟩ hC
  | o :: l, a => by
    unfold wpQuiet
    split
    · exact ⟨undef, fun w hw => absurd ⟨w, hw⟩ hC, wpQuiet_none hC l _⟩
    · exact wpQuiet_none hC l _
/-- what the pieces tell -/
theorem HO_gen {l : List Nat} {C : Prop} (hm : (match m with | .pick _ => false | _ => true) = true) (hC : ∀ w, RoOk (seeL m ro rw) w → C) (h : C → HO m P N w0 S0 ops l env ro rw K) : HO m P N w0 S0 ops l env ro rw K := by
  cases m with
  | ord => exact fun a S w ha hf => h (hC w hf.roOk) a S w ha hf
  | quiet =>
    intro a ha
    by_cases hex : ∃ w', cls w0 S0 ro rw w'
    · obtain ⟨w', S, hS⟩ := hex
      exact h (hC w' hS.roOk) a ha
    · exact wpQuiet_none hex _ _
  | lex ro0 =>
    intro held hro a S w ha hf
    refine h (hC w fun e he => ?_) held hro a S w ha hf
    have he : e ∈ ro := he
    rw [hro] at he
    exact hf.see (by simp only [List.mem_append] at he ⊢; rcases he with he | he <;> simp [he])
  | pick ro0 => cases hm
end

/-! ## a whole region -/
def nlits : List Nat := [0, 1, 2, 3, 4, 5, 6, 7, 8, 9, 10, 11, 12, 13, 14, 15, 16, 17, 18, 19, 20, 21, 22, 23, 24, 25, 26, 27, 28, 29, 30, 31, 32, 33, 34, 35, 36, 37, 38, 39, 40, 41, 42, 43, 44, 45, 46, 47, 48, 49, 50, 51, 52, 53, 54, 55, 56, 57, 58, 59, 60, 61, 62, 63, 64, 65, 66, 67, 68, 69, 70, 71, 72, 73, 74, 75, 76, 77, 78, 79, 80, 81, 82, 83, 84, 85, 86, 87, 88, 89, 90, 91, 92, 93, 94, 95, 96, 97, 98, 99, 100, 101, 102, 103, 104, 105, 106, 107, 108, 109, 110, 111, 112, 113, 114, 115, 116, 117, 118, 119, 120, 121, 122, 123, 124, 125, 126, 127, 128, 129, 130, 131, 132, 133, 134, 135, 136, 137, 138, 139, 140, 141, 142, 143, 144, 145, 146, 147, 148, 149, 150, 151, 152, 153, 154, 155, 156, 157, 158, 159, 160, 161, 162, 163, 164, 165, 166, 167, 168, 169, 170, 171, 172, 173, 174, 175, 176, 177, 178, 179, 180, 181, 182, 183, 184, 185, 186, 187, 188, 189, 190, 191, 192, 193, 194, 195, 196, 197, 198, 199]
def nlistG : List Oper → List Nat → Option (List Nat)
  | [], _ => some []
  | _ :: os, k :: ks => match nlistG os ks with
    | some l => some (k :: l)
    | none => none
  | _ :: _, [] => none
/-- 0, 1, .., written out -/
def nlist (ops : List Oper) : Option (List Nat) := nlistG ops nlits
/-- operations that only read -/
def readsB : Op → Bool
  | .move _ | .assign _ | .pick _ _ _ | .binOp _ _ _ _ _ | .unOp _ _ _ | .extract _ _ | .load _ _ | .fieldAddr _ _ _ | .indexAddr _ _ _ | .convert _ _ _ | .build _ _ | .makeFunc _ _ _ | .field _ _ _ | .index _ _ _ | .nilCheck _ | .slice _ _ _ _ _ => true
  | .call c => match c.callee with | .builtin .len => true | .builtin .cap => true | .builtin .min => true | .builtin .max => true | _ => false
  | _ => false
/-- an order in which what reads comes as early as it can -/
def edgesOk (l : List Nat) : List Edge → Bool
  | [] => true
  | e :: es => match Region.binds .any e with
    | true => match memN e.on l with
      | true => false
      | false => edgesOk l es
    | false => edgesOk l es
def pickE (ops : List Oper) (all : List Nat) (rd : Bool) : List Nat → Option Nat
  | [] => none
  | i :: l => match ops[i]? with
    | none => none
    | some o => match edgesOk all o.after.toList with
      | false => pickE ops all rd l
      | true => match rd with
        | false => some i
        | true => match readsB o.op with
          | true => some i
          | false => pickE ops all rd l
def dropN (i : Nat) : List Nat → List Nat
  | [] => []
  | j :: l => match Nat.beq i j with
    | true => l
    | false => j :: dropN i l
def elistG (ops : List Oper) : List Oper → List Nat → Option (List Nat)
  | [], _ => some []
  | _ :: f, l =>
    match pickE ops l true l with
    | some i => match elistG ops f (dropN i l) with
      | some r => some (i :: r)
      | none => none
    | none => match pickE ops l false l with
      | some i => match elistG ops f (dropN i l) with
        | some r => some (i :: r)
        | none => none
      | none => none
def elist (ops : List Oper) : Option (List Nat) := match nlist ops with
  | some l => elistG ops ops l
  | none => none

section
variable {P : Program} {N : Nat} {w0 : World} {S0 : Foot} {c : Code} {env : Env} {ro rw : List SL} {Q : Exit → Act → World → Prop}

theorem opsAt_all (ops : List Oper) : ∀ (l : List Nat) (k : Nat), (∀ q, q < l.length → l[q]? = some (k + q)) → k + l.length = ops.length → opsAt ops l = ops.drop k
  | [], k, _, h => by
    simp [opsAt] at h ⊢
    omega
  | i :: l, k, hl, h => by
    have h0 := hl 0 (by simp)
    simp at h0
    subst h0
    have hk : i < ops.length := by simp at h; omega
    rw [opsAt_cons (List.getElem?_eq_getElem hk), List.drop_eq_getElem_cons hk]
    rw [opsAt_all ops l (i + 1) (fun q hq => by have := hl (q + 1) (by simp; omega); simp at this; rw [this]; congr 1; omega) (by simp at h; omega)]
def seqB : Nat → List Nat → Bool
  | _, [] => true
  | k, i :: l => Nat.beq i k && seqB (k + 1) l
theorem seqB_spec : ∀ {l : List Nat} {k : Nat}, seqB k l = true → ∀ q, q < l.length → l[q]? = some (k + q)
  | [], k, _, q, hq => by simp at hq
  | i :: l, k, h, q, hq => by
    simp only [seqB, Bool.and_eq_true] at h
    have e := Nat.eq_of_beq_eq_true h.1
    cases q with
    | zero => simp [e]
    | succ q => have := seqB_spec h.2 q (by simpa using hq); simp [this]; omega

theorem HC_ord {l : List Nat} (hk : isOrd c = true) (hl : nlist (cOps c) = some l) (hs : seqB 0 l = true) (hn : Nat.beq l.length (cOps c).length = true) (h : HO .ord P N w0 S0 (cOps c) l env ro rw (Q .normal)) : HC P N w0 S0 c env ro rw Q := by
  cases c <;> try (simp [isOrd] at hk; done)
  rename_i id ops draw
  cases draw <;> try (simp [isOrd] at hk; done)
  intro a S w ha hf
  have h1 := h a S w ha hf
  have h2 := opsAt_all (cOps (.region id ops false)) l 0 (seqB_spec hs) (by simpa using Nat.eq_of_beq_eq_true hn)
  rw [h2] at h1
  simp only [cOps, List.drop_zero, Array.toArray_toList] at h1
  have := wp_region_list (id := id) h1
  exact wp_mono this fun e a w he => by cases e <;> first | exact he | exact he.elim

theorem HC_draw {l : List Nat} (hk : isDraw c = true) (hl : nlist (cOps c) = some l) (hs : seqB 0 l = true) (hn : Nat.beq l.length (cOps c).length = true) (hm : P.follows .mixedOrders = true) (hB : Region.lexB .any (cOps c).toArray = true)
    (h : HO .quiet P N w0 S0 (cOps c) l env ro rw (Q .normal)) : HC P N w0 S0 c env ro rw Q := by
  cases c <;> try (simp [isDraw] at hk; done)
  rename_i id ops draw
  cases draw <;> try (simp [isDraw] at hk; done)
  intro a S w ha hf
  have h1 := h a ha
  have h2 := opsAt_all (cOps (.region id ops true)) l 0 (seqB_spec hs) (by simpa using Nat.eq_of_beq_eq_true hn)
  rw [h2] at h1
  simp only [cOps, List.drop_zero, Array.toArray_toList] at h1 hB
  exact wp_region_quiet (C := cls w0 S0 ro rw) hm hB ⟨S, hf.drew _⟩ h1

theorem HC_lex {l : List Nat} (hk : isDraw c = true) (hl : elist (cOps c) = some l) (hs : (dlist (cOps c) l).toList.all (!·) = true) (hn : Nat.beq l.length (cOps c).length = true) (hm : P.follows .mixedOrders = true)
    (h : HO (.lex ro) P N w0 S0 (cOps c) l env ro rw (Q .normal)) : HC P N w0 S0 c env ro rw Q := by
  cases c <;> try (simp [isDraw] at hk; done)
  rename_i id ops draw
  cases draw <;> try (simp [isDraw] at hk; done)
  intro a S w ha hf
  have h1 := h [] rfl a S _ ha (hf.drew (w.drawn + 1))
  have hn' := Nat.eq_of_beq_eq_true hn
  have hd : dlist (cOps (.region id ops true)) l = Array.replicate ops.size false := by
    apply Array.ext'
    rw [Array.toList_replicate]
    apply List.eq_replicate_iff.2
    refine ⟨by simp [dlist, cOps], fun b hb => ?_⟩
    have := List.all_eq_true.1 hs b hb
    simpa using this
  rw [hd, hn'] at h1
  simp only [cOps, Array.toArray_toList, Array.length_toList] at h1
  exact wp_mono (wp_region_any (id := id) hm (wpAny_of_D _ _ _ _ h1)) fun e a w he => by cases e <;> first | exact he | exact he.elim
end
end Go.Proofs.YtdeeokkkcfkbjaaDoor
