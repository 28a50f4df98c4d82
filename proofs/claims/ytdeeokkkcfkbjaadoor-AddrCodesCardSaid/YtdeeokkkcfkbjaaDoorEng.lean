/- The symbolic walk: what stands in slots ('Env'), what stands in memory (a list of separate pieces 'rw', facts that are only read 'ro'), and one rule for each form of code and of operation. No program in sight. -/
import Derived.Test.YtdeeokkkcfkbjaaDoorWords
namespace Go.Proofs.YtdeeokkkcfkbjaaDoor
set_option linter.unusedVariables false
set_option linter.unusedSimpArgs false
open Go.RowKit

/-! ## memory -/
abbrev Foot := Nat → Prop

structure SL where
  p : Foot → World → Prop
  st : ∀ (S : Foot) (w w' : World), (∀ b, S b → w'.heap[b]? = w.heap[b]?) → p S w → p S w'

def Star : List SL → Foot → World → Prop
  | [], _, _ => True
  | e :: es, S, w => ∃ A B : Foot, (∀ b, A b → S b) ∧ (∀ b, B b → S b) ∧ (∀ b, A b → B b → False) ∧ e.p A w ∧ Star es B w

theorem Star.st : ∀ {es : List SL} {S : Foot} {w w' : World}, (∀ b, S b → w'.heap[b]? = w.heap[b]?) → Star es S w → Star es S w'
  | [], _, _, _, _, _ => trivial
  | e :: _, _, _, _, h, ⟨A, B, hA, hB, hd, he, hs⟩ => ⟨A, B, hA, hB, hd, e.st _ _ _ (fun b hb => h b (hA b hb)) he, Star.st (fun b hb => h b (hB b hb)) hs⟩

theorem Star.wide : ∀ {es : List SL} {S T : Foot} {w : World}, (∀ b, S b → T b) → Star es S w → Star es T w
  | [], _, _, _, _, _ => trivial
  | _ :: _, _, _, _, h, ⟨A, B, hA, hB, hd, he, hs⟩ => ⟨A, B, fun b hb => h b (hA b hb), fun b hb => h b (hB b hb), hd, he, hs⟩

theorem Star.append : ∀ {es fs : List SL} {A B S : Foot} {w : World}, (∀ b, A b → S b) → (∀ b, B b → S b) → (∀ b, A b → B b → False) → Star es A w → Star fs B w → Star (es ++ fs) S w
  | [], _, _, _, _, _, _, hB, _, _, hf => hf.wide hB
  | e :: es, fs, A, B, S, w, hA, hB, hd, ⟨A1, A2, h1, h2, h12, he, hs⟩, hf =>
    ⟨A1, fun b => A2 b ∨ B b, fun b hb => hA b (h1 b hb), fun b hb => hb.elim (fun h => hA b (h2 b h)) (hB b),
      fun b hb hc => hc.elim (h12 b hb) (hd b (h1 b hb)), he, Star.append (fun _ h => .inl h) (fun _ h => .inr h) (fun b ha hb => hd b (h2 b ha) hb) hs hf⟩

theorem Star.split : ∀ {es fs : List SL} {S : Foot} {w : World}, Star (es ++ fs) S w →
    ∃ A B : Foot, (∀ b, A b → S b) ∧ (∀ b, B b → S b) ∧ (∀ b, A b → B b → False) ∧ Star es A w ∧ Star fs B w
  | [], _, S, _, h => ⟨fun _ => False, S, fun _ h => h.elim, fun _ h => h, fun _ h => h.elim, trivial, h⟩
  | e :: es, fs, S, w, ⟨A1, B1, h1, h2, h12, he, hs⟩ => by
    obtain ⟨A, B, hA, hB, hd, ha, hb⟩ := Star.split (es := es) hs
    exact ⟨fun b => A1 b ∨ A b, B, fun b h => h.elim (h1 b) (fun h => h2 b (hA b h)), fun b h => h2 b (hB b h),
      fun b h k => h.elim (fun h => h12 b h (hB b k)) (fun h => hd b h k), ⟨A1, A, fun _ h => .inl h, fun _ h => .inr h, fun b h k => h12 b h (hA b k), he, ha⟩, hb⟩

/-- one piece out of the middle, with the rest -/
theorem Star.take_ {es : List SL} {k : Nat} {e : SL} {S : Foot} {w : World} (hk : es[k]? = some e) (h : Star es S w) :
    ∃ A B : Foot, (∀ b, A b → S b) ∧ (∀ b, B b → S b) ∧ (∀ b, A b → B b → False) ∧ e.p A w ∧ Star (es.eraseIdx k) B w := by
  induction es generalizing k S with
  | nil => simp at hk
  | cons f es ih =>
    obtain ⟨A1, B1, h1, h2, h12, he, hs⟩ := h
    cases k with
    | zero => simp at hk; subst hk; exact ⟨A1, B1, h1, h2, h12, he, by simpa using hs⟩
    | succ k =>
      obtain ⟨A, B, hA, hB, hd, ha, hb⟩ := ih (by simpa using hk) hs
      refine ⟨A, fun b => A1 b ∨ B b, fun b h => h2 b (hA b h), fun b h => h.elim (h1 b) (fun h => h2 b (hB b h)), fun b h k => k.elim (fun k => h12 b k (hA b h)) (hd b h), ha, ?_⟩
      simp only [List.eraseIdx_cons_succ]
      exact ⟨A1, B, fun _ h => .inl h, fun _ h => .inr h, fun b h k => h12 b h (hB b k), he, hb⟩

structure Fr (S : Foot) (w w' : World) : Prop where
  os : w'.os = w.os
  tape : w'.tape = w.tape
  output : w'.output = w.output
  size : w.heap.size ≤ w'.heap.size
  block : ∀ b, b < w.heap.size → ¬ S b → w'.heap[b]? = w.heap[b]?

theorem Fr.refl (S : Foot) (w : World) : Fr S w w := ⟨rfl, rfl, rfl, Nat.le_refl _, fun _ _ _ => rfl⟩
theorem Fr.below {S : Foot} {w w' : World} (h : Below w.heap.size w w') : Fr S w w' := ⟨h.os, h.tape, h.output, h.size, fun b hb _ => h.block b hb⟩
theorem Fr.toBelow {w w' : World} (h : Fr (fun _ => False) w w') : Below w.heap.size w w' := ⟨h.os, h.tape, h.output, h.size, fun b hb => h.block b hb (fun h => h)⟩
theorem Fr.drew {S : Foot} {w w' : World} (h : Fr S w w') (n : Nat) : Fr S w { w' with drawn := n } := ⟨h.os, h.tape, h.output, h.size, h.block⟩

structure Fits (w0 : World) (S0 : Foot) (ro rw : List SL) (S : Foot) (w : World) : Prop where
  fr : Fr S0 w0 w
  lt : ∀ b, S b → b < w.heap.size
  sub : ∀ b, S b → S0 b ∨ w0.heap.size ≤ b
  star : Star rw S w
  ros : ∀ e ∈ ro, ∃ F : Foot, (∀ b, F b → b < w.heap.size ∧ ¬ S b) ∧ e.p F w

/-- A step that touches the pieces 'cs' alone. -/
theorem Fits.step {w0 : World} {S0 : Foot} {ro cs rest : List SL} {S : Foot} {w : World} (h : Fits w0 S0 ro (cs ++ rest) S w) :
    ∃ A : Foot, Star cs A w ∧ (∀ b, A b → S b) ∧ (∀ b, A b → b < w.heap.size) ∧ (∀ e ∈ ro, ∃ F : Foot, (∀ b, F b → b < w.heap.size ∧ ¬ A b) ∧ e.p F w) ∧ (∀ e ∈ rest, ∃ F : Foot, (∀ b, F b → b < w.heap.size ∧ ¬ A b) ∧ e.p F w) ∧
      ∀ (w' : World) (S' : Foot) (es : List SL), Fr A w w' → (∀ b, S' b → b < w'.heap.size) → (∀ b, S' b → A b ∨ w.heap.size ≤ b) → Star es S' w' →
        ∃ T, Fits w0 S0 ro (es ++ rest) T w' := by
  obtain ⟨A, B, hA, hB, hd, ha, hb⟩ := h.star.split
  refine ⟨A, ha, hA, fun b hb' => h.lt b (hA b hb'), fun e he => ?_, fun e he => ?_, fun w' S' es hf hlt hsub hs => ⟨fun b => S' b ∨ B b, ?_⟩⟩
  · obtain ⟨F, hF, hp⟩ := h.ros e he
    exact ⟨F, fun b hb' => ⟨(hF b hb').1, fun hc => (hF b hb').2 (hA b hc)⟩, hp⟩
  · have key : ∀ {l : List SL} {B : Foot}, e ∈ l → Star l B w → (∀ b, B b → S b) → (∀ b, A b → B b → False) → ∃ F : Foot, (∀ b, F b → b < w.heap.size ∧ ¬ A b) ∧ e.p F w := by
      intro l
      induction l with
      | nil => intro _ hm; cases hm
      | cons f l ih =>
        intro B hm hst hBS hAB
        obtain ⟨C, D, hC, hD, _, hf, hl⟩ := hst
        cases hm with
        | head => exact ⟨C, fun b hb' => ⟨h.lt b (hBS b (hC b hb')), fun hc => hAB b hc (hC b hb')⟩, hf⟩
        | tail _ hm => exact ih hm hl (fun b hb' => hBS b (hD b hb')) (fun b hx hy => hAB b hx (hD b hy))
    exact key he hb hB hd
  · refine ⟨⟨hf.os.trans h.fr.os, hf.tape.trans h.fr.tape, hf.output.trans h.fr.output, Nat.le_trans h.fr.size hf.size, fun b hb' hn => ?_⟩, ?_, ?_, ?_, ?_⟩
    · have hz := h.fr.size
      have hna : ¬ A b := fun hab => (h.sub b (hA b hab)).elim hn (fun hge => by omega)
      exact (hf.block b (by omega) hna).trans (h.fr.block b hb' hn)
    · intro b hb'
      have hz := hf.size
      exact hb'.elim (hlt b) (fun hbb => by have := h.lt b (hB b hbb); omega)
    · intro b hb'
      have hz := h.fr.size
      exact hb'.elim (fun h1 => (hsub b h1).elim (fun h2 => h.sub b (hA b h2)) (fun h2 => .inr (by omega))) (fun hbb => h.sub b (hB b hbb))
    · refine Star.append (fun _ h => .inl h) (fun _ h => .inr h) (fun b h1 h2 => ?_) hs (hb.st fun b hbb => hf.block b (h.lt b (hB b hbb)) (fun hab => hd b hab hbb))
      exact (hsub b h1).elim (fun h3 => hd b h3 h2) (fun h3 => by have := h.lt b (hB b h2); omega)
    · intro e he
      obtain ⟨F, hF, hp⟩ := h.ros e he
      refine ⟨F, fun b hb' => ⟨by have := (hF b hb').1; have := hf.size; omega, fun hc => ?_⟩, e.st _ _ _ (fun b hb' => hf.block b (hF b hb').1 (fun hab => (hF b hb').2 (hA b hab))) hp⟩
      exact hc.elim (fun h1 => (hsub b h1).elim (fun h2 => (hF b hb').2 (hA b h2)) (fun h2 => by have := (hF b hb').1; omega)) (fun h1 => (hF b hb').2 (hB b h1))

/-- New pieces, nothing else touched. -/
theorem Fits.new {w0 : World} {S0 : Foot} {ro rw : List SL} {S : Foot} {w w' : World} (h : Fits w0 S0 ro rw S w) (hf : Below w.heap.size w w') (es : List SL) (S' : Foot)
    (hlt : ∀ b, S' b → w.heap.size ≤ b ∧ b < w'.heap.size) (hs : Star es S' w') : ∃ T, Fits w0 S0 ro (es ++ rw) T w' := by
  obtain ⟨A, _, _, _, _, _, hk⟩ := Fits.step (cs := []) (rest := rw) h
  exact hk w' S' es (Fr.below hf) (fun b hb => (hlt b hb).2) (fun b hb => .inr (hlt b hb).1) hs

theorem Fits.grow {w0 : World} {S0 : Foot} {ro rw : List SL} {S : Foot} {w w' : World} (h : Fits w0 S0 ro rw S w) (hf : Below w.heap.size w w') : ∃ T, Fits w0 S0 ro rw T w' :=
  h.new hf [] (fun _ => False) (fun _ h => h.elim) trivial

theorem Fits.drew {w0 : World} {S0 : Foot} {ro rw : List SL} {S : Foot} {w : World} (h : Fits w0 S0 ro rw S w) (n : Nat) : Fits w0 S0 ro rw S { w with drawn := n } :=
  ⟨h.fr.drew n, h.lt, h.sub, Star.st (w := w) (fun _ _ => rfl) h.star, fun e he => let ⟨F, hF, hp⟩ := h.ros e he; ⟨F, hF, e.st F w _ (fun _ _ => rfl) hp⟩⟩

/-- A piece is given away (or becomes one that is only read). -/
theorem Fits.give {w0 : World} {S0 : Foot} {ro rw : List SL} {S : Foot} {w : World} {k : Nat} {e : SL} (hk : rw[k]? = some e) (h : Fits w0 S0 ro rw S w) :
    ∃ T, Fits w0 S0 (e :: ro) (rw.eraseIdx k) T w := by
  obtain ⟨A, B, hA, hB, hd, ha, hb⟩ := h.star.take_ hk
  refine ⟨B, h.fr, fun b hb' => h.lt b (hB b hb'), fun b hb' => h.sub b (hB b hb'), hb, fun f hf => ?_⟩
  cases hf with
  | head => exact ⟨A, fun b hb' => ⟨h.lt b (hA b hb'), fun hc => hd b hb' hc⟩, ha⟩
  | tail _ hf =>
    obtain ⟨F, hF, hp⟩ := h.ros f hf
    exact ⟨F, fun b hb' => ⟨(hF b hb').1, fun hc => (hF b hb').2 (hB b hc)⟩, hp⟩

theorem Fits.move {w0 : World} {S0 : Foot} {ro rw : List SL} {S : Foot} {w : World} {k : Nat} {e : SL} (hk : rw[k]? = some e) (h : Fits w0 S0 ro rw S w) :
    Fits w0 S0 ro (e :: rw.eraseIdx k) S w := by
  obtain ⟨A, B, hA, hB, hd, ha, hb⟩ := h.star.take_ hk
  exact ⟨h.fr, h.lt, h.sub, ⟨A, B, hA, hB, hd, ha, hb⟩, h.ros⟩

/-- every piece, the ones that are only read among them, holds on some blocks -/
theorem Fits.see {w0 : World} {S0 : Foot} {ro rw : List SL} {S : Foot} {w : World} {e : SL} (he : e ∈ ro ++ rw) (h : Fits w0 S0 ro rw S w) :
    ∃ F : Foot, (∀ b, F b → b < w.heap.size) ∧ e.p F w := by
  rcases List.mem_append.1 he with he | he
  · obtain ⟨F, hF, hp⟩ := h.ros e he
    exact ⟨F, fun b hb => (hF b hb).1, hp⟩
  · obtain ⟨A, _, _, _, _, hr, _⟩ := Fits.step (cs := []) (rest := rw) h
    obtain ⟨F, hF, hp⟩ := hr e he
    exact ⟨F, fun b hb => (hF b hb).1, hp⟩

/-! ## slots -/
abbrev Env := List (Nat × Value)
def Env.get : List (Nat × Value) → Nat → Option Value
  | [], _ => none
  | (s, v) :: e, t => match Nat.beq s t with
    | true => some v
    | false => Env.get e t
def Env.ev (e : Env) : Operand → Option Value
  | .tmp t => Env.get e t
  | .const v => some v
  | .global g => some (.pointer (some ⟨g, 0, none⟩))
  | .func f => some (.func (.func f) #[] #[])

structure Agree (N : Nat) (e : Env) (a : Act) : Prop where
  size : a.tmps.size = N
  defers : a.defers = []
  at_ : ∀ t v, Env.get e t = some v → a.tmps[t]? = some v

theorem Agree.ev {N : Nat} {e : Env} {a : Act} (h : Agree N e a) {x : Operand} {v : Value} (hx : Env.ev e x = some v) : a.eval x = v := by
  cases x with
  | tmp t =>
    have := h.at_ t v hx
    simp [Act.eval, Array.getD_eq_getD_getElem?, this]
  | const u => simpa [Env.ev, Act.eval] using hx
  | global g => simpa [Env.ev, Act.eval] using hx
  | func f => simpa [Env.ev, Act.eval] using hx

theorem Agree.put {N : Nat} {e : Env} {a : Act} (h : Agree N e a) {d : Nat} (hd : Nat.blt d N = true) (v : Value) : Agree N ((d, v) :: e) (a.put (some d) v) := by
  have hd' : d < N := by simpa [Nat.blt_eq] using hd
  refine ⟨by simp [Act.put, h.size], by simp [Act.put, h.defers], fun t u ht => ?_⟩
  simp only [Act.put, Array.getElem?_setIfInBounds]
  by_cases hdt : d = t
  · subst hdt
    simp [Env.get] at ht
    simp [h.size, hd', ht]
  · rw [if_neg hdt]
    have hb : Nat.beq d t = false := by
      cases hb : Nat.beq d t with
      | true => exact absurd (Nat.eq_of_beq_eq_true hb) hdt
      | false => rfl
    simp only [Env.get, hb] at ht
    exact h.at_ t u ht

theorem Agree.put_none {N : Nat} {e : Env} {a : Act} (h : Agree N e a) (v : Value) : Agree N e (a.put none v) := h

def SubE : Env → Env → Prop
  | [], _ => True
  | (t, v) :: E, e => Env.get e t = some v ∧ SubE E e
theorem SubE.get : ∀ {E e : Env}, SubE E e → ∀ t v, Env.get E t = some v → Env.get e t = some v
  | [], _, _, _, _, h => by simp [Env.get] at h
  | (s, u) :: E, e, ⟨h1, h2⟩, t, v, h => by
    cases hb : Nat.beq s t with
    | true =>
      simp only [Env.get, hb] at h
      have := Nat.eq_of_beq_eq_true hb
      subst this
      rw [h1, h]
    | false => simp only [Env.get, hb] at h; exact h2.get t v h
theorem Agree.sub {N : Nat} {E e : Env} {a : Act} (hs : SubE E e) (h : Agree N e a) : Agree N E a := ⟨h.size, h.defers, fun t v ht => h.at_ t v (hs.get t v ht)⟩

/-! ## the judgements -/
def HQ (N : Nat) (w0 : World) (S0 : Foot) (env : Env) (ro rw : List SL) (Q : Act → World → Prop) : Prop :=
  ∀ (a : Act) (S : Foot) (w : World), Agree N env a → Fits w0 S0 ro rw S w → Q a w
def HC (P : Program) (N : Nat) (w0 : World) (S0 : Foot) (c : Code) (env : Env) (ro rw : List SL) (Q : Exit → Act → World → Prop) : Prop := HQ N w0 S0 env ro rw (c.wp P Q)
def HX (N : Nat) (w0 : World) (S0 : Foot) (e : Exit) (env : Env) (ro rw : List SL) (Q : Exit → Act → World → Prop) : Prop := HQ N w0 S0 env ro rw (Q e)

/-! parts of code by name, so that goals stay small -/
def isSeq : Code → Bool | .seq _ _ => true | _ => false
def isCond : Code → Bool | .cond _ _ _ => true | _ => false
def isBlock : Code → Bool | .block _ _ => true | _ => false
def isLoop : Code → Bool | .loop _ => true | _ => false
def isScope : Code → Bool | .scope _ => true | _ => false
def isExit : Code → Bool | .exit _ => true | _ => false
def isRet : Code → Bool | .ret => true | _ => false
def isSkip : Code → Bool | .skip => true | _ => false
def isLabel : Code → Bool | .label _ => true | _ => false
def isOrd : Code → Bool | .region _ _ false => true | _ => false
def isDraw : Code → Bool | .region _ _ true => true | _ => false
def cL : Code → Code | .seq a _ => a | c => c
def cR : Code → Code | .seq _ b => b | c => c
def cT : Code → Code | .cond _ a _ => a | c => c
def cE : Code → Code | .cond _ _ b => b | c => c
def cB : Code → Code | .block _ c => c | .loop c => c | .scope c => c | c => c
def cId : Code → Nat | .block i _ => i | .exit i => i | .region i _ _ => i | _ => 0
def cCond : Code → Operand | .cond c _ _ => c | _ => .tmp 0
def cOps : Code → List Oper | .region _ ops _ => ops.toList | _ => []
def bodyOf (f : Func) : Code := f.body.getD .skip

section
variable {P : Program} {N : Nat} {w0 : World} {S0 : Foot} {c : Code} {env : Env} {ro rw : List SL} {Q Q' : Exit → Act → World → Prop}

theorem HC_seq (hk : isSeq c = true) (h : HC P N w0 S0 (cL c) env ro rw (Exit.then ((cR c).wp P Q) Q)) : HC P N w0 S0 c env ro rw Q := by
  cases c <;> simp [isSeq] at hk
  exact fun a S w ha hf => wp_seq (h a S w ha hf)
theorem HC_block (hk : isBlock c = true) (h : HC P N w0 S0 (cB c) env ro rw (Exit.inBlock (cId c) Q)) : HC P N w0 S0 c env ro rw Q := by
  cases c <;> simp [isBlock] at hk
  exact fun a S w ha hf => wp_block (h a S w ha hf)
theorem HC_scope (hk : isScope c = true) (h : HC P N w0 S0 (cB c) env ro rw (Exit.noGoto Q)) : HC P N w0 S0 c env ro rw Q := by
  cases c <;> simp [isScope] at hk
  exact fun a S w ha hf => wp_scope_straight (h a S w ha hf)
theorem HC_exit (hk : isExit c = true) (h : HX N w0 S0 (.exit (cId c)) env ro rw Q) : HC P N w0 S0 c env ro rw Q := by
  cases c <;> simp [isExit] at hk
  exact fun a S w ha hf => wp_exit (h a S w ha hf)
theorem HC_ret (hk : isRet c = true) (h : HX N w0 S0 .ret env ro rw Q) : HC P N w0 S0 c env ro rw Q := by
  cases c <;> simp [isRet] at hk
  exact fun a S w ha hf => wp_ret (h a S w ha hf)
theorem HC_skip (hk : isSkip c = true) (h : HX N w0 S0 .normal env ro rw Q) : HC P N w0 S0 c env ro rw Q := by
  cases c <;> simp [isSkip] at hk
  exact fun a S w ha hf => wp_skip (h a S w ha hf)
theorem HC_label (hk : isLabel c = true) (h : HX N w0 S0 .normal env ro rw Q) : HC P N w0 S0 c env ro rw Q := by
  cases c <;> simp [isLabel] at hk
  exact fun a S w ha hf => wp_label (h a S w ha hf)
theorem HC_cond {b : Bool} (hk : isCond c = true) (hv : Env.ev env (cCond c) = some (.bool b)) (ht : b = true → HC P N w0 S0 (cT c) env ro rw Q) (hf : b = false → HC P N w0 S0 (cE c) env ro rw Q) :
    HC P N w0 S0 c env ro rw Q := by
  cases c <;> simp [isCond] at hk
  exact fun a S w ha hw => wp_cond_split (ha.ev hv) (fun h => ht h a S w ha hw) (fun h => hf h a S w ha hw)

theorem HX_then {c : Code} {Q' : Exit → Act → World → Prop} (h : HC P N w0 S0 c env ro rw Q) : HX N w0 S0 .normal env ro rw (Exit.then (c.wp P Q) Q') := h
theorem HX_then_ret {K : Act → World → Prop} (h : HX N w0 S0 .ret env ro rw Q) : HX N w0 S0 .ret env ro rw (Exit.then K Q) := h
theorem HX_then_exit {i : Nat} {K : Act → World → Prop} (h : HX N w0 S0 (.exit i) env ro rw Q) : HX N w0 S0 (.exit i) env ro rw (Exit.then K Q) := h
theorem HX_block_normal {i : Nat} (h : HX N w0 S0 .normal env ro rw Q) : HX N w0 S0 .normal env ro rw (Exit.inBlock i Q) := h
theorem HX_block_ret {i : Nat} (h : HX N w0 S0 .ret env ro rw Q) : HX N w0 S0 .ret env ro rw (Exit.inBlock i Q) := h
theorem HX_block_hit {i j : Nat} (hij : Nat.beq i j = true) (h : HX N w0 S0 .normal env ro rw Q) : HX N w0 S0 (.exit i) env ro rw (Exit.inBlock j Q) := by
  have := Nat.eq_of_beq_eq_true hij
  subst this
  intro a S w ha hf
  simp only [Exit.inBlock, if_true]
  exact h a S w ha hf
theorem HX_block_miss {i j : Nat} (hij : Nat.beq i j = false) (h : HX N w0 S0 (.exit i) env ro rw Q) : HX N w0 S0 (.exit i) env ro rw (Exit.inBlock j Q) := by
  have hne : i ≠ j := fun e => by subst e; simp at hij
  intro a S w ha hf
  simp only [Exit.inBlock, hne, if_false]
  exact h a S w ha hf
theorem HX_scope_normal (h : HX N w0 S0 .normal env ro rw Q) : HX N w0 S0 .normal env ro rw (Exit.noGoto Q) := h
theorem HX_scope_ret (h : HX N w0 S0 .ret env ro rw Q) : HX N w0 S0 .ret env ro rw (Exit.noGoto Q) := h
theorem HX_scope_exit {i : Nat} (h : HX N w0 S0 (.exit i) env ro rw Q) : HX N w0 S0 (.exit i) env ro rw (Exit.noGoto Q) := h

/-- what may be forgotten, and another order of the pieces -/
theorem HQ_env {E : Env} {K : Act → World → Prop} (hs : SubE E env) (h : HQ N w0 S0 E ro rw K) : HQ N w0 S0 env ro rw K := fun a S w ha hf => h a S w (ha.sub hs) hf
theorem HQ_give {K : Act → World → Prop} {k : Nat} {e : SL} (hk : rw[k]? = some e) (h : HQ N w0 S0 env (e :: ro) (rw.eraseIdx k) K) : HQ N w0 S0 env ro rw K :=
  fun a _ w ha hf => let ⟨T, hT⟩ := hf.give hk; h a T w ha hT
theorem HQ_move {K : Act → World → Prop} (k : Nat) {e : SL} (hk : rw[k]? = some e) (h : HQ N w0 S0 env ro (e :: rw.eraseIdx k) K) : HQ N w0 S0 env ro rw K :=
  fun a S w ha hf => h a S w ha (hf.move hk)

/-- A cut, or a loop's head: what holds there. -/
def At (N : Nat) (w0 : World) (S0 : Foot) (ro : List SL) {α : Type} (φ : α → Prop) (E : α → Env) (R : α → List SL) (a : Act) (w : World) : Prop :=
  ∃ x, φ x ∧ ∃ S, Agree N (E x) a ∧ Fits w0 S0 ro (R x) S w

theorem HQ_at {α : Type} {φ : α → Prop} {E : α → Env} {R : α → List SL} (x : α) (hφ : φ x) (hE : SubE (E x) env) (hR : rw = R x) : HQ N w0 S0 env ro rw (At N w0 S0 ro φ E R) :=
  fun a S w ha hf => ⟨x, hφ, S, ha.sub hE, hR ▸ hf⟩
theorem HX_at {α : Type} {φ : α → Prop} {E : α → Env} {R : α → List SL} (x : α) (hφ : φ x) (hE : SubE (E x) env) (hR : rw = R x) : HX N w0 S0 .normal env ro rw (Exit.then (At N w0 S0 ro φ E R) Q) :=
  HQ_at x hφ hE hR

theorem HC_cut {α : Type} (φ : α → Prop) (E : α → Env) (R : α → List SL) (hk : isSeq c = true) (h : HC P N w0 S0 (cL c) env ro rw (Exit.then (At N w0 S0 ro φ E R) Q))
    (h2 : ∀ x, φ x → HC P N w0 S0 (cR c) (E x) ro (R x) Q) : HC P N w0 S0 c env ro rw Q := by
  cases c <;> simp [isSeq] at hk
  rename_i x y
  intro a S w ha hf
  refine wp_seq (wp_mono (h a S w ha hf) fun e a' w' hq => ?_)
  cases e <;> first
    | (obtain ⟨z, hz, T, hA, hT⟩ := hq; exact h2 z hz a' T w' hA hT)
    | exact hq

theorem HC_loop {α : Type} (φ : α → Prop) (E : α → Env) (R : α → List SL) (μ : α → Nat) (hk : isLoop c = true) (x0 : α) (hφ : φ x0) (hE : SubE (E x0) env) (hR : rw = R x0)
    (h : ∀ x, φ x → HC P N w0 S0 (cB c) (E x) ro (R x) (Exit.then (At N w0 S0 ro (fun y => φ y ∧ μ y < μ x) E R) Q)) : HC P N w0 S0 c env ro rw Q := by
  cases c <;> simp [isLoop] at hk
  rename_i c
  subst hR
  intro a S w ha hf
  have key : ∀ (n : Nat) (x : α), μ x < n → φ x → ∀ a S w, Agree N (E x) a → Fits w0 S0 ro (R x) S w → ∀ (b : Frame) (k : List Item) (cs : List Frame),
      ∃ e a' w', Q e a' w' ∧ Arrives P (lone (b.at a (.code c :: .inLoop c :: k)) cs w) b k cs e a' w' := by
    intro n
    induction n with
    | zero => intro x hx; omega
    | succ n ih =>
      intro x hx hφ a S w ha hf b k cs
      obtain ⟨e, a₁, w₁, hq, harr⟩ := h x hφ a S w ha hf b (.inLoop c :: k) cs
      cases e with
      | normal =>
        obtain ⟨y, ⟨hy, hlt⟩, T, hA, hT⟩ := hq
        obtain ⟨e₂, a₂, w₂, hq₂, harr₂⟩ := ih y (by omega) hy a₁ T w₁ hA hT b k cs
        exact ⟨e₂, a₂, w₂, hq₂, .of_steps (Steps.trans harr (.one step_inLoop)) harr₂⟩
      | exit id => exact ⟨_, a₁, w₁, hq, .pass (x := .inLoop c) rfl (fun _ _ => .inl (by simp)) harr⟩
      | goto l => exact ⟨_, a₁, w₁, hq, .pass (x := .inLoop c) rfl (fun _ _ => .inl (by simp)) harr⟩
      | ret => exact ⟨_, a₁, w₁, hq, .pass (x := .inLoop c) rfl (fun _ _ => .inl (by simp)) harr⟩
      | panic ch => exact ⟨_, a₁, w₁, hq, .pass (x := .inLoop c) rfl (fun _ _ => .inl (by simp)) harr⟩
      | outgrown => exact ⟨_, a₁, w₁, hq, .pass (x := .inLoop c) rfl (fun _ _ => .inl (by simp)) harr⟩
  intro b k cs
  obtain ⟨e, a', w', hq, harr⟩ := key _ x0 (Nat.lt_succ_self _) hφ a S w (ha.sub hE) hf b k cs
  exact ⟨e, a', w', hq, .of_steps (.one step_loop) harr⟩
end

end Go.Proofs.YtdeeokkkcfkbjaaDoor
