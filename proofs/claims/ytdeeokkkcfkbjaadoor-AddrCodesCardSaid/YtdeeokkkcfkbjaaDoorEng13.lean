/- The symbolic walk: a range over a function: code in a round, the loop itself, and what follows it up to the return. -/
import Derived.Test.YtdeeokkkcfkbjaaDoorEng12
import Derived.RangeFuncFrom
import Derived.RangeFuncLeaves
import Derived.OwnWalkIn
namespace Go.Proofs.YtdeeokkkcfkbjaaDoor
set_option linter.unusedVariables false
set_option linter.unusedSimpArgs false
open Go.RowKit

/-! ## code in a round -/
abbrev FW (r : Option Nat) : Fence := { Fence.wide with round := r }
def noDefB (l : List Oper) : Bool := l.all fun o => match o.op with
  | .defer _ => false
  | _ => true
section
variable {P : Program} {ops : Array Oper} {K : Act → World → Prop} {Q : Exit → Act → World → Prop} {r : Option Nat} {m : Nat}
theorem rows_toIn {row : String} {args : Array Value} {w : World} {R : Value → World → Prop} (h : Rows P row args w R) : RowsIn (FW r) m P row args w R := fun c cs _ => by
  obtain ⟨v, w', hr, hs⟩ := h c cs
  have := (stepsIn_wide (P := P)).2 hs
  exact ⟨v, w', hr, this⟩
theorem upon_toIn {o : Oper} {a : Act} {n n' : Act → World → Prop} {x : Result Next} (hn : ∀ b w, n b w → n' b w) (h : o.upon P a n (Kof K) x) : o.uponIn (FW r) m P a n' Q x := by
  cases x with
  | ok x w' =>
    cases x <;> simp only [Oper.upon, Oper.uponIn] at h ⊢
    all_goals first
      | exact hn _ _ h
      | exact ⟨fun hh => (by cases hh), callsIn_wide.2 (Calls.mono h fun e w'' he => by
          cases e
          · exact hn _ _ he
          · exact he.elim
          · obtain ⟨_, _, hx⟩ := he; exact hx.elim)⟩
      | exact ⟨fun hh => (by cases hh), rows_toIn (Rows.mono h fun v w'' he => hn _ _ he)⟩
  | halt x w' => cases x <;> simp only [Oper.upon, Oper.uponIn] at h ⊢ <;> exact h.elim
theorem wp_toIn {o : Oper} {a : Act} {w : World} {n n' : Act → World → Prop} (hd : noDefB [o] = true) (hn : ∀ b w, n b w → n' b w) (h : o.wp P a w n (Kof K)) : o.wpIn (FW r) m P a w n' Q := by
  refine ⟨fun _ _ => trivial, ?_⟩
  rw [Oper.semAt_eq _ _ _ (fun c hc => by simp [noDefB, hc] at hd)]
  exact upon_toIn hn h
theorem noDef_cons {o : Oper} {l : List Oper} (h : noDefB (o :: l) = true) : noDefB [o] = true ∧ noDefB l = true := by
  simp only [noDefB, List.all_cons, List.all_nil, Bool.and_true, Bool.and_eq_true] at h ⊢
  exact h
theorem wpList_toIn (hK : ∀ a w, K a w → Q .normal a w) : ∀ (l : List Oper) (a : Act) (w : World), noDefB l = true → wpList P ops (Kof K) l a w → wpListIn (FW r) m P ops Q l a w
  | [], a, w, _, h => hK a w h
  | o :: l, a, w, hd, h => by
    obtain ⟨h1, h2⟩ := noDef_cons hd
    unfold wpList at h
    unfold wpListIn
    split
    · rename_i hw
      simp only [hw, if_true] at h
      rcases h with h | ⟨_, _, _, hx⟩
      · exact wp_toIn h1 (fun b w' => wpList_toIn hK l b w' h2) h
      · exact hx.elim
    · rename_i hw
      simp only [hw] at h
      exact ⟨fun _ _ => trivial, wpList_toIn hK l _ _ h2 h⟩
theorem noDef_at {l : List Oper} (h : noDefB l = true) {i : Nat} {o : Oper} (ho : l.toArray[i]? = some o) : noDefB [o] = true := by
  have hm : o ∈ l := List.mem_of_getElem? (by simpa using ho)
  unfold noDefB at h ⊢
  rw [List.all_eq_true] at h
  simp only [List.all_cons, List.all_nil, Bool.and_true]
  exact h o hm
theorem wpOp_toIn {i : Nat} {n n' : Act → World → Prop} {a : Act} {w : World} (hd : noDefB ops.toList = true) (hn : ∀ b w, n b w → n' b w) (h : wpOp P ops (Kof K) i n a w) : wpOpIn (FW r) m P ops Q i n' a w := by
  unfold wpOp at h
  unfold wpOpIn
  cases ho : ops[i]? with
  | none => simp only [ho] at h ⊢; exact hn _ _ h
  | some o =>
    simp only [ho] at h ⊢
    split
    · rename_i hw
      simp only [hw, if_true] at h
      rcases h with h | ⟨_, _, _, hx⟩
      · exact wp_toIn (noDef_at hd (by simpa using ho)) hn h
      · exact hx.elim
    · rename_i hw
      simp only [hw] at h
      exact ⟨fun _ _ => trivial, hn _ _ h⟩
theorem wpAny_toIn (hK : ∀ a w, K a w → Q .normal a w) (hd : noDefB ops.toList = true) : ∀ (fuel : Nat) (listed : Array Bool) (a : Act) (w : World), wpAny P .any ops (Kof K) fuel listed a w → wpAnyIn (FW r) m P .any ops Q fuel listed a w
  | 0, _, _, _, h => ⟨h.1, hK _ _ h.2⟩
  | fuel + 1, _, _, _, h => ⟨fun e => hK _ _ (h.1 e), fun i hi => wpOp_toIn hd (fun b w => wpAny_toIn hK hd fuel _ b w) (h.2 i hi)⟩
end

def HR (r : Option Nat) (m : Nat) (P : Program) (N : Nat) (w0 : World) (S0 : Foot) (c : Code) (env : Env) (ro rw : List SL) (Q : Exit → Act → World → Prop) : Prop := HQ N w0 S0 env ro rw (c.wpIn (FW r) m P Q)
section
variable {r : Option Nat} {m : Nat} {P : Program} {N : Nat} {w0 : World} {S0 : Foot} {c : Code} {env : Env} {ro rw : List SL} {Q Q' : Exit → Act → World → Prop}
theorem HR_seq (hk : isSeq c = true) (h : HR r m P N w0 S0 (cL c) env ro rw (Exit.then ((cR c).wpIn (FW r) m P Q) Q)) : HR r m P N w0 S0 c env ro rw Q := by
  cases c <;> simp [isSeq] at hk
  exact fun a S w ha hf => wpIn_seq (h a S w ha hf)
theorem HR_block (hk : isBlock c = true) (h : HR r m P N w0 S0 (cB c) env ro rw (Exit.inBlock (cId c) Q)) : HR r m P N w0 S0 c env ro rw Q := by
  cases c <;> simp [isBlock] at hk
  exact fun a S w ha hf => wpIn_block (h a S w ha hf)
theorem HR_then (h : HR r m P N w0 S0 c env ro rw Q) : HX N w0 S0 .normal env ro rw (Exit.then (c.wpIn (FW r) m P Q) Q') := h
theorem HR_ord {l : List Nat} (hk : isOrd c = true) (hl : nlist (cOps c) = some l) (hs : seqB 0 l = true) (hn : Nat.beq l.length (cOps c).length = true) (hd : noDefB (cOps c) = true) (h : HO .ord P N w0 S0 (cOps c) l env ro rw (Q .normal)) : HR r m P N w0 S0 c env ro rw Q := by
  cases c <;> try (simp [isOrd] at hk; done)
  rename_i id ops draw
  cases draw <;> try (simp [isOrd] at hk; done)
  intro a S w ha hf
  have h1 := h a S w ha hf
  have h2 := opsAt_all (cOps (.region id ops false)) l 0 (seqB_spec hs) (by simpa using Nat.eq_of_beq_eq_true hn)
  rw [h2] at h1
  simp only [cOps, List.drop_zero, Array.toArray_toList] at h1
  exact wpIn_region_list (wpList_toIn (fun _ _ h => h) _ _ _ hd h1)
theorem HR_lex {l : List Nat} (hk : isDraw c = true) (hl : elist (cOps c) = some l) (hs : (dlist (cOps c) l).toList.all (!·) = true) (hn : Nat.beq l.length (cOps c).length = true) (hm : P.follows .mixedOrders = true) (hd : noDefB (cOps c) = true)
    (h : HO (.lex ro) P N w0 S0 (cOps c) l env ro rw (Q .normal)) : HR r m P N w0 S0 c env ro rw Q := by
  cases c <;> try (simp [isDraw] at hk; done)
  rename_i id ops draw
  cases draw <;> try (simp [isDraw] at hk; done)
  intro a S w ha hf
  have h1 := h [] rfl a S _ ha (hf.drew (w.drawn + 1))
  have hn' := Nat.eq_of_beq_eq_true hn
  have hdl : dlist (cOps (.region id ops true)) l = Array.replicate ops.size false := by
    apply Array.ext'
    rw [Array.toList_replicate]
    apply List.eq_replicate_iff.2
    refine ⟨by simp [dlist, cOps], fun b hb => ?_⟩
    have := List.all_eq_true.1 hs b hb
    simpa using this
  rw [hdl, hn'] at h1
  simp only [cOps, Array.toArray_toList, Array.length_toList] at h1
  exact wpIn_region_any (id := id) hm (wpAny_toIn (fun _ _ h => h) hd _ _ _ _ (wpAny_of_D _ _ _ _ h1))
end

/-! ## pieces that are cells -/
def CellB (w : World) (b : Nat) : Prop := ∃ o : Obj, w.heap[b]? = some o ∧ o.isCells = true
def Cellish (e : SL) : Prop := ∀ (S : Foot) (w : World), e.p S w → e.p (fun b => S b ∧ CellB w b) w
theorem Cellish.cel {b : Nat} {T : TypeId} {cs : List Value} : Cellish (cel b T cs) := fun S w h => ⟨⟨h.1, _, h.2, rfl⟩, h.2⟩
theorem Cellish.own {α : Type} {enc : α → List Value} {T sz n c : Nat} {A : Option Addr} {l : List α} : Cellish (own enc T sz A n c l) := fun S w h => ⟨h.1, h.2.1, fun ad hA => ⟨h.2.2 ad hA, by
  obtain ⟨_, ⟨_, h3⟩, _⟩ := h
  subst hA
  rcases h3 with ⟨h3, _⟩ | ⟨g, cap, cur, hv, hg, hh, _⟩
  · cases h3
  · have : ad = ⟨g, 0, none⟩ := by injection hv with hv; injection hv
    subst this
    exact ⟨_, hh, rfl⟩⟩⟩
theorem Cellish.arr {α : Type} {enc : α → List Value} {sz sz' : Nat} {A : Option Addr} {l : List α} [he : EncOk enc sz'] (hs : Nat.blt 0 sz' = true) : Cellish (arr enc sz A l) := fun S w h hne => by
  obtain ⟨ad, hA, hS, hc⟩ := h hne
  refine ⟨ad, hA, ⟨hS, ?_⟩, hc⟩
  cases l with
  | nil => exact absurd rfl hne
  | cons x l =>
    have hl := (he.h x).1
    have : 0 < (enc x).length := by rw [hl]; simpa using hs
    obtain ⟨o, ho, hcl⟩ := cells_of_cell (hc 0 x rfl 0 _ (List.getElem?_eq_getElem this))
    rw [block_of_add] at ho
    exact ⟨o, ho, hcl⟩
theorem Cellish.inn {L : List SL} (h : ∀ e ∈ L, Cellish e) : Cellish (inn L) := fun S w hp e he => by
  obtain ⟨F, hF, h1⟩ := hp e he
  exact ⟨fun b => F b ∧ CellB w b, fun b hb => ⟨hF b hb.1, hb.2⟩, h e he F w h1⟩
theorem Star.cells : ∀ {es : List SL} {S : Foot} {w : World}, (∀ e ∈ es, Cellish e) → Star es S w → Star es (fun b => S b ∧ CellB w b) w
  | [], _, _, _, _ => trivial
  | e :: es, S, w, h, ⟨A, B, hA, hB, hd, he, hs⟩ =>
    ⟨fun b => A b ∧ CellB w b, fun b => B b ∧ CellB w b, fun b hb => ⟨hA b hb.1, hb.2⟩, fun b hb => ⟨hB b hb.1, hb.2⟩, fun b h1 h2 => hd b h1.1 h2.1, h e (by simp) A w he, Star.cells (fun f hf => h f (by simp [hf])) hs⟩
structure FitsC (w0 : World) (S0 : Foot) (ro rw : List SL) (S : Foot) (w : World) : Prop where
  f : Fits w0 S0 ro rw S w
  c : ∀ b, S b → CellB w b
  r : ∀ e ∈ ro, ∃ F : Foot, (∀ b, F b → b < w.heap.size ∧ ¬ S b ∧ CellB w b) ∧ e.p F w
theorem Fits.cells {w0 : World} {S0 : Foot} {ro rw : List SL} {S : Foot} {w : World} (h : Fits w0 S0 ro rw S w) (h1 : ∀ e ∈ ro, Cellish e) (h2 : ∀ e ∈ rw, Cellish e) : FitsC w0 S0 ro rw (fun b => S b ∧ CellB w b) w :=
  ⟨⟨h.fr, fun b hb => h.lt b hb.1, fun b hb => h.sub b hb.1, h.star.cells h2, fun e he => by
      obtain ⟨F, hF, hp⟩ := h.ros e he
      exact ⟨F, fun b hb => ⟨(hF b hb).1, fun hc => (hF b hb).2 hc.1⟩, hp⟩⟩, fun b hb => hb.2, fun e he => by
    obtain ⟨F, hF, hp⟩ := h.ros e he
    exact ⟨fun b => F b ∧ CellB w b, fun b hb => ⟨(hF b hb.1).1, fun hc => (hF b hb.1).2 hc.1, hb.2⟩, h1 e he F w hp⟩⟩
/-- what is no cells may be turned, from B on -/
theorem FitsC.grown {w0 : World} {S0 : Foot} {ro rw : List SL} {S : Foot} {w w' : World} {row : Option Nat} {B : Nat} (h : FitsC w0 S0 ro rw S w) (hB : w0.heap.size ≤ B) (hg : w.grownBy w' row)
    (hr : ∀ q, row = some q → B ≤ q ∧ ∃ o : Obj, w.heap[q]? = some o ∧ o.isCells = false) : FitsC w0 S0 ro rw S w' := by
  have hcell : ∀ b, CellB w b → w'.heap[b]? = w.heap[b]? := fun b ⟨o, ho, hc⟩ => hg.block b (Array.getElem?_eq_some_iff.1 ho).1 (fun e => by
    obtain ⟨_, o', ho', hc'⟩ := hr b e.symm
    rw [ho] at ho'; cases ho'; rw [hc] at hc'; cases hc')
  have hcb : ∀ b, CellB w b → CellB w' b := fun b hb => by
    obtain ⟨o, ho, hc⟩ := hb
    exact ⟨o, (hcell b ⟨o, ho, hc⟩).trans ho, hc⟩
  have hsz := hg.size
  have h0 := h.f.fr.size
  refine ⟨⟨⟨hg.os.trans h.f.fr.os, hg.tape.trans h.f.fr.tape, hg.output.trans h.f.fr.output, by omega, fun b hb hn => ?_⟩, fun b hb => by have := h.f.lt b hb; omega, h.f.sub, h.f.star.st fun b hb => hcell b (h.c b hb), fun e he => ?_⟩, fun b hb => hcb b (h.c b hb), fun e he => ?_⟩
  · refine (hg.block b (by omega) (fun e => ?_)).trans (h.f.fr.block b hb hn)
    have := (hr b e.symm).1
    omega
  · obtain ⟨F, hF, hp⟩ := h.r e he
    exact ⟨F, fun b hb => ⟨by have := (hF b hb).1; omega, (hF b hb).2.1⟩, e.st F w w' (fun b hb => hcell b (hF b hb).2.2) hp⟩
  · obtain ⟨F, hF, hp⟩ := h.r e he
    exact ⟨F, fun b hb => ⟨by have := (hF b hb).1; omega, (hF b hb).2.1, hcb b (hF b hb).2.2⟩, e.st F w w' (fun b hb => hcell b (hF b hb).2.2) hp⟩

/-! ## behind the loop: the mark among the deferred calls -/
def markD (D : Nat) : Deferred := { target := .collected D, args := #[] }
def markP (D : Nat) : SL where
  p S w := S D ∧ w.heap[D]? = some (.deferred (some []))
  st S w w' h hp := ⟨hp.1, (h D hp.1).trans hp.2⟩
def mk (D : Nat) (Q : Exit → Act → World → Prop) : Exit → Act → World → Prop := fun e b w => Q e { b with defers := [markD D] } w
def HM (D : Nat) (P : Program) (N : Nat) (w0 : World) (S0 : Foot) (c : Code) (env : Env) (ro rw : List SL) (Q : Exit → Act → World → Prop) : Prop := HQ N w0 S0 env ro rw (fun b w => c.wp P Q { b with defers := [markD D] } w)
section
variable {D : Nat} {P : Program} {N : Nat} {w0 : World} {S0 : Foot} {c : Code} {env : Env} {ro rw : List SL} {Q Q' : Exit → Act → World → Prop} {K : Act → World → Prop} {ops : Array Oper}
theorem upon_mark {o : Oper} {a : Act} {n n' : Act → World → Prop} {x : Result Next} {ds : List Deferred} (hd : ∀ d w, x ≠ .ok (.defer d) w) (hn : ∀ v w, n (a.put o.dst v) w → n' ({ a with defers := ds }.put o.dst v) w) (h : o.upon P a n (Kof K) x) : o.upon P { a with defers := ds } n' Q x := by
  cases x with
  | ok x w' =>
    cases x <;> simp only [Oper.upon] at h ⊢
    all_goals first
      | exact hn _ _ h
      | exact absurd rfl (hd _ _)
      | exact Calls.mono h fun e w'' he => by
          cases e
          · exact hn _ _ he
          · exact he.elim
          · obtain ⟨_, _, hx⟩ := he; exact hx.elim
      | exact Rows.mono h fun v w'' he => hn _ _ he
  | halt x w' => cases x <;> simp only [Oper.upon] at h ⊢ <;> exact h.elim
theorem put_defers (a : Act) (dst : Option Nat) (v : Value) (ds : List Deferred) : { a with defers := ds }.put dst v = { (a.put dst v) with defers := ds } := by
  cases dst <;> rfl
theorem HM_seq (hk : isSeq c = true) (h : HM D P N w0 S0 (cL c) env ro rw (Exit.then ((cR c).wp P Q) Q)) : HM D P N w0 S0 c env ro rw Q := by
  cases c <;> simp [isSeq] at hk
  exact fun a S w ha hf => wp_seq (h a S w ha hf)
theorem HM_ret (hk : isRet c = true) (h : HX N w0 S0 .ret env ro rw (mk D Q)) : HM D P N w0 S0 c env ro rw Q := by
  cases c <;> simp [isRet] at hk
  exact fun a S w ha hf => wp_ret (h a S w ha hf)
theorem HM_then (h : HM D P N w0 S0 c env ro rw Q) : HX N w0 S0 .normal env ro rw (mk D (Exit.then (c.wp P Q) Q')) := h
theorem HM_block {i : Nat} (h : HX N w0 S0 .normal env ro rw (mk D Q)) : HX N w0 S0 .normal env ro rw (mk D (Exit.inBlock i Q)) := h
theorem HM_rthen {K : Act → World → Prop} (h : HX N w0 S0 .ret env ro rw (mk D Q)) : HX N w0 S0 .ret env ro rw (mk D (Exit.then K Q)) := h
/-- one operation that assigns -/
theorem HM_asg {i d : Nat} {x : Operand} {v : Value} {ty : TypeId} {pos : String} (hc : c = .region i #[⟨some d, .assign x, ty, pos, #[], none⟩] false) (hx : Env.ev env x = some v) (hd : Nat.blt d N = true) (h : HX N w0 S0 .normal ((d, v) :: env) ro rw (mk D Q)) : HM D P N w0 S0 c env ro rw Q := by
  subst hc
  intro a S w ha hf
  have hv := ha.ev hx
  have hev : ({ a with defers := [markD D] } : Act).eval x = v := by rw [← hv]; cases x <;> rfl
  refine wp_region_list ?_
  unfold wpList
  simp only [Region.wanted, if_true]
  left
  unfold Oper.wp
  simp only [execOp, hev, Sem.run_pure, Oper.upon_value]
  rw [put_defers]
  exact h _ S w (ha.put hd v) hf
end
/-- A function that holds such a loop. -/
theorem Tri_ofM {P : Program} {g N : Nat} {fn : Func} {c : Code} {args : List Value} {ro rw : List SL} {α : Type} {φ : α → Prop} {val : α → Value} {es : α → List SL} {env : Env}
    (hf : P.funcs[g]? = some fn) (hb : fn.body = some c) (hn : fn.ntmps = N) (he : zipE args 0 = some env) (hle' : Nat.ble args.length N = true)
    (h : ∀ (w0 : World) (S0 : Foot), HC P N w0 S0 c env ro rw (bodyPostM Fence.wide 3 P fn (Post w0 S0 ro φ val es))) : Tri P g args ro rw φ val es := by
  have hle : args.length ≤ N := by simpa using hle'
  intro w S hfit
  refine callsIn_wide.1 (callsIn_of_wp_marks (n := 3) hf hb trivial (wpIn_wide.2 (h w S _ S w ⟨?_, rfl, fun t v ht => ?_⟩ hfit)))
  · simp [hn]; omega
  · have h2 := (zipE_spec he t v ht).2
    simp only [Nat.sub_zero] at h2
    have hlt := (List.getElem?_eq_some_iff.1 h2).1
    simpa [Array.getElem?_append, hlt] using h2
section
variable {D : Nat} {P : Program} {N : Nat} {w0 : World} {S0 : Foot} {env : Env} {ro rw : List SL} {vs : List Value}
theorem HX_retM {fn : Func} {α : Type} {φ : α → Prop} {val : α → Value} {es : α → List SL} (hr : ResAll P N w0 S0 env ro rw fn.results.toList vs) (h : RetQ vs rw φ val es) :
    HX N w0 S0 .ret env ro rw (bodyPostM Fence.wide 3 P fn (Post w0 S0 ro φ val es)) := by
  obtain ⟨x, hφ, hv, hk⟩ := h
  exact fun a S w ha hf => by
    obtain ⟨T, hT⟩ := hf.keeps hk
    show LeavesInM Fence.wide 3 P fn a.tmps _ a.defers .returning w
    rw [ha.defers]
    exact ⟨tupV vs, results_run hr ha hf, x, T, hφ, by rw [hv], hT⟩
theorem HX_retD {ro1 : List SL} {fn : Func} {α : Type} {φ : α → Prop} {val : α → Value} {es : α → List SL} (hD : w0.heap.size ≤ D) (hsub : ∀ e ∈ ro, e ∈ ro1) (hcr : ∀ e ∈ ro, Cellish e) (hcw : ∀ e ∈ rw, Cellish e) (hr : ResAll P N w0 S0 env ro rw fn.results.toList vs) (h : RetQ vs rw φ val es) :
    HX N w0 S0 .ret env (markP D :: ro1) rw (mk D (bodyPostM Fence.wide 3 P fn (Post w0 S0 ro φ val es))) := by
  obtain ⟨x, hφ, hv, hk⟩ := h
  exact fun a S w ha hf => by
    obtain ⟨F, hF, hFD, hdef⟩ := hf.ros (markP D) (by simp)
    have hf' : Fits w0 S0 ro rw S w := ⟨hf.fr, hf.lt, hf.sub, hf.star, fun e he => hf.ros e (by simp [hsub e he])⟩
    have hfc := hf'.cells hcr hcw
    have hg : w.grownBy (w.putObj D (.deferred none)) (some D) := grownBy_putObj' w D _
    have hfc' := hfc.grown hD hg (fun q e => by cases e; exact ⟨Nat.le_refl _, _, hdef, rfl⟩)
    obtain ⟨T, hT⟩ := hfc'.f.keeps hk
    show LeavesInM Fence.wide 3 P fn a.tmps _ [markD D] .returning w
    refine ⟨(fun hh => by cases hh), .inl ⟨D, _, rfl, run_takeDeferred hdef, tupV vs, results_run hr ha hfc'.f, x, T, hφ, by rw [hv], hT⟩⟩
end

/-! ## the loop -/
def cBody : Code → Code | .rangeFunc _ _ _ b => b | c => c
def KpB (b1 b2 : Nat) (W W' : World) : Prop := W'.heap[b1]? = W.heap[b1]? ∧ W'.heap[b2]? = W.heap[b2]?
theorem HC_range {α : Type} {P : Program} {N : Nat} {w0 : World} {S0 : Foot} {c : Code} {env : Env} {ro rw : List SL} {Q : Exit → Act → World → Prop} {t p d i : Nat} {ty : TypeId} {pos : String}
    (hc : c = .rangeFunc (.tmp t) #[p] (.region i #[⟨some d, .assign (.tmp p), ty, pos, #[], none⟩] false) (cBody c)) {gf : Nat} {lb : Array Value} (hg : Env.get env t = some (.func (.func gf) #[] lb)) (hp : Nat.blt p N = true) (hd : Nat.blt d N = true)
    (eg : ∀ args w, (callFunc gf args).run P w = .ok (.enter gf args) w) (enc : α → Value) (xs : List α) {b1 b2 T1 T2 : Nat} {cs1 cs2 : List Value} (hb1 : cel b1 T1 cs1 ∈ ro) (hb2 : cel b2 T2 cs2 ∈ ro)
    (hseq : ∀ S w, Fits w0 S0 ro rw S w → SeqStopsK Fence.wide 2 P gf lb (fun x => #[enc x]) (KpB b1 b2) (fun ys => ys = xs) (fun pre => pre <+: xs) xs.length w)
    (R : List α → List SL) (hR0 : rw = R []) (hcr : ∀ e ∈ ro, Cellish e) (hcw : ∀ pre, ∀ e ∈ R pre, Cellish e)
    (hbody : ∀ l pre x w S, pre.length < xs.length → HR (some l) 1 P N w S (cBody c) ((d, enc x) :: (p, enc x) :: env) ro (R pre) (fun e _ w' => e = .normal ∧ ∃ T, Fits w S ro (R (pre ++ [x])) T w'))
    (hdone : ∀ D, w0.heap.size ≤ D → HX N w0 S0 .normal env (markP D :: ro) (R xs) (mk D Q)) : HC P N w0 S0 c env ro rw Q := by
  obtain ⟨body, hbd⟩ : ∃ body, cBody c = body := ⟨_, rfl⟩
  rw [hbd] at hc
  subst hc
  simp only [cBody] at hbody
  intro a S w ha hf
  have hp' : p < N := by rw [Nat.blt_eq] at hp; exact hp
  have h0 := hf.fr.size
  have celB : ∀ {b T : Nat} {cs : List Value}, cel b T cs ∈ ro → b < w.heap.size := fun hm => by
    obtain ⟨F, hF, hq⟩ := hf.ros _ hm
    exact (hF _ hq.1).1
  have hl1 := celB hb1
  have hl2 := celB hb2
  refine (wpIn_wide (n := 3)).1 ?_
  refine wpIn_rangeFunc_ownF (F := Fence.wide) (n := 3) (w0 := w) rfl (by decide) (by have := ha.ev (x := .tmp t) hg; exact this) trivial eg (hseq S w hf) (fun h h' => ⟨h'.1.trans h.1, h'.2.trans h.2⟩)
    (fun W l o o' hl _ _ _ => ⟨World.putObj_heap_other (by omega), World.putObj_heap_other (by omega)⟩) (Below.refl _ _) (fun _ => rfl)
    (fun pre W => ∃ S, FitsC w0 S0 ro (R pre) S W) (fun _ _ _ => False)
    (fun s W W' row ⟨S, hs⟩ hg' hr => ⟨S, hs.grown h0 hg' hr⟩) (fun _ _ _ _ _ hs _ _ => hs) ⟨_, (hR0 ▸ hf).cells hcr (hcw [])⟩
    (fun x => (a.put (some p) (enc x)).put (some d) (enc x)) ?_ ?_ ?_ (fun _ _ _ _ _ _ h => h.elim)
  · intro l x W K hK
    refine wpIn_region_list ?_
    unfold wpListIn
    simp only [Region.wanted, if_true]
    refine ⟨fun _ _ => trivial, ?_⟩
    rw [Oper.semAt_eq _ _ _ (fun c hc => by cases hc)]
    have hev : ({ tmps := ((#[p] : Array Tmp).zip #[enc x]).foldl (fun t (p, v) => t.setIfInBounds p v) a.tmps, defers := [] } : Act) = a.put (some p) (enc x) := by
      have h1 := ha.defers
      simp [Act.put, h1]
    rw [hev]
    have hev2 : (a.put (some p) (enc x)).eval (.tmp p) = enc x := (ha.put hp (enc x)).ev (x := .tmp p) (by simp [Env.ev, Env.get])
    simp only [execOp, hev2, Sem.run_pure, Oper.uponIn_value]
    exact hK
  · intro l pre x W ⟨S, hfc⟩ hlen
    have hf1 : Fits w0 S0 ro (R pre ++ []) S W := by rw [List.append_nil]; exact hfc.f
    obtain ⟨A, hA, hAS, hAl, hr1, hr2, hk⟩ := hf1.step
    have hfit : Fits W A ro (R pre) A W := ⟨Fr.refl _ _, hAl, fun b hb => .inl hb, hA, hr1⟩
    refine wpIn_mono (hbody l pre x W A hlen _ A W ((ha.put hp (enc x)).put hd (enc x)) hfit) ?_
    rintro e a' W' ⟨rfl, T, hT⟩
    have hnA : ∀ {b T : Nat} {cs : List Value}, cel b T cs ∈ ro → ¬ A b ∧ b < W.heap.size := fun hm => by
      obtain ⟨F, hF, hq⟩ := hr1 _ hm
      exact ⟨(hF _ hq.1).2, (hF _ hq.1).1⟩
    refine ⟨⟨hT.fr.size, fun k o hk' hn => ?_⟩, ⟨hT.fr.block _ (hnA hb1).2 (hnA hb1).1, hT.fr.block _ (hnA hb2).2 (hnA hb2).1⟩, ?_⟩
    · refine (hT.fr.block k (Array.getElem?_eq_some_iff.1 hk').1 (fun hAk => ?_)).trans hk'
      obtain ⟨o', ho', hc'⟩ := hfc.c k (hAS k hAk)
      rw [hk'] at ho'; cases ho'; rw [hn] at hc'; cases hc'
    · obtain ⟨T', hT'⟩ := hk W' T (R (pre ++ [x])) hT.fr hT.lt hT.sub hT.star
      rw [List.append_nil] at hT'
      exact ⟨_, hT'.cells hcr (hcw _)⟩
  · intro D ys W hD hS ⟨S, hfc⟩ hdef
    subst hS
    have := hdone D (by omega) a S W ha ⟨hfc.f.fr, hfc.f.lt, hfc.f.sub, hfc.f.star, fun e he => by
      rcases List.mem_cons.1 he with rfl | he
      · refine ⟨fun b => b = D, fun b hb => ?_, rfl, hdef⟩
        subst hb
        refine ⟨(Array.getElem?_eq_some_iff.1 hdef).1, fun hc => ?_⟩
        obtain ⟨o', ho', hc'⟩ := hfc.c b hc
        rw [hdef] at ho'; cases ho'; cases hc'
      · exact hfc.f.ros e he⟩
    have e1 : ({ a with defers := { target := .collected D, args := #[] } :: a.defers } : Act) = { a with defers := [markD D] } := by rw [ha.defers]; rfl
    rw [e1]
    exact this
theorem HX_endR {N : Nat} {w : World} {S0 : Foot} {env : Env} {ro rw rw' : List SL} (h : rw = rw') : HX N w S0 .normal env ro rw (fun e _ w' => e = .normal ∧ ∃ T, Fits w S0 ro rw' T w') := fun a S w' ha hf => ⟨rfl, S, h ▸ hf⟩
/-- pieces that some value fixes -/
def exS {β : Type} (f : β → List SL) : SL where
  p S w := ∃ x, Star (f x) S w
  st S w w' h := fun ⟨x, hx⟩ => ⟨x, hx.st h⟩
theorem Cellish.exS {β : Type} {f : β → List SL} (h : ∀ x, ∀ e ∈ f x, Cellish e) : Cellish (exS f) := fun S w ⟨x, hx⟩ => ⟨x, hx.cells (h x)⟩
theorem Keeps.ex {β : Type} {f : β → List SL} (x : β) {rw' : List SL} (h : Keeps [] rw') : Keeps (f x) (exS f :: rw') := fun S w hs => by
  obtain ⟨T, hT, h2⟩ := h S w trivial
  exact ⟨S, fun _ h => h, S, fun _ => False, fun _ h => h, fun _ h => h.elim, fun _ _ h => h, ⟨x, hs⟩, by
    obtain ⟨T', hT', h3⟩ := h (fun _ => False) w trivial
    exact h3.wide hT'⟩
theorem HQ_ex {β : Type} {f : β → List SL} {N : Nat} {w0 : World} {S0 : Foot} {env : Env} {ro : List SL} {K : Act → World → Prop} (h : ∀ x, HQ N w0 S0 env ro (f x) K) : HQ N w0 S0 env ro [exS f] K := fun a S w ha hf => by
  obtain ⟨A, B, hA, hB, hd, ⟨x, hx⟩, _⟩ := hf.star
  exact h x a A w ha ⟨hf.fr, fun b hb => hf.lt b (hA b hb), fun b hb => hf.sub b (hA b hb), hx, fun e he => by
    obtain ⟨F, hF, hp⟩ := hf.ros e he
    exact ⟨F, fun b hb => ⟨(hF b hb).1, fun hc => (hF b hb).2 (hA b hc)⟩, hp⟩⟩
theorem HR_ex {β : Type} {f : β → List SL} {r : Option Nat} {m : Nat} {P : Program} {N : Nat} {w0 : World} {S0 : Foot} {c : Code} {env : Env} {ro : List SL} {Q : Exit → Act → World → Prop} (h : ∀ x, HR r m P N w0 S0 c env ro (f x) Q) : HR r m P N w0 S0 c env ro [exS f] Q := HQ_ex h
theorem HX_ex {β : Type} {f : β → List SL} {N : Nat} {w0 : World} {S0 : Foot} {e : Exit} {env : Env} {ro : List SL} {Q : Exit → Act → World → Prop} (h : ∀ x, HX N w0 S0 e env ro (f x) Q) : HX N w0 S0 e env ro [exS f] Q := HQ_ex h
/-- a piece that is only read from here on -/
theorem HC_give {P : Program} {N : Nat} {w0 : World} {S0 : Foot} {c : Code} {env : Env} {ro rw rw' : List SL} {Q : Exit → Act → World → Prop} (k : Nat) {e : SL} (hk : rw[k]? = some e) (hr : eraseO rw k = some rw') (h : HC P N w0 S0 c env (e :: ro) rw' Q) : HC P N w0 S0 c env ro rw Q := by
  have e := eraseO_eq hr
  subst e
  exact HQ_give hk h
end Go.Proofs.YtdeeokkkcfkbjaaDoor
