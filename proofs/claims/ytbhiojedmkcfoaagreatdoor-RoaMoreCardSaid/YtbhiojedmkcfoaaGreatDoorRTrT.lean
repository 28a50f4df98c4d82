/- Part of a proof of many texts: what the theorem at its end leans on. -/
import Derived.Test.YtbhiojedmkcfoaaGreatDoorRKb
import Derived.LoopIn
import Derived.LoopNIn
import Derived.TacticsInMore
import Derived.RegionIn
import Derived.Lib.Bytealg
import Derived.Test.YtbhiojedmkcfoaaGreatDoorRTypes
import Derived.Test.YtbhiojedmkcfoaaGreatDoorRAdS
namespace Go.Proofs.YtbhiojedmkcfoaaGreatDoor
set_option linter.unusedVariables false
set_option linter.unusedSimpArgs false
open Go.RowKit
attribute [local go_sem] Oper.semAt_some
def anyC (b : Nat) : SL where
 p S w := S b ∧ CellB w b
 st S w w' h hp := ⟨hp.1, by obtain ⟨o, ho, hc⟩ := hp.2; exact ⟨o, (h b hp.1).trans ho, hc⟩⟩
theorem Cellish.anyC {b : Nat} : Cellish (anyC b) := fun S w h => ⟨⟨h.1, h.2⟩, h.2⟩
theorem FitsC.turn {w0 : World} {S0 : Foot} {ro R : List SL} {b : Nat} {S : Foot} {w w' : World} {row : Option Nat} (h : FitsC w0 S0 ro (R ++ [anyC b]) S w) (hg : w.grownBy w' row) (hr : ∀ q, row = some q → q = b) (hcb : CellB w' b) :
  FitsC w0 S0 ro (R ++ [anyC b]) S w' := by
 obtain ⟨A, B, hA, hB, hd, hs, C, D, hC, hD, hCD, hp, _⟩ := h.f.star.split
 have hb : S b := hB b (hC b hp.1)
 have hnA : ¬ A b := fun ha => hd b ha (hC b hp.1)
 have hoth : ∀ k, k < w.heap.size → k ≠ b → w'.heap[k]? = w.heap[k]? := fun k hk hne => hg.block k hk (fun e => hne (hr k e.symm))
 have hz := hg.size
 have h0 := h.f.fr.size
 have hros : ∀ e ∈ ro, ∃ F : Foot, (∀ b, F b → b < w'.heap.size ∧ ¬ S b ∧ CellB w' b) ∧ e.p F w' := fun e he => by
  obtain ⟨F, hF, hq⟩ := h.r e he
  have hk : ∀ k, F k → w'.heap[k]? = w.heap[k]? := fun k hk => hoth k (hF k hk).1 (fun e => (hF k hk).2.1 (e ▸ hb))
  exact ⟨F, fun k hk' => ⟨by have := (hF k hk').1; omega, (hF k hk').2.1, by obtain ⟨o, ho, hc⟩ := (hF k hk').2.2; exact ⟨o, (hk k hk').trans ho, hc⟩⟩, e.st F w w' hk hq⟩
 refine ⟨⟨⟨hg.os.trans h.f.fr.os, hg.tape.trans h.f.fr.tape, hg.output.trans h.f.fr.output, by omega, fun k hk hn => ?_⟩, fun k hk => by have := h.f.lt k hk; omega, h.f.sub, ?_, fun e he => ?_⟩, fun k hk => ?_, hros⟩
 ·refine (hoth k (by omega) (fun e => ?_)).trans (h.f.fr.block k hk hn)
  subst e
  exact (h.f.sub k hb).elim hn (fun h => by omega)
 ·exact Star.append hA hB hd (hs.st fun k hk => hoth k (h.f.lt k (hA k hk)) (fun e => hnA (e ▸ hk))) ⟨C, fun _ => False, hC, fun _ h => h.elim, fun _ _ h => h, ⟨hp.1, hcb⟩, trivial⟩
 ·obtain ⟨F, hF, hq⟩ := hros e he
  exact ⟨F, fun k hk => ⟨(hF k hk).1, (hF k hk).2.1⟩, hq⟩
 ·by_cases e : k = b
  ·subst e
   exact hcb
  ·obtain ⟨o, ho, hc⟩ := h.c k hk
   exact ⟨o, (hoth k (h.f.lt k hk) e).trans ho, hc⟩
def SeqW {α : Type} (F : Fence) (n : Nat) (P : Program) (g : Nat) (lb : Array Value) (b : Nat) (enc : α → Array Value) (xs : List α) (W : World) : Prop :=
 ∀ (l : Nat) (J : List α → World → Prop), (∀ s A B row, J s A → A.grownBy B row → (∀ r, row = some r → r = b ∧ CellB B b) → J s B) →
  (∀ pre x A, J pre A → pre ++ [x] <+: xs → YieldAt F (n - 1) P l (enc x) A fun e B => e = .returned (.bool true) ∧ J (pre ++ [x]) B ∧ B.heap[b]? = A.heap[b]?) →
  ∀ V, V.heap[b]? = W.heap[b]? → J [] V → CallsIn F n P g (#[.func (.yield l) #[] #[]] ++ lb) V fun e B => (∃ v, e = .returned v) ∧ J xs B
theorem HC_rangeW {α : Type} {P : Program} {N : Nat} {w0 : World} {S0 : Foot} {c : Code} {env : Env} {ro rw : List SL} {Q : Exit → Act → World → Prop} {t p d i : Nat} {ty : TypeId} {pos : String}
  (hc : c = .rangeFunc (.tmp t) #[p] (.region i #[⟨some d, .assign (.tmp p), ty, pos, #[], none⟩] false) (cBody c)) {gf : Nat} {lb : Array Value} (hg : Env.get env t = some (.func (.func gf) #[] lb)) (hp : Nat.blt p N = true) (hd : Nat.blt d N = true)
  (eg : ∀ args w, (callFunc gf args).run P w = .ok (.enter gf args) w) (enc : α → Value) (xs : List α) {b T : Nat} {cs : List Value} (R : List α → List SL) (hR0 : rw = R [] ++ [cel b T cs])
  (hseq : ∀ W, W.heap[b]? = some (.cells cs.toArray T (0, 0)) → SeqW Fence.wide 2 P gf lb b (fun x => #[enc x]) xs W)
  (hcr : ∀ e ∈ ro, Cellish e) (hcw : ∀ pre, ∀ e ∈ R pre, Cellish e)
  (hbody : ∀ l pre x w S, pre ++ [x] <+: xs → HR (some l) 1 P N w S (cBody c) ((d, enc x) :: (p, enc x) :: env) ro (R pre) (fun e _ w' => e = .normal ∧ ∃ T, Fits w S ro (R (pre ++ [x])) T w'))
  (hdone : ∀ D, w0.heap.size ≤ D → HX N w0 S0 .normal env (markP D :: ro) (R xs) (mk D Q)) : HC P N w0 S0 c env ro rw Q := by
 obtain ⟨body, hbd⟩ : ∃ body, cBody c = body := ⟨_, rfl⟩
 rw [hbd] at hc
 subst hc
 simp only [cBody] at hbody
 subst hR0
 intro a S w ha hf
 have hp' : p < N := by rw [Nat.blt_eq] at hp; exact hp
 have h0 := hf.fr.size
 have hcwb : ∀ pre, ∀ e ∈ R pre ++ [anyC b], Cellish e := fun pre e he => by
  rcases List.mem_append.1 he with he | he
  ·exact hcw pre e he
  ·rw [List.mem_singleton.1 he]
   exact Cellish.anyC
 obtain ⟨hbw, hbs, hf1⟩ : w.heap[b]? = some (.cells cs.toArray T (0, 0)) ∧ b < w.heap.size ∧ FitsC w0 S0 ro (R [] ++ [anyC b]) (fun k => S k ∧ CellB w k) w := by
  obtain ⟨A, B, hA, hB, hd', hs, C, D, hC, hD, hCD, hp2, _⟩ := hf.star.split
  refine ⟨hp2.2, hf.lt b (hB b (hC b hp2.1)), Fits.cells ⟨hf.fr, hf.lt, hf.sub, ?_, hf.ros⟩ hcr (hcwb [])⟩
  exact Star.append hA hB hd' hs ⟨C, fun _ => False, hC, fun _ h => h.elim, fun _ _ h => h, ⟨hp2.1, ⟨_, hp2.2, rfl⟩⟩, trivial⟩
 refine (wpIn_wide (n := 3)).1 (wpIn_rangeFunc fun fn hfn => ?_)
 obtain ⟨rec, hrec⟩ : ∃ rec : LoopState → Loop, rec = fun st => { state := st, pending := none, fn, tmps := a.tmps, params := #[p], assign := .region i #[⟨some d, .assign (.tmp p), ty, pos, #[], none⟩] false, body, defers := w.heap.size } := ⟨_, rfl⟩
 obtain ⟨W1, hW1⟩ : ∃ W1, (w.alloc (.deferred (some []))).alloc (.loop (rec .ready)) = W1 := ⟨_, rfl⟩
 have hg1 : w.grownBy (w.alloc (.deferred (some []))) none := World.grownBy_alloc _ _ none
 have hg2 : (w.alloc (.deferred (some []))).grownBy W1 none := hW1 ▸ World.grownBy_alloc _ _ none
 have hf2 : FitsC w0 S0 ro (R [] ++ [anyC b]) (fun k => S k ∧ CellB w k) W1 := (hf1.grown (B := w.heap.size) h0 hg1 (fun _ e => by cases e)).grown (B := w.heap.size) h0 hg2 (fun _ e => by cases e)
 have hL1 : W1.heap[w.heap.size + 1]? = some (.loop (rec .ready)) := by
  rw [← hW1]
  have := World.alloc_heap_new (w.alloc (.deferred (some []))) (.loop (rec .ready))
  rwa [World.size_alloc] at this
 have hD1 : W1.heap[w.heap.size]? = some (.deferred (some [])) := by
  rw [← hW1]
  exact (Below.heap_alloc _ _ _ (by simp)).trans (World.alloc_heap_new w _)
 have hB1 : W1.heap[b]? = some (.cells cs.toArray T (0, 0)) := by
  rw [← hbw, ← hW1]
  exact (Below.heap_alloc _ _ _ (by simp; omega)).trans (Below.heap_alloc _ _ _ hbs)
 obtain ⟨J, hJ⟩ : ∃ J : List α → World → Prop, J = fun pre W => (∃ S, FitsC w0 S0 ro (R pre ++ [anyC b]) S W) ∧ W.heap[w.heap.size + 1]? = some (.loop (rec .ready)) ∧ W.heap[w.heap.size]? = some (.deferred (some [])) := ⟨_, rfl⟩
 have hcall := hseq W1 hB1 (w.heap.size + 1) J ?_ ?_ W1 rfl (by rw [hJ]; exact ⟨⟨_, hf2⟩, hL1, hD1⟩)
 ·refine ⟨w.heap.size + 1, [{ target := .collected w.heap.size, args := #[] }], W1, { target := .fn (.func gf) lb, args := #[.func (.yield (w.heap.size + 1)) #[] #[]] }, W1, gf, #[.func (.yield (w.heap.size + 1)) #[] #[]] ++ lb, W1, ?_, ?_, fun _ _ => trivial, ?_, fun _ => by decide, ?_⟩
  ·rw [← hW1, hrec]
   exact run_enterLoop_outer _ _ _ _ _
  ·have hgv : a.eval (.tmp t) = .func (.func gf) #[] lb := ha.ev (x := .tmp t) hg
   simp only [resolve, hgv]
   simp [go_sem]
  ·simp [invoke, go_sem, eg]
  ·refine hcall.mono ?_
   rintro e W ⟨⟨v, rfl⟩, hJW⟩
   rw [hJ] at hJW
   obtain ⟨⟨S', hfc⟩, hl, hk⟩ := hJW
   refine ⟨none, W.putObj (w.heap.size + 1) (.loop { rec .ready with state := .exhausted }), by have := run_endLoop (P := P) hl (by rw [hrec]; simp); rw [hrec] at this ⊢; exact this, ?_⟩
   have hfc' := hfc.grown (B := w.heap.size) h0 (grownBy_putObj' W (w.heap.size + 1) (.loop { rec .ready with state := .exhausted })) (fun q e => by cases e; exact ⟨by omega, _, hl, rfl⟩)
   have hk' : (W.putObj (w.heap.size + 1) (.loop { rec .ready with state := .exhausted })).heap[w.heap.size]? = some (.deferred (some [])) := (World.putObj_heap_other (by omega)).trans hk
   generalize hW' : W.putObj (w.heap.size + 1) (.loop { rec .ready with state := .exhausted }) = W' at hfc' hk'
   obtain ⟨A, B, hA, hB, hd', hs, _⟩ := hfc'.f.star.split
   have := hdone w.heap.size h0 a A W' ha ⟨hfc'.f.fr, fun k hk => hfc'.f.lt k (hA k hk), fun k hk => hfc'.f.sub k (hA k hk), hs, fun e he => by
    rcases List.mem_cons.1 he with rfl | he
    ·refine ⟨fun k => k = w.heap.size, fun k hk => ?_, rfl, hk'⟩
     subst hk
     refine ⟨(Array.getElem?_eq_some_iff.1 hk').1, fun hc => ?_⟩
     obtain ⟨o', ho', hc'⟩ := hfc'.c _ (hA _ hc)
     rw [hk'] at ho'
     cases ho'
     cases hc'
    ·obtain ⟨F, hF, hq⟩ := hfc'.f.ros e he
     exact ⟨F, fun k hk => ⟨(hF k hk).1, fun hc => (hF k hk).2 (hA k hc)⟩, hq⟩⟩
   have e1 : ({ a with defers := [({ target := .collected w.heap.size, args := #[] } : Deferred)] ++ a.defers } : Act) = { a with defers := [markD w.heap.size] } := by rw [ha.defers]; rfl
   rw [e1]
   exact this
 ·-- what the sequence does
  rw [hJ]
  rintro s A B row ⟨⟨S', hfc⟩, hl, hk⟩ hg' hr
  have hne : ∀ (k : Nat) (o : Obj), A.heap[k]? = some o → o.isCells = false → B.heap[k]? = some o := fun k o hk hc => by
   refine (hg'.block k (Array.getElem?_eq_some_iff.1 hk).1 fun e => ?_).trans hk
   obtain ⟨rfl, _⟩ := hr k e.symm
   obtain ⟨A1, B1, hA, hB, hd', hs, C, D, hC, hD, hCD, hp2, _⟩ := hfc.f.star.split
   obtain ⟨o', ho', hc'⟩ := hp2.2
   rw [hk] at ho'
   cases ho'
   rw [hc] at hc'
   cases hc'
  refine ⟨⟨S', ?_⟩, hne _ _ hl rfl, hne _ _ hk rfl⟩
  cases row with
  | none => exact hfc.grown (B := w.heap.size) h0 hg' (fun _ e => by cases e)
  | some r => exact hfc.turn hg' (fun q e => (hr q e).1) (hr r rfl).2
 ·-- a round
  rw [hJ]
  rintro pre x W ⟨⟨S', hfc⟩, hl, hk⟩ hlen
  have hlt : w.heap.size + 1 < W.heap.size := (Array.getElem?_eq_some_iff.1 hl).1
  have hy := run_yield (P := P) (args := #[enc x]) hl (by rw [hrec]; rfl)
  rw [hrec] at hy
  refine ⟨fn, _, _, body, hy, roundIn_of_wpIn hfn ?_⟩
  refine wpIn_region_list ?_
  unfold wpListIn
  simp only [Region.wanted, if_true]
  refine ⟨fun _ _ => trivial, ?_⟩
  rw [Oper.semAt_eq _ _ _ (fun c hc => by cases hc)]
  have hev : ({ tmps := ((#[p] : Array Tmp).zip #[enc x]).foldl (fun t (p, v) => t.setIfInBounds p v) a.tmps, defers := [] } : Act) = a.put (some p) (enc x) := by
   have h1 := ha.defers
   simp [Act.put, h1]
  rw [hev]
  have hev2 : (a.put (some p) (enc x)).eval (.tmp p) = enc x := (ha.put hp (enc x)).ev (x := .tmp p) (by simp [Env.ev, Env.get])
  simp only [execOp, hev2, Sem.run_pure, Oper.uponIn_value]
  refine ⟨_, run_beginRound hl (by rw [hrec]), ?_⟩
  obtain ⟨Wb, hWb⟩ : ∃ Wb, W.putObj (w.heap.size + 1) (.loop { rec .ready with state := .busy }) = Wb := ⟨_, rfl⟩
  have hl2 : Wb.heap[w.heap.size + 1]? = some (.loop { rec .ready with state := .busy }) := hWb ▸ World.putObj_heap_same hlt
  have hk2 : Wb.heap[w.heap.size]? = some (.deferred (some [])) := hWb ▸ (World.putObj_heap_other (by omega)).trans hk
  have hfb : FitsC w0 S0 ro (R pre ++ [anyC b]) S' Wb := hfc.grown (B := w.heap.size) h0 (hWb ▸ grownBy_putObj' W (w.heap.size + 1) _) (fun q e => by cases e; exact ⟨by omega, _, hl, rfl⟩)
  obtain ⟨A, hA, hAS, hAl, hr1, hr2, hkp⟩ := hfb.f.step
  have hbA : ¬ A b ∧ b < Wb.heap.size ∧ Wb.heap[b]? = W.heap[b]? := by
   obtain ⟨F, hF, hq⟩ := hr2 _ (List.mem_singleton.2 rfl)
   refine ⟨(hF b hq.1).2, (hF b hq.1).1, ?_⟩
   rw [← hWb]
   refine World.putObj_heap_other fun e => ?_
   obtain ⟨o, ho, hc⟩ := hq.2
   rw [e, hl2] at ho
   cases ho
   cases hc
  rw [hWb]
  refine wpIn_mono (hbody (w.heap.size + 1) pre x Wb A hlen _ A Wb ((ha.put hp (enc x)).put hd (enc x)) ⟨Fr.refl _ _, hAl, fun b hb => .inl hb, hA, hr1⟩) ?_
  rintro e a' W3 ⟨rfl, T', hT⟩
  have hnc : ∀ (k : Nat) (o : Obj), Wb.heap[k]? = some o → o.isCells = false → W3.heap[k]? = some o := fun k o hk' hn => by
   refine (hT.fr.block k (Array.getElem?_eq_some_iff.1 hk').1 (fun hAk => ?_)).trans hk'
   obtain ⟨o', ho', hc'⟩ := hfb.c k (hAS k hAk)
   rw [hk'] at ho'
   cases ho'
   rw [hn] at hc'
   cases hc'
  have hl3 := hnc _ _ hl2 rfl
  have hk3 := hnc _ _ hk2 rfl
  have hend := run_endRound (P := P) none hl3
  refine ⟨_, _, hend, rfl, ⟨?_, ?_, ?_⟩, ?_⟩
  ·obtain ⟨T2, hT2⟩ := hkp W3 T' (R (pre ++ [x])) hT.fr hT.lt hT.sub hT.star
   exact ⟨_, (hT2.cells hcr (hcwb _)).grown (B := w.heap.size) h0 (grownBy_putObj' W3 (w.heap.size + 1) _) (fun q e => by cases e; exact ⟨by omega, _, hl3, rfl⟩)⟩
  ·rw [World.putObj_heap_same (Array.getElem?_eq_some_iff.1 hl3).1, hrec]
   rfl
  ·exact (World.putObj_heap_other (by omega)).trans hk3
  ·have : b ≠ w.heap.size + 1 := fun e => by
    obtain ⟨F, hF, hq⟩ := hr2 _ (List.mem_singleton.2 rfl)
    obtain ⟨o, ho, hc⟩ := hq.2
    rw [e, hl2] at ho
    cases ho
    cases hc
   exact (World.putObj_heap_other this).trans ((hT.fr.block b hbA.2.1 hbA.1).trans hbA.2.2)
attribute [local go_sem] Oper.semAt_some
def linB : List UInt8 → List (List UInt8)
 | [] => []
 | x :: l => if x = 10 then [10] :: linB l else match linB l with
  | [] => [[x]]
  | h :: t => (x :: h) :: t
def eol (s : List UInt8) : Nat := if Lib.indexByte s 10 = -1 then s.length else (Lib.indexByte s 10).toNat + 1
theorem setCell_grown (W : World) (b : Nat) (v : Value) : W.grownBy (W.setCell ⟨b, 0, none⟩ v) (some b) :=
 ⟨rfl, rfl, rfl, (KeepsWalks.setCell W _ v).size, fun k _ hk => Below.heap_setCell _ _ _ k (fun e => hk (by rw [e]))⟩
theorem ixb_ge (s : List UInt8) (c : UInt8) : -1 ≤ Lib.indexByte s c ∧ Lib.indexByte s c < s.length := by
 induction s with
 | nil => exact ⟨Int.le_refl _, by simp [Lib.indexByte]⟩
 | cons x l ih =>
  unfold Lib.indexByte
  by_cases h : (x == c) = true
  ·rw [if_pos h]
   simp
  ·rw [if_neg h]
   by_cases h2 : (Lib.indexByte l c == -1) = true
   ·rw [if_pos h2]
    simp
    omega
   ·rw [if_neg h2]
    simp
    omega
theorem linB_step (x : UInt8) (l : List UInt8) : linB (x :: l) = (x :: l).take (eol (x :: l)) :: linB ((x :: l).drop (eol (x :: l))) := by
 induction l generalizing x with
 | nil =>
  unfold linB eol
  by_cases h : x = 10
  ·subst h
   rfl
  ·rw [if_neg h]
   have : Lib.indexByte [x] 10 = -1 := by
    unfold Lib.indexByte
    rw [if_neg (by simpa using h)]
    rfl
   rw [if_pos this]
   simp [linB]
 | cons y l ih =>
  by_cases h : x = 10
  ·subst h
   have : Lib.indexByte (10 :: y :: l) 10 = 0 := by
    unfold Lib.indexByte
    rfl
   unfold eol
   rw [this, if_neg (by decide)]
   conv => lhs; unfold linB
   rw [if_pos rfl]
   rfl
  ·have e : eol (x :: y :: l) = eol (y :: l) + 1 := by
    have hb := ixb_ge (y :: l) 10
    have hi : Lib.indexByte (x :: y :: l) 10 = if Lib.indexByte (y :: l) 10 == -1 then -1 else Lib.indexByte (y :: l) 10 + 1 := by
     conv => lhs; unfold Lib.indexByte
     rw [if_neg (by simpa using h)]
    unfold eol
    rw [hi]
    by_cases h2 : Lib.indexByte (y :: l) 10 = -1
    ·rw [h2]
     rfl
    ·have hb2 : (Lib.indexByte (y :: l) 10 == -1) = false := beq_false_of_ne h2
     simp only [hb2, Bool.false_eq_true, if_false, if_neg h2]
     rw [if_neg (by omega)]
     omega
   conv => lhs; unfold linB
   rw [if_neg h, ih y, e]
   rfl
set_option maxRecDepth 100000 in
theorem sIndexByte (s : List UInt8) (w : World) : Calls Tryz.prog 239 #[.string ⟨s.toArray⟩, .int .u8 10] w fun e w' => e = .returned (.int .i64 (Lib.indexByte s 10)) ∧ w' = w := by
 go_enter Tryz.func239, Tryz.ntmps239
 go_wp2
 rw [run_callFunc_extern Tryz.func266 (by kernel_rfl) (by kernel_rfl) (by kernel_rfl) (e := Extern.BytealgIndexByte.indexByte) (by kernel_rfl), Lib.run_indexByteString]
 simp only [Result.andThen]
 rw [Oper.upon_value]
 go_wp2
 go_ret
 exact ⟨by simp, rfl⟩
set_option maxRecDepth 100000 in
theorem indexByte_in (s : List UInt8) (w : World) : CallsIn Fence.wide 1 Tryz.prog 199 #[.string ⟨s.toArray⟩, .int .u8 10] w fun e w' => e = .returned (.int .i64 (Lib.indexByte s 10)) ∧ w' = w := by
 have e217 : ∀ args w, (callFunc 239 args).run Tryz.prog w = .ok (.enter 239 args) w := Go.Proofs.enters_of Tryz.func239 (by kernel_rfl) rfl
 refine callsIn_wide.2 ?_
 go_enter Tryz.func199, Tryz.ntmps199
 go_wp2_with (go_at_fn 239; refine (sIndexByte _ _).mono ?_; rintro e w' ⟨rfl, rfl⟩)
 go_ret
 exact ⟨rfl, rfl⟩
set_option maxRecDepth 100000 in
set_option maxHeartbeats 1000000000 in
theorem lines_in (l b : Nat) (s : List UInt8) (hs : s.length ≤ 1000000) (J : List (List UInt8) → World → Prop)
  (hJ : ∀ p A B row, J p A → A.grownBy B row → (∀ r, row = some r → r = b ∧ CellB B b) → J p B)
  (hY : ∀ pre x A, J pre A → pre ++ [x] <+: linB s → YieldAt Fence.wide 1 Tryz.prog l #[.string ⟨x.toArray⟩] A fun e B => e = .returned (.bool true) ∧ J (pre ++ [x]) B ∧ B.heap[b]? = A.heap[b]?)
  (W : World) (h1 : W.heap[b]? = some (.cells #[.string ⟨s.toArray⟩] 9 (0, 0))) (h0 : J [] W) :
  CallsIn Fence.wide 2 Tryz.prog 198 #[.func (.yield l) #[] #[], .pointer (some ⟨b, 0, none⟩)] W fun e B => (∃ v, e = .returned v) ∧ J (linB s) B := by
 refine callsIn_of_wp Tryz.func198 rfl trivial ?_ rfl
 simp only [Tryz.ntmps198, List.size_toArray, List.length_cons, List.length_nil, Nat.reduceAdd, Nat.reduceSub, Array.replicate_succ, Array.replicate_zero, List.push_toArray, List.append_toArray, List.nil_append, List.cons_append]
 gi_wp2
 gi_loopw [4] (fun p wr => ∃ (pre : List (List UInt8)) (r : List UInt8), linB s = pre ++ linB r ∧ r.length ≤ 1000000 ∧ wr.heap[b]? = some (.cells #[.string ⟨r.toArray⟩] 9 (0, 0)) ∧ J pre wr)
  (fun p wr => match wr.cell? ⟨b, 0, none⟩ with
   | some (.string q) => q.size
   | _ => 0)
 case atStart =>
  exact ⟨[], s, rfl, hs, h1, h0⟩
 case round =>
  obtain ⟨pre, r, hx, hr, hc1, hJs⟩ := hrel
  have hv1 : wr.cell? ⟨b, 0, none⟩ = some (.string ⟨r.toArray⟩) := by simp [World.cell?, hc1]
  have hfz : wr.frozen? ⟨b, 0, none⟩ = false := by simp [World.frozen?, hc1]
  have hset : ∀ q, (wr.setCell ⟨b, 0, none⟩ (.string q)).heap[b]? = some (.cells #[.string q] 9 (0, 0)) := fun q => by
   obtain ⟨hlt, hk⟩ := Array.getElem?_eq_some_iff.1 hc1
   show (wr.heap.modify b _)[b]? = _
   rw [Array.getElem?_eq_getElem (by rw [Array.size_modify]; exact hlt), Array.getElem_modify_self, hk]
   rfl
  have hJ2 : ∀ q, J pre (wr.setCell ⟨b, 0, none⟩ (.string q)) := fun q => hJ pre wr _ (some b) hJs (setCell_grown wr b _) (fun r e => by cases e; exact ⟨rfl, _, hset q, rfl⟩)
  cases r with
  | nil =>
   gi_wp2
   go_end0
   exact ⟨⟨_, rfl⟩, by have := hx; simp [linB] at this; rw [this]; exact hJs⟩
  | cons x r =>
   obtain ⟨i, hi⟩ : ∃ i, Lib.indexByte (x :: r) 10 = i := ⟨_, rfl⟩
   have hb := ixb_ge (x :: r) 10
   have hst := linB_step x r
   have hlen := congrArg List.length hx
   rw [hst] at hx hlen
   simp only [List.length_append, List.length_cons] at hlen
   have hrl : (x :: r).length = r.length + 1 := rfl
   gi_wp2
   refine ⟨trivial, (indexByte_in _ _).mono ?_⟩
   rintro e w' ⟨rfl, rfl⟩
   simp only []
   rw [hi]
   have he : eol (x :: r) = if i = -1 then (x :: r).length else i.toNat + 1 := by rw [← hi]; rfl
   rw [hi] at hb
   by_cases h2 : i = -1
   ·subst h2
    rw [if_pos rfl] at he
    rw [he, List.take_length, List.drop_length] at hx
    obtain ⟨fn, tmps, assign, body, hy, hR⟩ := hY pre (x :: r) _ (hJ2 ⟨#[]⟩) ⟨_, by rw [hx, List.append_assoc]; rfl⟩
    gi_wp2
    refine hR.mono ?_
    rintro e W3 ⟨rfl, hJ3, hk3⟩
    have hw3 : W3.heap[b]? = some (.cells #[.string ⟨#[]⟩] 9 (0, 0)) := hk3.trans (hset _)
    have hv3 : W3.cell? ⟨b, 0, none⟩ = some (.string ⟨#[]⟩) := by simp [World.cell?, hw3]
    gi_wp2
    go_roundw
    case rel => exact ⟨pre ++ [x :: r], [], by simp [hx], by simp, hw3, hJ3⟩
    case measure =>
     rw [hv3, hv1]
     show 0 < (x :: r).toArray.size
     simp
   ·obtain ⟨k, rfl⟩ : ∃ k : Nat, i = k := ⟨i.toNat, by omega⟩
    rw [if_neg h2, Int.toNat_natCast] at he
    rw [he, List.take_succ_cons, List.drop_succ_cons] at hx
    have hk1 : k < r.length + 1 := by omega
    have ex1 : (ByteArray.mk (x :: r).toArray).extract 0 (k + 1) = ⟨(x :: r.take k).toArray⟩ := by
     apply ByteArray.ext
     simp
    have ex2 : (ByteArray.mk (x :: r).toArray).extract (k + 1) (r.length + 1) = ⟨(r.drop k).toArray⟩ := by
     apply ByteArray.ext
     simp
     exact List.take_of_length_le (by simp)
    obtain ⟨fn, tmps, assign, body, hy, hR⟩ := hY pre (x :: r.take k) ((w'.setCell ⟨b, 0, none⟩ (.string ⟨(r.drop k).toArray⟩)).drew) (hJ _ _ _ none (hJ2 _) ⟨rfl, rfl, rfl, Nat.le_refl _, fun _ _ _ => rfl⟩ (fun _ e => by cases e)) ⟨_, by rw [hx, List.append_assoc]; rfl⟩
    gi_wp2
    gi_region
    all_goals gi_wp2
    refine hR.mono ?_
    rintro e W3 ⟨rfl, hJ3, hk3⟩
    have hw3 : W3.heap[b]? = some (.cells #[.string ⟨(r.drop k).toArray⟩] 9 (0, 0)) := hk3.trans (hset _)
    have hv3 : W3.cell? ⟨b, 0, none⟩ = some (.string ⟨(r.drop k).toArray⟩) := by simp [World.cell?, hw3]
    gi_wp2
    go_roundw
    case rel => exact ⟨pre ++ [x :: r.take k], r.drop k, by rw [hx, List.append_assoc]; rfl, by simp; omega, hw3, hJ3⟩
    case measure =>
     rw [hv3, hv1]
     show (r.drop k).toArray.size < (x :: r).toArray.size
     simp
     omega
end Go.Proofs.YtbhiojedmkcfoaaGreatDoor
