/- Part of a proof of many texts: what the theorem at its end leans on. -/
import Derived.WalkKit
import Derived.WalkSpells
import Derived.WalkLawsBesides
import Derived.Below
import Derived.Laws.OwnMore
import Derived.Laws.Rows
import Derived.Laws.MakeOwn
import Derived.Laws.Entries
import Derived.Laws.BitsAllLaws
import Derived.Laws.BitsLemmas
import Derived.Deep.AppendLies
import Derived.Deep.Draws
import Derived.Deep.OwnRows
import Derived.Deep.QuietTactic
import Derived.Deep.DeepFit
import Derived.Maps.AppendAt
import Derived.RegionTactic
import Derived.OwnWalk
import Derived.LaidEqlPtr
import Derived.Lib.Hide
import Derived.BigQuiet
namespace Go.Proofs.YteeogabkkblkgaaGreatDoor
set_option linter.unusedVariables false
set_option linter.unusedSimpArgs false
open Go.RowKit
theorem block_of_add (a : Addr) (n : Nat) : (a.add n).block = a.block := by unfold Addr.add; split <;> rfl
theorem add_of_add (a : Addr) (i j : Nat) : (a.add i).add j = a.add (i + j) := by
 unfold Addr.add
 by_cases hi : i = 0 <;> by_cases hj : j = 0 <;> simp [hi, hj, Nat.add_assoc]
def Reads (w : World) (B size : Nat) (A : Option Addr) (n : Nat) (xs : List Value) : Prop :=
 xs.length = n * size ∧ (0 < n → ∃ ad, A = some ad ∧ ad.block < B ∧ ∀ j u, xs[j]? = some u → w.cell? (ad.add j) = some u)
section
variable {w w' : World} {B B' size n : Nat} {A : Option Addr} {xs : List Value}
end
section
variable {w w' : World} {g : Nat} {t : TypeId} {cs : Array Value}
end
section
variable {P : Program} (w : World)
theorem run_append_of_nil (base : Nat) (t ty e : TypeId) (i : TypeInfo) (size : Nat) (ht : P.underlying t = some (.slice e)) (hi : P.info? e = some i)
  (v : Value) (n : Nat) (xs : List Value) (hown : w.ownsRow base e size v n xs) (c : Nat) : (Builtin.append_ #[t, t] ty #[v, .slice none 0 c]).run P w = .ok v w := by
 rcases hown.2 with ⟨rfl, rfl⟩ | ⟨g, cap, cur, rfl, _, _, hnc, _⟩
 ·simp [Builtin.append_, run_underlying ht, sizeOf, typeInfo, hi, Builtin.lenOf, Builtin.firstCells]
 ·simp [Builtin.append_, run_underlying ht, sizeOf, typeInfo, hi, Builtin.lenOf, Builtin.firstCells, hnc, storeCells]
theorem run_append_any (base : Nat) (t ty e : TypeId) (i : TypeInfo) (z : Value) (size bytes : Nat) (ht : P.underlying t = some (.slice e)) (hi : P.info? e = some i) (hz : i.zero = some z)
  (hsize : i.size = size) (hby : i.bytes = bytes) (hzs : z.cells.size = size) (hsz : 0 < size)
  (v : Value) (n : Nat) (xs : List Value) (hown : w.ownsRow base e size v n xs)
  (B : Nat) (A : Option Addr) (m c : Nat) (news : List Value) (hr : Reads w B size A m news) (h1 : ∀ u ∈ news, u.oneCell' = true)
  (h63 : n + m ≤ maxLen) (hbytes : (n + m) * bytes ≤ 140737488355328) (hbase : base ≤ w.heap.size) :
  ∃ v' w', (Builtin.append_ #[t, t] ty #[v, .slice A m c]).run P w = .ok v' w' ∧ w'.ownsRow base e size v' (n + m) (xs ++ news) ∧ w.grownBy w' v.ownBlock ∧
   (v'.ownBlock = v.ownBlock ∨ v'.ownBlock = some w.heap.size) := by
 rcases A with _ | ad
 ·have hm : m = 0 := by
   rcases Nat.eq_zero_or_pos m with h0 | h0
   ·exact h0
   ·obtain ⟨ad, h, _⟩ := hr.2 h0
    cases h
  subst hm
  have hn : news = [] := List.eq_nil_of_length_eq_zero (by simpa using hr.1)
  subst hn
  exact ⟨v, w, run_append_of_nil w base t ty e i size ht hi v n xs hown c, by simpa using hown, World.grownBy.refl w _, .inl rfl⟩
 ·have hcells : ∀ j u, news[j]? = some u → w.cell? (ad.add j) = some u := by
   intro j u hu
   rcases Nat.eq_zero_or_pos m with h0 | h0
   ·subst h0
    have hn : news = [] := List.eq_nil_of_length_eq_zero (by simpa using hr.1)
    subst hn
    simp at hu
   ·obtain ⟨ad', h, _, hc⟩ := hr.2 h0
    injection h with h
    subst h
    exact hc j u hu
  obtain ⟨v', w', hrun, h2, h3, _, h5⟩ := run_append_own_at (P := P) w base t ty e i z size bytes ht hi hz hsize hby hzs hsz v n xs hown ad m c news hr.1 hcells h1 h63 hbytes hbase
  exact ⟨v', w', hrun, h2, h3, h5⟩
end
end Go.Proofs.YteeogabkkblkgaaGreatDoor
namespace Go.Proofs.YteeogabkkblkgaaGreatDoor
set_option linter.unusedVariables false
set_option linter.unusedSimpArgs false
open Go.RowKit
abbrev Foot := Nat → Prop
structure SL where
 p : Foot → World → Prop
 st : ∀ (S : Foot) (w w' : World), (∀ b, S b → w'.heap[b]? = w.heap[b]?) → p S w → p S w'
def Star : List SL → Foot → World → Prop
 | [], _, _ => True
 | e :: es, S, w => ∃ A B : Foot, (∀ b, A b → S b) ∧ (∀ b, B b → S b) ∧ (∀ b, A b → B b → False) ∧ e.p A w ∧ Star es B w
theorem Star.st : ∀ {es : List SL} {S : Foot} {w w' : World}, (∀ b, S b → w'.heap[b]? = w.heap[b]?) → Star es S w → Star es S w'
 | [], _, _, _, _, _ => trivial
 | e :: _, _, _, _, h, ⟨A, B, hA, hB, hd, he, hs⟩ => ⟨A, B, hA, hB, hd, e.st _ _ _ (fun b hb => h b (hA b hb)) he, Star.st (fun b hb => h b (hB b hb)) hs⟩
theorem Star.wide : ∀ {es : List SL} {S T : Foot} {w : World}, (∀ b, S b → T b) → Star es S w → Star es T w
 | [], _, _, _, _, _ => trivial
 | _ :: _, _, _, _, h, ⟨A, B, hA, hB, hd, he, hs⟩ => ⟨A, B, fun b hb => h b (hA b hb), fun b hb => h b (hB b hb), hd, he, hs⟩
theorem Star.append : ∀ {es fs : List SL} {A B S : Foot} {w : World}, (∀ b, A b → S b) → (∀ b, B b → S b) → (∀ b, A b → B b → False) → Star es A w → Star fs B w → Star (es ++ fs) S w
 | [], _, _, _, _, _, _, hB, _, _, hf => hf.wide hB
 | e :: es, fs, A, B, S, w, hA, hB, hd, ⟨A1, A2, h1, h2, h12, he, hs⟩, hf =>
  ⟨A1, fun b => A2 b ∨ B b, fun b hb => hA b (h1 b hb), fun b hb => hb.elim (fun h => hA b (h2 b h)) (hB b),
   fun b hb hc => hc.elim (h12 b hb) (hd b (h1 b hb)), he, Star.append (fun _ h => .inl h) (fun _ h => .inr h) (fun b ha hb => hd b (h2 b ha) hb) hs hf⟩
theorem Star.split : ∀ {es fs : List SL} {S : Foot} {w : World}, Star (es ++ fs) S w →
  ∃ A B : Foot, (∀ b, A b → S b) ∧ (∀ b, B b → S b) ∧ (∀ b, A b → B b → False) ∧ Star es A w ∧ Star fs B w
 | [], _, S, _, h => ⟨fun _ => False, S, fun _ h => h.elim, fun _ h => h, fun _ h => h.elim, trivial, h⟩
 | e :: es, fs, S, w, ⟨A1, B1, h1, h2, h12, he, hs⟩ => by
  obtain ⟨A, B, hA, hB, hd, ha, hb⟩ := Star.split (es := es) hs
  exact ⟨fun b => A1 b ∨ A b, B, fun b h => h.elim (h1 b) (fun h => h2 b (hA b h)), fun b h => h2 b (hB b h),
   fun b h k => h.elim (fun h => h12 b h (hB b k)) (fun h => hd b h k), ⟨A1, A, fun _ h => .inl h, fun _ h => .inr h, fun b h k => h12 b h (hA b k), he, ha⟩, hb⟩
theorem Star.take_ {es : List SL} {k : Nat} {e : SL} {S : Foot} {w : World} (hk : es[k]? = some e) (h : Star es S w) :
  ∃ A B : Foot, (∀ b, A b → S b) ∧ (∀ b, B b → S b) ∧ (∀ b, A b → B b → False) ∧ e.p A w ∧ Star (es.eraseIdx k) B w := by
 induction es generalizing k S with
 | nil => simp at hk
 | cons f es ih =>
  obtain ⟨A1, B1, h1, h2, h12, he, hs⟩ := h
  cases k with
  | zero => simp at hk; subst hk; exact ⟨A1, B1, h1, h2, h12, he, by simpa using hs⟩
  | succ k =>
   obtain ⟨A, B, hA, hB, hd, ha, hb⟩ := ih (by simpa using hk) hs
   refine ⟨A, fun b => A1 b ∨ B b, fun b h => h2 b (hA b h), fun b h => h.elim (h1 b) (fun h => h2 b (hB b h)), fun b h k => k.elim (fun k => h12 b k (hA b h)) (hd b h), ha, ?_⟩
   simp only [List.eraseIdx_cons_succ]
   exact ⟨A1, B, fun _ h => .inl h, fun _ h => .inr h, fun b h k => h12 b h (hB b k), he, hb⟩
structure Fr (S : Foot) (w w' : World) : Prop where
 os : w'.os = w.os
 tape : w'.tape = w.tape
 output : w'.output = w.output
 size : w.heap.size ≤ w'.heap.size
 block : ∀ b, b < w.heap.size → ¬ S b → w'.heap[b]? = w.heap[b]?
theorem Fr.refl (S : Foot) (w : World) : Fr S w w := ⟨rfl, rfl, rfl, Nat.le_refl _, fun _ _ _ => rfl⟩
theorem Fr.below {S : Foot} {w w' : World} (h : Below w.heap.size w w') : Fr S w w' := ⟨h.os, h.tape, h.output, h.size, fun b hb _ => h.block b hb⟩
theorem Fr.toBelow {w w' : World} (h : Fr (fun _ => False) w w') : Below w.heap.size w w' := ⟨h.os, h.tape, h.output, h.size, fun b hb => h.block b hb (fun h => h)⟩
theorem Fr.drew {S : Foot} {w w' : World} (h : Fr S w w') (n : Nat) : Fr S w { w' with drawn := n } := ⟨h.os, h.tape, h.output, h.size, h.block⟩
structure Fits (w0 : World) (S0 : Foot) (ro rw : List SL) (S : Foot) (w : World) : Prop where
 fr : Fr S0 w0 w
 lt : ∀ b, S b → b < w.heap.size
 sub : ∀ b, S b → S0 b ∨ w0.heap.size ≤ b
 star : Star rw S w
 ros : ∀ e ∈ ro, ∃ F : Foot, (∀ b, F b → b < w.heap.size ∧ ¬ S b) ∧ e.p F w
theorem Fits.step {w0 : World} {S0 : Foot} {ro cs rest : List SL} {S : Foot} {w : World} (h : Fits w0 S0 ro (cs ++ rest) S w) :
  ∃ A : Foot, Star cs A w ∧ (∀ b, A b → S b) ∧ (∀ b, A b → b < w.heap.size) ∧ (∀ e ∈ ro, ∃ F : Foot, (∀ b, F b → b < w.heap.size ∧ ¬ A b) ∧ e.p F w) ∧ (∀ e ∈ rest, ∃ F : Foot, (∀ b, F b → b < w.heap.size ∧ ¬ A b) ∧ e.p F w) ∧
   ∀ (w' : World) (S' : Foot) (es : List SL), Fr A w w' → (∀ b, S' b → b < w'.heap.size) → (∀ b, S' b → A b ∨ w.heap.size ≤ b) → Star es S' w' →
    ∃ T, Fits w0 S0 ro (es ++ rest) T w' := by
 obtain ⟨A, B, hA, hB, hd, ha, hb⟩ := h.star.split
 refine ⟨A, ha, hA, fun b hb' => h.lt b (hA b hb'), fun e he => ?_, fun e he => ?_, fun w' S' es hf hlt hsub hs => ⟨fun b => S' b ∨ B b, ?_⟩⟩
 ·obtain ⟨F, hF, hp⟩ := h.ros e he
  exact ⟨F, fun b hb' => ⟨(hF b hb').1, fun hc => (hF b hb').2 (hA b hc)⟩, hp⟩
 ·have key : ∀ {l : List SL} {B : Foot}, e ∈ l → Star l B w → (∀ b, B b → S b) → (∀ b, A b → B b → False) → ∃ F : Foot, (∀ b, F b → b < w.heap.size ∧ ¬ A b) ∧ e.p F w := by
   intro l
   induction l with
   | nil => intro _ hm; cases hm
   | cons f l ih =>
    intro B hm hst hBS hAB
    obtain ⟨C, D, hC, hD, _, hf, hl⟩ := hst
    cases hm with
    | head => exact ⟨C, fun b hb' => ⟨h.lt b (hBS b (hC b hb')), fun hc => hAB b hc (hC b hb')⟩, hf⟩
    | tail _ hm => exact ih hm hl (fun b hb' => hBS b (hD b hb')) (fun b hx hy => hAB b hx (hD b hy))
  exact key he hb hB hd
 ·refine ⟨⟨hf.os.trans h.fr.os, hf.tape.trans h.fr.tape, hf.output.trans h.fr.output, Nat.le_trans h.fr.size hf.size, fun b hb' hn => ?_⟩, ?_, ?_, ?_, ?_⟩
  ·have hz := h.fr.size
   have hna : ¬ A b := fun hab => (h.sub b (hA b hab)).elim hn (fun hge => by omega)
   exact (hf.block b (by omega) hna).trans (h.fr.block b hb' hn)
  ·intro b hb'
   have hz := hf.size
   exact hb'.elim (hlt b) (fun hbb => by have := h.lt b (hB b hbb); omega)
  ·intro b hb'
   have hz := h.fr.size
   exact hb'.elim (fun h1 => (hsub b h1).elim (fun h2 => h.sub b (hA b h2)) (fun h2 => .inr (by omega))) (fun hbb => h.sub b (hB b hbb))
  ·refine Star.append (fun _ h => .inl h) (fun _ h => .inr h) (fun b h1 h2 => ?_) hs (hb.st fun b hbb => hf.block b (h.lt b (hB b hbb)) (fun hab => hd b hab hbb))
   exact (hsub b h1).elim (fun h3 => hd b h3 h2) (fun h3 => by have := h.lt b (hB b h2); omega)
  ·intro e he
   obtain ⟨F, hF, hp⟩ := h.ros e he
   refine ⟨F, fun b hb' => ⟨by have := (hF b hb').1; have := hf.size; omega, fun hc => ?_⟩, e.st _ _ _ (fun b hb' => hf.block b (hF b hb').1 (fun hab => (hF b hb').2 (hA b hab))) hp⟩
   exact hc.elim (fun h1 => (hsub b h1).elim (fun h2 => (hF b hb').2 (hA b h2)) (fun h2 => by have := (hF b hb').1; omega)) (fun h1 => (hF b hb').2 (hB b h1))
theorem Fits.new {w0 : World} {S0 : Foot} {ro rw : List SL} {S : Foot} {w w' : World} (h : Fits w0 S0 ro rw S w) (hf : Below w.heap.size w w') (es : List SL) (S' : Foot)
  (hlt : ∀ b, S' b → w.heap.size ≤ b ∧ b < w'.heap.size) (hs : Star es S' w') : ∃ T, Fits w0 S0 ro (es ++ rw) T w' := by
 obtain ⟨A, _, _, _, _, _, hk⟩ := Fits.step (cs := []) (rest := rw) h
 exact hk w' S' es (Fr.below hf) (fun b hb => (hlt b hb).2) (fun b hb => .inr (hlt b hb).1) hs
theorem Fits.grow {w0 : World} {S0 : Foot} {ro rw : List SL} {S : Foot} {w w' : World} (h : Fits w0 S0 ro rw S w) (hf : Below w.heap.size w w') : ∃ T, Fits w0 S0 ro rw T w' :=
 h.new hf [] (fun _ => False) (fun _ h => h.elim) trivial
theorem Fits.drew {w0 : World} {S0 : Foot} {ro rw : List SL} {S : Foot} {w : World} (h : Fits w0 S0 ro rw S w) (n : Nat) : Fits w0 S0 ro rw S { w with drawn := n } :=
 ⟨h.fr.drew n, h.lt, h.sub, Star.st (w := w) (fun _ _ => rfl) h.star, fun e he => let ⟨F, hF, hp⟩ := h.ros e he; ⟨F, hF, e.st F w _ (fun _ _ => rfl) hp⟩⟩
theorem Fits.give {w0 : World} {S0 : Foot} {ro rw : List SL} {S : Foot} {w : World} {k : Nat} {e : SL} (hk : rw[k]? = some e) (h : Fits w0 S0 ro rw S w) :
  ∃ T, Fits w0 S0 (e :: ro) (rw.eraseIdx k) T w := by
 obtain ⟨A, B, hA, hB, hd, ha, hb⟩ := h.star.take_ hk
 refine ⟨B, h.fr, fun b hb' => h.lt b (hB b hb'), fun b hb' => h.sub b (hB b hb'), hb, fun f hf => ?_⟩
 cases hf with
 | head => exact ⟨A, fun b hb' => ⟨h.lt b (hA b hb'), fun hc => hd b hb' hc⟩, ha⟩
 | tail _ hf =>
  obtain ⟨F, hF, hp⟩ := h.ros f hf
  exact ⟨F, fun b hb' => ⟨(hF b hb').1, fun hc => (hF b hb').2 (hB b hc)⟩, hp⟩
theorem Fits.move {w0 : World} {S0 : Foot} {ro rw : List SL} {S : Foot} {w : World} {k : Nat} {e : SL} (hk : rw[k]? = some e) (h : Fits w0 S0 ro rw S w) :
  Fits w0 S0 ro (e :: rw.eraseIdx k) S w := by
 obtain ⟨A, B, hA, hB, hd, ha, hb⟩ := h.star.take_ hk
 exact ⟨h.fr, h.lt, h.sub, ⟨A, B, hA, hB, hd, ha, hb⟩, h.ros⟩
theorem Fits.see {w0 : World} {S0 : Foot} {ro rw : List SL} {S : Foot} {w : World} {e : SL} (he : e ∈ ro ++ rw) (h : Fits w0 S0 ro rw S w) :
  ∃ F : Foot, (∀ b, F b → b < w.heap.size) ∧ e.p F w := by
 rcases List.mem_append.1 he with he | he
 ·obtain ⟨F, hF, hp⟩ := h.ros e he
  exact ⟨F, fun b hb => (hF b hb).1, hp⟩
 ·obtain ⟨A, _, _, _, _, hr, _⟩ := Fits.step (cs := []) (rest := rw) h
  obtain ⟨F, hF, hp⟩ := hr e he
  exact ⟨F, fun b hb => (hF b hb).1, hp⟩
abbrev Env := List (Nat × Value)
def Env.get : List (Nat × Value) → Nat → Option Value
 | [], _ => none
 | (s, v) :: e, t => match Nat.beq s t with
  | true => some v
  | false => Env.get e t
def Env.ev (e : Env) : Operand → Option Value
 | .tmp t => Env.get e t
 | .const v => some v
 | .global g => some (.pointer (some ⟨g, 0, none⟩))
 | .func f => some (.func (.func f) #[] #[])
structure Agree (N : Nat) (e : Env) (a : Act) : Prop where
 size : a.tmps.size = N
 defers : a.defers = []
 at_ : ∀ t v, Env.get e t = some v → a.tmps[t]? = some v
theorem Agree.ev {N : Nat} {e : Env} {a : Act} (h : Agree N e a) {x : Operand} {v : Value} (hx : Env.ev e x = some v) : a.eval x = v := by
 cases x with
 | tmp t =>
  have := h.at_ t v hx
  simp [Act.eval, Array.getD_eq_getD_getElem?, this]
 | const u => simpa [Env.ev, Act.eval] using hx
 | global g => simpa [Env.ev, Act.eval] using hx
 | func f => simpa [Env.ev, Act.eval] using hx
theorem Agree.put {N : Nat} {e : Env} {a : Act} (h : Agree N e a) {d : Nat} (hd : Nat.blt d N = true) (v : Value) : Agree N ((d, v) :: e) (a.put (some d) v) := by
 have hd' : d < N := by simpa [Nat.blt_eq] using hd
 refine ⟨by simp [Act.put, h.size], by simp [Act.put, h.defers], fun t u ht => ?_⟩
 simp only [Act.put, Array.getElem?_setIfInBounds]
 by_cases hdt : d = t
 ·subst hdt
  simp [Env.get] at ht
  simp [h.size, hd', ht]
 ·rw [if_neg hdt]
  have hb : Nat.beq d t = false := by
   cases hb : Nat.beq d t with
   | true => exact absurd (Nat.eq_of_beq_eq_true hb) hdt
   | false => rfl
  simp only [Env.get, hb] at ht
  exact h.at_ t u ht
def SubE : Env → Env → Prop
 | [], _ => True
 | (t, v) :: E, e => Env.get e t = some v ∧ SubE E e
theorem SubE.get : ∀ {E e : Env}, SubE E e → ∀ t v, Env.get E t = some v → Env.get e t = some v
 | [], _, _, _, _, h => by simp [Env.get] at h
 | (s, u) :: E, e, ⟨h1, h2⟩, t, v, h => by
  cases hb : Nat.beq s t with
  | true =>
   simp only [Env.get, hb] at h
   have := Nat.eq_of_beq_eq_true hb
   subst this
   rw [h1, h]
  | false => simp only [Env.get, hb] at h; exact h2.get t v h
theorem Agree.sub {N : Nat} {E e : Env} {a : Act} (hs : SubE E e) (h : Agree N e a) : Agree N E a := ⟨h.size, h.defers, fun t v ht => h.at_ t v (hs.get t v ht)⟩
def HQ (N : Nat) (w0 : World) (S0 : Foot) (env : Env) (ro rw : List SL) (Q : Act → World → Prop) : Prop :=
 ∀ (a : Act) (S : Foot) (w : World), Agree N env a → Fits w0 S0 ro rw S w → Q a w
def HC (P : Program) (N : Nat) (w0 : World) (S0 : Foot) (c : Code) (env : Env) (ro rw : List SL) (Q : Exit → Act → World → Prop) : Prop := HQ N w0 S0 env ro rw (c.wp P Q)
def HX (N : Nat) (w0 : World) (S0 : Foot) (e : Exit) (env : Env) (ro rw : List SL) (Q : Exit → Act → World → Prop) : Prop := HQ N w0 S0 env ro rw (Q e)
def isSeq : Code → Bool | .seq _ _ => true | _ => false
def isCond : Code → Bool | .cond _ _ _ => true | _ => false
def isBlock : Code → Bool | .block _ _ => true | _ => false
def isLoop : Code → Bool | .loop _ => true | _ => false
def isExit : Code → Bool | .exit _ => true | _ => false
def isRet : Code → Bool | .ret => true | _ => false
def isSkip : Code → Bool | .skip => true | _ => false
def isOrd : Code → Bool | .region _ _ false => true | _ => false
def isDraw : Code → Bool | .region _ _ true => true | _ => false
def cL : Code → Code | .seq a _ => a | c => c
def cR : Code → Code | .seq _ b => b | c => c
def cT : Code → Code | .cond _ a _ => a | c => c
def cE : Code → Code | .cond _ _ b => b | c => c
def cB : Code → Code | .block _ c => c | .loop c => c | .scope c => c | c => c
def cId : Code → Nat | .block i _ => i | .exit i => i | .region i _ _ => i | _ => 0
def cCond : Code → Operand | .cond c _ _ => c | _ => .tmp 0
def cOps : Code → List Oper | .region _ ops _ => ops.toList | _ => []
def bodyOf (f : Func) : Code := f.body.getD .skip
section
variable {P : Program} {N : Nat} {w0 : World} {S0 : Foot} {c : Code} {env : Env} {ro rw : List SL} {Q Q' : Exit → Act → World → Prop}
theorem HC_seq (hk : isSeq c = true) (h : HC P N w0 S0 (cL c) env ro rw (Exit.then ((cR c).wp P Q) Q)) : HC P N w0 S0 c env ro rw Q := by
 cases c <;> simp [isSeq] at hk
 exact fun a S w ha hf => wp_seq (h a S w ha hf)
theorem HC_block (hk : isBlock c = true) (h : HC P N w0 S0 (cB c) env ro rw (Exit.inBlock (cId c) Q)) : HC P N w0 S0 c env ro rw Q := by
 cases c <;> simp [isBlock] at hk
 exact fun a S w ha hf => wp_block (h a S w ha hf)
theorem HC_exit (hk : isExit c = true) (h : HX N w0 S0 (.exit (cId c)) env ro rw Q) : HC P N w0 S0 c env ro rw Q := by
 cases c <;> simp [isExit] at hk
 exact fun a S w ha hf => wp_exit (h a S w ha hf)
theorem HC_ret (hk : isRet c = true) (h : HX N w0 S0 .ret env ro rw Q) : HC P N w0 S0 c env ro rw Q := by
 cases c <;> simp [isRet] at hk
 exact fun a S w ha hf => wp_ret (h a S w ha hf)
theorem HC_skip (hk : isSkip c = true) (h : HX N w0 S0 .normal env ro rw Q) : HC P N w0 S0 c env ro rw Q := by
 cases c <;> simp [isSkip] at hk
 exact fun a S w ha hf => wp_skip (h a S w ha hf)
theorem HC_cond {b : Bool} (hk : isCond c = true) (hv : Env.ev env (cCond c) = some (.bool b)) (ht : b = true → HC P N w0 S0 (cT c) env ro rw Q) (hf : b = false → HC P N w0 S0 (cE c) env ro rw Q) :
  HC P N w0 S0 c env ro rw Q := by
 cases c <;> simp [isCond] at hk
 exact fun a S w ha hw => wp_cond_split (ha.ev hv) (fun h => ht h a S w ha hw) (fun h => hf h a S w ha hw)
theorem HX_then {c : Code} {Q' : Exit → Act → World → Prop} (h : HC P N w0 S0 c env ro rw Q) : HX N w0 S0 .normal env ro rw (Exit.then (c.wp P Q) Q') := h
theorem HX_then_ret {K : Act → World → Prop} (h : HX N w0 S0 .ret env ro rw Q) : HX N w0 S0 .ret env ro rw (Exit.then K Q) := h
theorem HX_then_exit {i : Nat} {K : Act → World → Prop} (h : HX N w0 S0 (.exit i) env ro rw Q) : HX N w0 S0 (.exit i) env ro rw (Exit.then K Q) := h
theorem HX_block_normal {i : Nat} (h : HX N w0 S0 .normal env ro rw Q) : HX N w0 S0 .normal env ro rw (Exit.inBlock i Q) := h
theorem HX_block_ret {i : Nat} (h : HX N w0 S0 .ret env ro rw Q) : HX N w0 S0 .ret env ro rw (Exit.inBlock i Q) := h
theorem HX_block_hit {i j : Nat} (hij : Nat.beq i j = true) (h : HX N w0 S0 .normal env ro rw Q) : HX N w0 S0 (.exit i) env ro rw (Exit.inBlock j Q) := by
 have := Nat.eq_of_beq_eq_true hij
 subst this
 intro a S w ha hf
 simp only [Exit.inBlock, if_true]
 exact h a S w ha hf
theorem HX_block_miss {i j : Nat} (hij : Nat.beq i j = false) (h : HX N w0 S0 (.exit i) env ro rw Q) : HX N w0 S0 (.exit i) env ro rw (Exit.inBlock j Q) := by
 have hne : i ≠ j := fun e => by subst e; simp at hij
 intro a S w ha hf
 simp only [Exit.inBlock, hne, if_false]
 exact h a S w ha hf
theorem HQ_give {K : Act → World → Prop} {k : Nat} {e : SL} (hk : rw[k]? = some e) (h : HQ N w0 S0 env (e :: ro) (rw.eraseIdx k) K) : HQ N w0 S0 env ro rw K :=
 fun a _ w ha hf => let ⟨T, hT⟩ := hf.give hk; h a T w ha hT
def At (N : Nat) (w0 : World) (S0 : Foot) (ro : List SL) {α : Type} (φ : α → Prop) (E : α → Env) (R : α → List SL) (a : Act) (w : World) : Prop :=
 ∃ x, φ x ∧ ∃ S, Agree N (E x) a ∧ Fits w0 S0 ro (R x) S w
theorem HQ_at {α : Type} {φ : α → Prop} {E : α → Env} {R : α → List SL} (x : α) (hφ : φ x) (hE : SubE (E x) env) (hR : rw = R x) : HQ N w0 S0 env ro rw (At N w0 S0 ro φ E R) :=
 fun a S w ha hf => ⟨x, hφ, S, ha.sub hE, hR ▸ hf⟩
theorem HX_at {α : Type} {φ : α → Prop} {E : α → Env} {R : α → List SL} (x : α) (hφ : φ x) (hE : SubE (E x) env) (hR : rw = R x) : HX N w0 S0 .normal env ro rw (Exit.then (At N w0 S0 ro φ E R) Q) :=
 HQ_at x hφ hE hR
theorem HC_loop {α : Type} (φ : α → Prop) (E : α → Env) (R : α → List SL) (μ : α → Nat) (hk : isLoop c = true) (x0 : α) (hφ : φ x0) (hE : SubE (E x0) env) (hR : rw = R x0)
  (h : ∀ x, φ x → HC P N w0 S0 (cB c) (E x) ro (R x) (Exit.then (At N w0 S0 ro (fun y => φ y ∧ μ y < μ x) E R) Q)) : HC P N w0 S0 c env ro rw Q := by
 cases c <;> simp [isLoop] at hk
 rename_i c
 subst hR
 intro a S w ha hf
 have key : ∀ (n : Nat) (x : α), μ x < n → φ x → ∀ a S w, Agree N (E x) a → Fits w0 S0 ro (R x) S w → ∀ (b : Frame) (k : List Item) (cs : List Frame),
   ∃ e a' w', Q e a' w' ∧ Arrives P (lone (b.at a (.code c :: .inLoop c :: k)) cs w) b k cs e a' w' := by
  intro n
  induction n with
  | zero => intro x hx; omega
  | succ n ih =>
   intro x hx hφ a S w ha hf b k cs
   obtain ⟨e, a₁, w₁, hq, harr⟩ := h x hφ a S w ha hf b (.inLoop c :: k) cs
   cases e with
   | normal =>
    obtain ⟨y, ⟨hy, hlt⟩, T, hA, hT⟩ := hq
    obtain ⟨e₂, a₂, w₂, hq₂, harr₂⟩ := ih y (by omega) hy a₁ T w₁ hA hT b k cs
    exact ⟨e₂, a₂, w₂, hq₂, .of_steps (Steps.trans harr (.one step_inLoop)) harr₂⟩
   | exit id => exact ⟨_, a₁, w₁, hq, .pass (x := .inLoop c) rfl (fun _ _ => .inl (by simp)) harr⟩
   | goto l => exact ⟨_, a₁, w₁, hq, .pass (x := .inLoop c) rfl (fun _ _ => .inl (by simp)) harr⟩
   | ret => exact ⟨_, a₁, w₁, hq, .pass (x := .inLoop c) rfl (fun _ _ => .inl (by simp)) harr⟩
   | panic ch => exact ⟨_, a₁, w₁, hq, .pass (x := .inLoop c) rfl (fun _ _ => .inl (by simp)) harr⟩
   | outgrown => exact ⟨_, a₁, w₁, hq, .pass (x := .inLoop c) rfl (fun _ _ => .inl (by simp)) harr⟩
 intro b k cs
 obtain ⟨e, a', w', hq, harr⟩ := key _ x0 (Nat.lt_succ_self _) hφ a S w (ha.sub hE) hf b k cs
 exact ⟨e, a', w', hq, .of_steps (.one step_loop) harr⟩
end
end Go.Proofs.YteeogabkkblkgaaGreatDoor
namespace Go.Proofs.YteeogabkkblkgaaGreatDoor
set_option linter.unusedVariables false
set_option linter.unusedSimpArgs false
open Go.RowKit
def Kof (K : Act → World → Prop) : Exit → Act → World → Prop
 | .normal, a, w => K a w
 | _, _, _ => False
theorem LetsOut_Kof {K K' : Act → World → Prop} (h : LetsOut (Kof K)) : LetsOut (Kof K') := by obtain ⟨_, _, h⟩ := h; exact h.elim
def cls (w0 : World) (S0 : Foot) (ro rw : List SL) (w : World) : Prop := ∃ S, Fits w0 S0 ro rw S w
def RoOk (es : List SL) (w : World) : Prop := ∀ e ∈ es, ∃ F : Foot, (∀ b, F b → b < w.heap.size) ∧ e.p F w
theorem Fits.roOk {w0 : World} {S0 : Foot} {ro rw : List SL} {S : Foot} {w : World} (h : Fits w0 S0 ro rw S w) : RoOk (ro ++ rw) w := fun _ he => h.see he
inductive Md where
 | ord | quiet | lex (ro0 : List SL) | pick (ro0 : List SL)
def seeL : Md → List SL → List SL → List SL
 | .ord, ro, rw => ro ++ rw
 | .quiet, ro, rw => ro ++ rw
 | .lex _, ro, _ => ro
 | .pick _, ro, _ => ro
@[reducible] def nmM : Md → Md
 | .pick ro0 => .lex ro0
 | m => m
def memN (t : Nat) : List Nat → Bool
 | [] => false
 | s :: l => match Nat.beq s t with | true => true | false => memN t l
theorem memN_iff {t : Nat} : ∀ {l : List Nat}, memN t l = true ↔ t ∈ l
 | [] => by simp [memN]
 | s :: l => by
  simp only [memN]
  cases hb : Nat.beq s t with
  | true => have := Nat.eq_of_beq_eq_true hb; subst this; simp
  | false =>
   have hne : t ≠ s := fun e => by subst e; simp at hb
   simp [memN_iff (l := l), hne]
def opsAt (ops : List Oper) (l : List Nat) : List Oper := l.filterMap (ops[·]?)
def dlist (ops : List Oper) (l : List Nat) : Array Bool := ((List.range ops.length).map fun i => !(memN i l)).toArray
theorem dlist_set {ops : List Oper} {i : Nat} {l : List Nat} (hi : memN i l = false) : (dlist ops (i :: l)).setIfInBounds i true = dlist ops l := by
 apply Array.ext_getElem?
 intro k
 simp only [dlist, Array.getElem?_setIfInBounds, List.getElem?_toArray, List.getElem?_map, List.size_toArray, List.length_map, List.length_range]
 by_cases hk : k < ops.length
 ·rw [List.getElem?_range hk]
  by_cases hik : i = k
  ·subst hik
   simp [hk, hi]
  ·have hb : Nat.beq i k = false := by
    cases hb : Nat.beq i k with
    | true => exact absurd (Nat.eq_of_beq_eq_true hb) hik
    | false => rfl
   simp [hik, memN, hb]
 ·rw [List.getElem?_eq_none (by simp; omega)]
  by_cases hik : i = k
  ·subst hik; simp [hk]
  ·simp [hik]
def lastB (ops : Array Oper) : Bool := match ops[ops.size - 1]? with
 | none => false
 | some o => match o.op with
  | .store _ _ _ => (List.range (ops.size - 1)).all fun i => (List.range ops.size).any fun k => Nat.blt i k && match ops[k]? with
   | none => false
   | some ok => ok.after.any fun e => Region.binds .any e && Nat.beq e.on i
  | _ => false
def Closed (ops : Array Oper) (listed : Array Bool) : Prop := ∀ (k : Nat) (o : Oper), ops[k]? = some o → listed.getD k false = true → ∀ e ∈ o.after, Region.binds .any e = true → listed.getD e.on false = true
def exB (ops : Array Oper) (listed : Array Bool) : Bool := lastB ops && listed.getD (ops.size - 1) false
theorem Closed.below {ops : Array Oper} {listed : Array Bool} (hc : Closed ops listed) (hl : lastB ops = true) (h : listed.getD (ops.size - 1) false = true) : ∀ (n i : Nat), i + n = ops.size - 1 → listed.getD i false = true := by
 intro n
 induction n using Nat.strongRecOn with
 | _ n ih =>
  intro i hi
  cases n with
  | zero =>
   have : i = ops.size - 1 := by omega
   rw [this]; exact h
  | succ n =>
   unfold lastB at hl
   split at hl
   ·cases hl
   ·split at hl
    ·rw [List.all_eq_true] at hl
     have h1 := hl i (List.mem_range.2 (by omega))
     rw [List.any_eq_true] at h1
     obtain ⟨k, hk, h2⟩ := h1
     rw [Bool.and_eq_true, Nat.blt_eq] at h2
     obtain ⟨hik, h3⟩ := h2
     have hk' := List.mem_range.1 hk
     split at h3
     ·cases h3
     ·rename_i ok hok
      obtain ⟨e, he, h4⟩ := Array.any_eq_true'.1 h3
      rw [Bool.and_eq_true] at h4
      have e1 := Nat.eq_of_beq_eq_true h4.2
      have := hc k ok hok (ih (ops.size - 1 - k) (by omega) k (by omega)) e he h4.1
      rwa [e1] at this
    ·cases hl
theorem exB_first {ops : Array Oper} {listed : Array Bool} {i : Nat} (hlast : lastB ops = true → Closed ops listed ∧ i ≠ ops.size - 1) (hi : i ∈ Region.ready .any ops listed) : exB ops (listed.setIfInBounds i true) = false := by
 unfold exB
 cases hl : lastB ops with
 | false => rfl
 | true =>
  obtain ⟨hc, hne⟩ := hlast hl
  rw [Bool.true_and]
  cases hg : (listed.setIfInBounds i true).getD (ops.size - 1) false with
  | false => rfl
  | true =>
   rw [getD_set_ne false hne] at hg
   obtain ⟨h0, oi, hoi, _⟩ := mem_ready.1 hi
   have hlt : i < ops.size := (Array.getElem?_eq_some_iff.1 hoi).1
   have h1 := hc.below hl hg (ops.size - 1 - i) i (by omega)
   rcases Nat.lt_or_ge i listed.size with h' | h'
   ·simp [h'] at h0 h1; rw [h0] at h1; cases h1
   ·simp [Array.getElem?_eq_none h'] at h1
theorem Closed.set {ops : Array Oper} {listed : Array Bool} {j : Nat} (hc : Closed ops listed) (hj : j ∈ Region.ready .any ops listed) : Closed ops (listed.setIfInBounds j true) := by
 intro k o ho hk e he hb
 by_cases hjk : j = k
 ·subst hjk
  obtain ⟨_, oj, hoj, hall⟩ := mem_ready.1 hj
  rw [ho] at hoj
  cases hoj
  exact getD_set_true (hall e he hb)
 ·rw [getD_set_ne false hjk] at hk
  exact getD_set_true (hc k o ho hk e he hb)
def wpAnyD (P : Program) (ops : Array Oper) (D : World → Prop) (K : Act → World → Prop) : Nat → Array Bool → Act → World → Prop
 | 0, listed, a, w => (exB ops listed = false → D w) ∧ Region.ready .any ops listed = [] ∧ K a w
 | fuel + 1, listed, a, w => (exB ops listed = false → D w) ∧ (Region.ready .any ops listed = [] → K a w) ∧ ∀ i ∈ Region.ready .any ops listed, wpOp P ops (Kof K) i (wpAnyD P ops D K fuel (listed.setIfInBounds i true)) a w
section
variable {P : Program} {ops : Array Oper} {D D' : World → Prop} {K : Act → World → Prop}
theorem upon_mono {o : Oper} {a : Act} {n n' : Act → World → Prop} {K K' : Act → World → Prop} {r : Result Next}
  (hn : ∀ (b : Act) (w : World), (b.tmps = a.tmps) → ∀ v, n (b.put o.dst v) w → n' (b.put o.dst v) w) (h : o.upon P a n (Kof K) r) : o.upon P a n' (Kof K') r := by
 cases r with
 | ok x w =>
  cases x <;> simp only [Oper.upon] at h ⊢ <;> try (exact h)
  case value v => exact hn a w rfl v h
  case skip => exact hn a w rfl _ h
  case defer d => exact hn { a with defers := d :: a.defers } w rfl undef h
  case enter f args =>
   refine h.mono fun e w' he => ?_
   cases e with
   | returned v => exact hn a w' rfl v he
   | panicked c => exact he
   | outgrown => exact LetsOut_Kof he
  case row r args => exact h.mono fun v w' he => hn a w' rfl v he
 | halt x w => cases x <;> simp only [Oper.upon] at h ⊢ <;> exact h
theorem wpOp_mono {i : Nat} {n n' : Act → World → Prop} {K K' : Act → World → Prop} {a : Act} {w : World} (hn : ∀ a w, n a w → n' a w) (h : wpOp P ops (Kof K) i n a w) : wpOp P ops (Kof K') i n' a w := by
 unfold wpOp at h ⊢
 split
 ·rename_i ho; simp only [ho] at h; exact hn _ _ h
 ·rename_i o ho
  simp only [ho] at h
  split
  ·rename_i hw
   simp only [hw, if_true] at h
   rcases h with h | ⟨h, hl⟩
   ·exact .inl (upon_mono (fun b w _ v => hn _ _) h)
   ·exact .inr ⟨h, LetsOut_Kof hl⟩
  ·rename_i hw
   simp only [hw] at h
   exact hn _ _ h
theorem wpAnyD_weak (hD : ∀ w, D' w → D w) : ∀ (fuel : Nat) (listed : Array Bool) (a : Act) (w : World), wpAnyD P ops D' K fuel listed a w → wpAnyD P ops D K fuel listed a w
 | 0, _, _, _, h => ⟨fun e => hD _ (h.1 e), h.2⟩
 | fuel + 1, _, _, _, h => ⟨fun e => hD _ (h.1 e), h.2.1, fun i hi => wpOp_mono (fun a w => wpAnyD_weak hD fuel _ a w) (h.2.2 i hi)⟩
theorem wpAny_of_D : ∀ (fuel : Nat) (listed : Array Bool) (a : Act) (w : World), wpAnyD P ops D K fuel listed a w → wpAny P .any ops (Kof K) fuel listed a w
 | 0, _, _, _, h => h.2
 | fuel + 1, _, _, _, h => ⟨h.2.1, fun i hi => wpOp_mono (fun a w => wpAny_of_D fuel _ a w) (h.2.2 i hi)⟩
def YieldsD (P : Program) (ops : Array Oper) (D : World → Prop) (o : Oper) (v : Value) (a : Act) : Prop :=
 (Region.wanted o (yielded ops a.tmps) = true ∧ ∀ w, D w → (execOp a.eval o).run P w = .ok (.value v) w) ∨ (Region.wanted o (yielded ops a.tmps) = false ∧ v = undef)
theorem YieldsD.wpOp {i : Nat} {o : Oper} {v : Value} {a : Act} {w : World} {n : Act → World → Prop} (ho : ops[i]? = some o) (hy : YieldsD P ops D o v a) (hD : D w) (hn : n (a.put o.dst v) w) : wpOp P ops (Kof K) i n a w := by
 unfold Go.wpOp
 simp only [ho]
 rcases hy with ⟨hw, hv⟩ | ⟨hw, rfl⟩
 ·rw [if_pos hw]
  left
  unfold Oper.wp
  rw [hv w hD]
  exact hn
 ·rw [if_neg (by rw [hw]; simp)]
  exact hn
theorem wpOp_put {j : Nat} {oi oj : Oper} {v : Value} (hj : ops[j]? = some oj) (hap : oi.apart ops oj = true) (hsi : ∀ cs b, oi.op ≠ .select cs b) (hsj : ∀ cs b, oj.op ≠ .select cs b) {n : Act → World → Prop} {a : Act} {w : World}
  (hy : YieldsD P ops D oi v a) (h : wpOp P ops (Kof K) j n (a.put oi.dst v) w) : wpOp P ops (Kof K) j (fun a' w' => YieldsD P ops D oi v a' ∧ n (a'.put oi.dst v) w') a w := by
 obtain ⟨h1, h2, h3⟩ := Oper.apart_spec hap
 have keep : ∀ (b : Act), b.tmps = a.tmps → ∀ u, YieldsD P ops D oi v (b.put oj.dst u) := fun b hb u => by
  have e1 : execOp (b.put oj.dst u).eval oi = execOp a.eval oi := by
   rw [execOp_put oi hsi b oj.dst u h3]
   have : b.eval = a.eval := by funext x; cases x <;> simp [Act.eval, hb]
   rw [this]
  have e2 : Region.wanted oi (yielded ops (b.put oj.dst u).tmps) = Region.wanted oi (yielded ops a.tmps) := by rw [wanted_put oi b oj.dst u h3, hb]
  unfold YieldsD
  rw [e1, e2]
  exact hy
 unfold wpOp at h ⊢
 simp only [hj] at h ⊢
 rw [wanted_put oj a oi.dst v h1] at h
 split
 ·rename_i hw
  simp only [hw, if_true] at h
  rcases h with h | ⟨h, hl⟩
  ·left
   unfold Oper.wp at h ⊢
   rw [execOp_put oj hsj a oi.dst v h1] at h
   generalize (execOp a.eval oj).run P w = r at h
   cases r with
   | ok x w' =>
    cases x <;> simp only [Oper.upon] at h ⊢ <;> try (exact h)
    case value u => exact ⟨keep a rfl u, by rw [← Act.put_comm a v u h2]; exact h⟩
    case skip => exact ⟨keep a rfl undef, by rw [← Act.put_comm a v undef h2]; exact h⟩
    case defer d =>
     refine ⟨keep { a with defers := d :: a.defers } rfl undef, ?_⟩
     have e : ({ a with defers := d :: a.defers } : Act).put oi.dst v = { a.put oi.dst v with defers := d :: (a.put oi.dst v).defers } := by cases oi.dst <;> rfl
     rw [← Act.put_comm { a with defers := d :: a.defers } v undef h2, e]
     exact h
    case enter f args =>
     refine h.mono fun e w' he => ?_
     cases e with
     | returned u => exact ⟨keep a rfl u, by rw [← Act.put_comm a v u h2]; exact he⟩
     | panicked c => exact he
     | outgrown => exact LetsOut_Kof he
    case row r args => exact h.mono fun u w' he => ⟨keep a rfl u, by rw [← Act.put_comm a v u h2]; exact he⟩
   | halt x w' => cases x <;> simp only [Oper.upon] at h ⊢ <;> exact h
  ·exact hl.elim fun _ ⟨_, h⟩ => h.elim
 ·rename_i hw
  simp only [hw] at h
  exact ⟨keep a rfl undef, by rw [← Act.put_comm a v undef h2]; exact h⟩
theorem wpAnyD_first {i : Nat} {oi : Oper} {v : Value} (hi : ops[i]? = some oi) (hsel : ∀ (j : Nat) (o : Oper) cs b, ops[j]? = some o → o.op ≠ .select cs b) :
  ∀ (fuel : Nat) (listed : Array Bool) (a : Act) (w : World),
   (∀ j oj, ops[j]? = some oj → j ≠ i → listed.getD j true = false → (∀ e ∈ oj.after, Region.binds .any e = true → e.on ≠ i) → oi.apart ops oj = true) →
   (lastB ops = true → Closed ops listed ∧ i ≠ ops.size - 1) → i ∈ Region.ready .any ops listed → YieldsD P ops D oi v a → wpAnyD P ops D K fuel (listed.setIfInBounds i true) (a.put oi.dst v) w → wpAnyD P ops D K (fuel + 1) listed a w := by
 intro fuel
 induction fuel with
 | zero =>
  intro listed a w _ hlast hr hy H
  have HD := H.1 (exB_first hlast hr)
  refine ⟨fun _ => HD, fun h => (by rw [h] at hr; cases hr), fun j hj => ?_⟩
  by_cases hji : j = i
  ·subst hji; exact hy.wpOp hi HD H
  ·have := ready_mono hj hji
   rw [H.2.1] at this
   cases this
 | succ fuel ih =>
  intro listed a w hfree hlast hr hy H
  have HD := H.1 (exB_first hlast hr)
  refine ⟨fun _ => HD, fun h => (by rw [h] at hr; cases hr), fun j hj => ?_⟩
  by_cases hji : j = i
  ·subst hji; exact hy.wpOp hi HD H
  ·have h1 := H.2.2 j (ready_mono hj hji)
   obtain ⟨hjun, oj, hoj, hall⟩ := mem_ready.1 hj
   have hnot : ∀ e ∈ oj.after, Region.binds .any e = true → e.on ≠ i := fun e he hb heq => by
    have h1 := hall e he hb
    have h0 := (mem_ready.1 hr).1
    rw [heq] at h1
    rcases Nat.lt_or_ge i listed.size with h' | h'
    ·simp [h'] at h0 h1; rw [h0] at h1; cases h1
    ·simp [Array.getElem?_eq_none h'] at h1
   have h2 := wpOp_put hoj (hfree j oj hoj hji hjun hnot) (fun cs b => hsel i oi cs b hi) (fun cs b => hsel j oj cs b hoj) hy h1
   have hfree' : ∀ k ok, ops[k]? = some ok → k ≠ i → (listed.setIfInBounds j true).getD k true = false →
     (∀ e ∈ ok.after, Region.binds .any e = true → e.on ≠ i) → oi.apart ops ok = true := fun k ok hk hki hun hno => by
    refine hfree k ok hk hki ?_ hno
    by_cases hjk : j = k
    ·subst hjk; exact hjun
    ·rw [getD_set_ne true hjk] at hun; exact hun
   refine wpOp_mono (fun a' w' h3 => ih (listed.setIfInBounds j true) a' w' hfree' (fun hl => ⟨(hlast hl).1.set hj, (hlast hl).2⟩) (ready_mono hr (Ne.symm hji)) h3.1 ?_) h2
   rw [Array.setIfInBounds_comm _ _ hji]
   exact h3.2
end
def HO (m : Md) (P : Program) (N : Nat) (w0 : World) (S0 : Foot) (ops : List Oper) (l : List Nat) (env : Env) (ro rw : List SL) (K : Act → World → Prop) : Prop :=
 match m with
 | .ord => HQ N w0 S0 env ro rw (wpList P ops.toArray (Kof K) (opsAt ops l))
 | .quiet => ∀ a, Agree N env a → wpQuiet P ops.toArray (cls w0 S0 ro rw) (fun a' => ∀ w', cls w0 S0 ro rw w' → K a' w') (opsAt ops l) a
 | .lex ro0 => ∀ held, ro = held ++ ro0 → HQ N w0 S0 env ro0 (held ++ rw) (wpAnyD P ops.toArray (RoOk ro) K l.length (dlist ops l))
 | .pick ro0 => ∀ held, ro = held ++ ro0 → match l with
  | [] => False
  | i :: l' => HQ N w0 S0 env ro0 (held ++ rw) (wpOp P ops.toArray (Kof K) i (wpAnyD P ops.toArray (RoOk ro) K l'.length (dlist ops l')))
def closedB (ops : List Oper) (l : List Nat) : Bool := (List.range ops.length).all fun k => memN k l || match ops[k]? with
 | none => true
 | some o => o.after.all fun e => !Region.binds .any e || (!memN e.on l && Nat.blt e.on ops.length)
def extraB (ops : List Oper) (i : Nat) (l : List Nat) : Bool := match lastB ops.toArray with
 | false => true
 | true => closedB ops (i :: l) && !(Nat.beq i (ops.length - 1))
theorem dlist_get {ops : List Oper} {l : List Nat} {k : Nat} : (dlist ops l).getD k false = (Nat.blt k ops.length && !memN k l) := by
 unfold dlist
 by_cases hk : k < ops.length
 ·have : Nat.blt k ops.length = true := by rw [Nat.blt_eq]; exact hk
  simp [hk, this]
 ·have : Nat.blt k ops.length = false := by
   cases hb : Nat.blt k ops.length with
   | false => rfl
   | true => exact absurd (by rw [Nat.blt_eq] at hb; exact hb) hk
  simp [hk, this]
theorem extraB_spec {ops : List Oper} {i : Nat} {l : List Nat} (h : extraB ops i l = true) (hl : lastB ops.toArray = true) : Closed ops.toArray (dlist ops (i :: l)) ∧ i ≠ ops.toArray.size - 1 := by
 unfold extraB at h
 rw [hl] at h
 simp only [Bool.and_eq_true, Bool.not_eq_true'] at h
 refine ⟨fun k o ho hk e he hb => ?_, fun hi => ?_⟩
 ·rw [dlist_get, Bool.and_eq_true, Nat.blt_eq, Bool.not_eq_true'] at hk
  have h1 := h.1
  unfold closedB at h1
  rw [List.all_eq_true] at h1
  have h2 := h1 k (List.mem_range.2 hk.1)
  have ho' : ops[k]? = some o := by simpa using ho
  rw [hk.2, Bool.false_or, ho'] at h2
  have h3 := Array.all_eq_true_iff_forall_mem.1 h2 e he
  rw [hb] at h3
  simp only [Bool.not_true, Bool.false_or, Bool.and_eq_true, Bool.not_eq_true'] at h3
  rw [dlist_get, h3.1, h3.2]
  rfl
 ·have hi : i = ops.length - 1 := by simpa using hi
  have := h.2
  rw [hi, Nat.beq_refl] at this
  cases this
def rdyB (m : Md) (ops : List Oper) (i : Nat) (l : List Nat) : Bool := match m with
 | .ord => true
 | .quiet => true
 | .lex _ => !(memN i l) && Region.noSelect ops.toArray && (Region.ready .any ops.toArray (dlist ops (i :: l))).contains i && Region.free .any ops.toArray (dlist ops (i :: l)) i && extraB ops i l
 | .pick _ => false
def soleB (m : Md) (ops : List Oper) (i : Nat) (l : List Nat) : Bool := match m with
 | .ord => true
 | .quiet => false
 | .lex _ => !(memN i l) && Nat.blt i ops.length && (match Region.ready .any ops.toArray (dlist ops (i :: l)) with | [j] => Nat.beq i j | _ => false)
 | .pick _ => !(memN i l) && Nat.blt i ops.length
def rdyL (ops : List Oper) (i : Nat) (l : List Nat) : Bool := !(memN i l) && Region.noSelect ops.toArray && (Region.ready .any ops.toArray (dlist ops (i :: l))).contains i && Region.free .any ops.toArray (dlist ops (i :: l)) i && extraB ops i l
def soleL (ops : List Oper) (i : Nat) (l : List Nat) : Bool := !(memN i l) && Nat.blt i ops.length && (match Region.ready .any ops.toArray (dlist ops (i :: l)) with | [j] => Nat.beq i j | _ => false)
theorem rdy_ord {ops : List Oper} {i : Nat} {l : List Nat} : rdyB .ord ops i l = true := rfl
theorem rdy_quiet {ops : List Oper} {i : Nat} {l : List Nat} : rdyB .quiet ops i l = true := rfl
theorem rdy_lexL {ro0 : List SL} {ops : List Oper} {i : Nat} {l : List Nat} (h : rdyL ops i l = true) : rdyB (.lex ro0) ops i l = true := h
theorem sole_ord {ops : List Oper} {i : Nat} {l : List Nat} : soleB .ord ops i l = true := rfl
theorem sole_lexL {ro0 : List SL} {ops : List Oper} {i : Nat} {l : List Nat} (h : soleL ops i l = true) : soleB (.lex ro0) ops i l = true := h
theorem sole_pick {ro0 : List SL} {ops : List Oper} {i : Nat} {l : List Nat} (h : (!(memN i l) && Nat.blt i ops.length) = true) : soleB (.pick ro0) ops i l = true := h
def wantE (ops : List Oper) (env : Env) : Option (Nat × Bool) → Option Bool
 | none => some true
 | some (j, want) => match ops[j]? with
  | none => none
  | some o => match o.dst with
   | none => none
   | some d => match Env.get env d with
    | some (.bool true) => match want with | true => some true | false => some false
    | some (.bool false) => match want with | true => some false | false => some true
    | some (.tuple _) => some false
    | _ => none
theorem wantE_ok {ops : List Oper} {N : Nat} {env : Env} {a : Act} (ha : Agree N env a) {o : Oper} {b : Bool} (h : wantE ops env o.guard = some b) : Region.wanted o (yielded ops.toArray a.tmps) = b := by
 unfold Region.wanted
 cases hg : o.guard with
 | none => simp [hg, wantE] at h; simp [h]
 | some g =>
  obtain ⟨j, want⟩ := g
  rw [hg] at h
  simp only [wantE] at h
  cases ho : ops[j]? with
  | none => simp [ho] at h
  | some o' =>
   simp only [ho] at h
   cases hd : o'.dst with
   | none => simp [hd] at h
   | some d =>
    simp only [hd] at h
    cases hv : Env.get env d with
    | none => simp [hv] at h
    | some v =>
     have hv' := ha.at_ d v hv
     simp only [hv] at h
     have hy : yielded ops.toArray a.tmps j = (match v with | .bool b => some b | _ => none) := by
      unfold yielded
      simp only [List.getElem?_toArray, ho, Option.bind_some, hd, hv']
      cases v <;> rfl
     show (yielded ops.toArray a.tmps j == some want) = b
     rw [hy]
     cases v with
     | bool b' => cases b' <;> cases want <;> (simp at h; subst h; rfl)
     | tuple vs => simp at h; subst h; rfl
     | _ => simp at h
section
variable {m : Md} {P : Program} {N : Nat} {w0 : World} {S0 : Foot} {ops : List Oper} {i : Nat} {lq : List Nat} {env : Env} {ro rw : List SL} {K : Act → World → Prop} {o : Oper}
theorem opsAt_cons (ho : ops[i]? = some o) : opsAt ops (i :: lq) = o :: opsAt ops lq := by simp [opsAt, ho]
theorem rdy_lex {ro0 : List SL} (h : rdyB (.lex ro0) ops i lq = true) : memN i lq = false ∧ Region.noSelect ops.toArray = true ∧ i ∈ Region.ready .any ops.toArray (dlist ops (i :: lq)) ∧ Region.free .any ops.toArray (dlist ops (i :: lq)) i = true ∧ extraB ops i lq = true := by
 simp only [rdyB, Bool.and_eq_true, Bool.not_eq_true', List.contains_iff_mem] at h
 exact ⟨h.1.1.1.1, h.1.1.1.2, h.1.1.2, h.1.2, h.2⟩
theorem HO_lexFirst {ro0 : List SL} {v : Value} (ho : ops[i]? = some o) (hr : rdyB (.lex ro0) ops i lq = true) {a : Act} {w : World} {D : World → Prop} (hy : YieldsD P ops.toArray D o v a)
  (h : wpAnyD P ops.toArray D K lq.length (dlist ops lq) (a.put o.dst v) w) : wpAnyD P ops.toArray D K (i :: lq).length (dlist ops (i :: lq)) a w := by
 obtain ⟨h1, h2, h3, h4, h5⟩ := rdy_lex hr
 have ho' : ops.toArray[i]? = some o := by simpa using ho
 refine wpAnyD_first ho' (Region.noSelect_spec h2) lq.length (dlist ops (i :: lq)) a w (Region.free_spec ho' h4) (extraB_spec h5) h3 hy ?_
 rw [dlist_set h1]
 exact h
theorem HO_val {d : Nat} {v : Value} (ho : ops[i]? = some o) (hw : wantE ops env o.guard = some true) (hd : o.dst = some d) (hN : Nat.blt d N = true) (hr : rdyB m ops i lq = true)
  (hv : ∀ a w, Agree N env a → RoOk (seeL m ro rw) w → (execOp a.eval o).run P w = .ok (.value v) w)
  (h : HO m P N w0 S0 ops lq ((d, v) :: env) ro rw K) : HO m P N w0 S0 ops (i :: lq) env ro rw K := by
 cases m with
 | ord =>
  intro a S w ha hf
  rw [opsAt_cons ho]
  unfold wpList
  rw [if_pos (wantE_ok ha hw)]
  left
  unfold Oper.wp
  rw [hv a w ha hf.roOk, Oper.upon_value, hd]
  exact h _ S w (ha.put hN v) hf
 | quiet =>
  intro a ha
  rw [opsAt_cons ho]
  unfold wpQuiet
  rw [if_pos (wantE_ok ha hw)]
  refine ⟨v, fun w ⟨S, hf⟩ => ?_, ?_⟩
  ·unfold Oper.quietAt
   rw [hv a w ha hf.roOk]
   exact ⟨rfl, rfl⟩
  ·rw [hd]
   exact h _ (ha.put hN v)
 | lex ro0 =>
  intro held he a S w ha hf
  refine HO_lexFirst ho hr (.inl ⟨wantE_ok ha hw, fun w' hD => hv a w' ha hD⟩) ?_
  rw [hd]
  exact h held he _ S w (ha.put hN v) hf
 | pick ro0 => cases hr
theorem HO_skip {d : Nat} (ho : ops[i]? = some o) (hw : wantE ops env o.guard = some false) (hd : o.dst = some d) (hN : Nat.blt d N = true) (hr : rdyB m ops i lq = true)
  (h : HO m P N w0 S0 ops lq ((d, undef) :: env) ro rw K) : HO m P N w0 S0 ops (i :: lq) env ro rw K := by
 cases m with
 | ord =>
  intro a S w ha hf
  rw [opsAt_cons ho]
  unfold wpList
  rw [if_neg (by rw [wantE_ok ha hw]; simp), hd]
  exact h _ S w (ha.put hN _) hf
 | quiet =>
  intro a ha
  rw [opsAt_cons ho]
  unfold wpQuiet
  rw [if_neg (by rw [wantE_ok ha hw]; simp), hd]
  exact h _ (ha.put hN _)
 | lex ro0 =>
  intro held he a S w ha hf
  refine HO_lexFirst ho hr (.inr ⟨wantE_ok ha hw, rfl⟩) ?_
  rw [hd]
  exact h held he _ S w (ha.put hN _) hf
 | pick ro0 => cases hr
theorem Fits.comm {a b : List SL} {S : Foot} {w : World} (h : Fits w0 S0 ro (a ++ b) S w) : Fits w0 S0 ro (b ++ a) S w := by
 obtain ⟨A, B, hA, hB, hd, h1, h2⟩ := h.star.split
 exact ⟨h.fr, h.lt, h.sub, Star.append hB hA (fun b hb ha => hd b ha hb) h2 h1, h.ros⟩
def dEnv (o : Oper) (v : Value) (env : Env) : Env := match o.dst with | some d => (d, v) :: env | none => env
def dOk (N : Nat) (o : Oper) : Bool := match o.dst with | some d => Nat.blt d N | none => true
theorem Agree.dput {a : Act} (ha : Agree N env a) (hN : dOk N o = true) (v : Value) : Agree N (dEnv o v env) (a.put o.dst v) := by
 unfold dEnv dOk at *
 cases hd : o.dst with
 | none => exact ha
 | some d => rw [hd] at hN; exact ha.put hN _
theorem HO_do {α : Type} {rw' : α → List SL} {φ : α → Prop} {val : α → Value} (ho : ops[i]? = some o) (hw : wantE ops env o.guard = some true) (hs : soleB m ops i lq = true) (hN : dOk N o = true)
  (hv : ∀ w1 S1 a S w (n : Act → World → Prop), Agree N env a → Fits w1 S1 ro rw S w → (∀ x S' w', φ x → Fits w1 S1 ro (rw' x) S' w' → n (a.put o.dst (val x)) w') → o.wp P a w n (Kof K))
  (h : ∀ x, φ x → HO (nmM m) P N w0 S0 ops lq (dEnv o (val x) env) ro (rw' x) K) : HO m P N w0 S0 ops (i :: lq) env ro rw K := by
 have key : ∀ (held ro0 : List SL), ro = held ++ ro0 → ∀ (n : Act → World → Prop) (a : Act) (S : Foot) (w : World), Agree N env a → Fits w0 S0 ro0 (held ++ rw) S w →
   (∀ x T w', φ x → Fits w0 S0 ro0 (held ++ rw' x) T w' → n (a.put o.dst (val x)) w') → o.wp P a w n (Kof K) := by
  intro held ro0 hro n a S w ha hf hn
  obtain ⟨A, hA, hAS, hAl, hr1, hr2, hk⟩ := hf.comm.step
  refine hv w A a A w n ha ⟨Fr.refl _ _, hAl, fun b hb => .inl hb, hA, fun e he => ?_⟩ (fun x S' w' hx hfx => ?_)
  ·rw [hro] at he
   exact (List.mem_append.1 he).elim (hr2 e) (hr1 e)
  ·obtain ⟨T, hT⟩ := hk w' S' (rw' x) hfx.fr hfx.lt hfx.sub hfx.star
   exact hn x T w' hx hT.comm
 cases m with
 | ord =>
  intro a S w ha hf
  rw [opsAt_cons ho]
  unfold wpList
  rw [if_pos (wantE_ok ha hw)]
  left
  exact hv w0 S0 a S w _ ha hf fun x S' w' hx hfx => h x hx _ S' w' (ha.dput hN _) hfx
 | quiet => cases hs
 | lex ro0 =>
  simp only [soleB, Bool.and_eq_true, Bool.not_eq_true', Nat.blt_eq] at hs
  obtain ⟨⟨hnm, hlt⟩, hone⟩ := hs
  intro held hro a S w ha hf
  refine ⟨fun _ e he => ?_, fun hnil => ?_, fun j hj => ?_⟩
  ·rw [hro] at he
   exact hf.see (by simp only [List.mem_append] at he ⊢; rcases he with he | he <;> simp [he])
  ·rw [hnil] at hone; cases hone
  ·have hji : j = i := by
    split at hone
    ·rename_i q hq
     rw [hq] at hj
     have := Nat.eq_of_beq_eq_true hone
     simp at hj
     omega
    ·cases hone
   subst hji
   unfold wpOp
   simp only [List.getElem?_toArray, ho]
   rw [if_pos (wantE_ok ha hw)]
   left
   refine key held ro0 hro _ a S w ha hf fun x T w' hx hfx => ?_
   rw [dlist_set hnm]
   exact h x hx held hro _ T w' (ha.dput hN _) hfx
 | pick ro0 =>
  intro held hro a S w ha hf
  unfold wpOp
  simp only [List.getElem?_toArray, ho]
  rw [if_pos (wantE_ok ha hw)]
  left
  exact key held ro0 hro _ a S w ha hf fun x T w' hx hfx => h x hx held hro _ T w' (ha.dput hN _) hfx
theorem HO_act_ex {α : Type} {d : Nat} {v : α → Value} {φ : α → Prop} {rw' : α → List SL} (ho : ops[i]? = some o) (hw : wantE ops env o.guard = some true) (hd : o.dst = some d) (hN : Nat.blt d N = true) (hs : soleB m ops i lq = true)
  (hv : ∀ w1 S1 a S w, Agree N env a → Fits w1 S1 ro rw S w → ∃ x S' w', φ x ∧ (execOp a.eval o).run P w = .ok (.value (v x)) w' ∧ Fits w1 S1 ro (rw' x) S' w')
  (h : ∀ x, φ x → HO (nmM m) P N w0 S0 ops lq ((d, v x) :: env) ro (rw' x) K) : HO m P N w0 S0 ops (i :: lq) env ro rw K := by
 refine HO_do (φ := φ) (val := v) (rw' := rw') ho hw hs (by simp only [dOk, hd]; exact hN) (fun w1 S1 a S w n ha hf hn => ?_) (fun x hx => by simp only [dEnv, hd]; exact h x hx)
 obtain ⟨x, S', w', hx, hr, hf'⟩ := hv w1 S1 a S w ha hf
 unfold Oper.wp
 rw [hr, Oper.upon_value]
 exact hn x S' w' hx hf'
theorem HO_unit {rw' : List SL} (ho : ops[i]? = some o) (hw : wantE ops env o.guard = some true) (hd : o.dst = none) (hs : soleB m ops i lq = true)
  (hv : ∀ w1 S1 a S w, Agree N env a → Fits w1 S1 ro rw S w → ∃ S' w', (execOp a.eval o).run P w = .ok .skip w' ∧ Fits w1 S1 ro rw' S' w')
  (h : HO (nmM m) P N w0 S0 ops lq env ro rw' K) : HO m P N w0 S0 ops (i :: lq) env ro rw K := by
 refine HO_do (α := Unit) (φ := fun _ => True) (val := fun _ => undef) (rw' := fun _ => rw') ho hw hs (by simp only [dOk, hd]) (fun w1 S1 a S w n ha hf hn => ?_) (fun x hx => by simp only [dEnv, hd]; exact h)
 obtain ⟨S', w', hr, hf'⟩ := hv w1 S1 a S w ha hf
 unfold Oper.wp
 rw [hr, Oper.upon_skip]
 exact hn () S' w' trivial hf'
theorem HO_hold {ro0 : List SL} {l : List Nat} {k : Nat} {e : SL} (hk : rw[k]? = some e) (h : HO (.lex ro0) P N w0 S0 ops l env (e :: ro) (rw.eraseIdx k) K) : HO (.lex ro0) P N w0 S0 ops l env ro rw K := by
 intro held hro a S w ha hf
 have h1 := h (e :: held) (by rw [hro]; rfl)
 have h2 : Fits w0 S0 ro0 ((e :: held) ++ rw.eraseIdx k) S w := by
  have hk' : (held ++ rw)[held.length + k]? = some e := by rw [List.getElem?_append_right (by omega)]; simpa using hk
  have := hf.move hk'
  rwa [List.eraseIdx_append_of_length_le (by omega), Nat.add_sub_cancel_left] at this
 exact wpAnyD_weak (fun w hD e' he' => hD e' (List.mem_cons_of_mem _ he')) _ _ _ _ (h1 a S w ha h2)
theorem HO_two {ro0 : List SL} {l l1 l2 : List Nat} {i j : Nat} (hr : Region.ready .any ops.toArray (dlist ops l) = [i, j]) (hl : Nat.blt 0 l.length = true) (h1 : (dlist ops (i :: l1)).toList = (dlist ops l).toList ∧ memN i l1 = false ∧ l1.length + 1 = l.length)
  (h2 : (dlist ops (j :: l2)).toList = (dlist ops l).toList ∧ memN j l2 = false ∧ l2.length + 1 = l.length)
  (g1 : HO (.pick ro0) P N w0 S0 ops (i :: l1) env ro rw K) (g2 : HO (.pick ro0) P N w0 S0 ops (j :: l2) env ro rw K) : HO (.lex ro0) P N w0 S0 ops l env ro rw K := by
 intro held hro a S w ha hf
 obtain ⟨e1, n1, q1⟩ := h1
 obtain ⟨e2, n2, q2⟩ := h2
 have e1' : dlist ops (i :: l1) = dlist ops l := Array.ext' e1
 have e2' : dlist ops (j :: l2) = dlist ops l := Array.ext' e2
 rw [← q1]
 refine ⟨fun _ e he => ?_, ?_, fun q hq => ?_⟩
 rotate_left 1
 ·intro hnil
  rw [hr] at hnil
  cases hnil
 rotate_left 1
 ·rw [hro] at he
  exact hf.see (by simp only [List.mem_append] at he ⊢; rcases he with he | he <;> simp [he])
 ·rw [hr] at hq
  simp at hq
  rcases hq with rfl | rfl
  ·rw [← e1', dlist_set n1]
   exact g1 held hro a S w ha hf
  ·rw [← e2', dlist_set n2]
   have : l1.length = l2.length := by omega
   rw [this]
   exact g2 held hro a S w ha hf
theorem HO_done (h : HQ N w0 S0 env ro rw K) : HO .ord P N w0 S0 ops [] env ro rw K := h
theorem HO_doneQ (h : HQ N w0 S0 env ro rw K) : HO .quiet P N w0 S0 ops [] env ro rw K := fun a ha w' ⟨S, hS⟩ => h a S w' ha hS
theorem HO_doneL {ro0 held : List SL} (hro : ro = held ++ ro0) (hr : Region.ready .any ops.toArray (dlist ops []) = []) (h : HQ N w0 S0 env ro0 (held ++ rw) K) : HO (.lex ro0) P N w0 S0 ops [] env ro rw K := by
 intro held' hro' a S w ha hf
 have : held' = held := List.append_cancel_right (hro'.symm.trans hro)
 subst this
 refine ⟨fun _ e he => ?_, hr, h a S w ha hf⟩
 rw [hro] at he
 exact hf.see (by simp only [List.mem_append] at he ⊢; rcases he with he | he <;> simp [he])
theorem HO_lastL {ro0 held : List SL} {L : Nat} (hro : ro = held ++ ro0) (hL : (lastB ops.toArray && Nat.beq L (ops.toArray.size - 1) && Nat.blt L ops.length) = true) (hr : Region.ready .any ops.toArray (dlist ops [L]) = [L]) (hr0 : Region.ready .any ops.toArray (dlist ops []) = [])
  (h : HO .ord P N w0 S0 ops [L] env ro0 (held ++ rw) K) : HO (.lex ro0) P N w0 S0 ops [L] env ro rw K := by
 intro held' hro' a S w ha hf
 have : held' = held := List.append_cancel_right (hro'.symm.trans hro)
 subst this
 rw [Bool.and_eq_true, Bool.and_eq_true] at hL
 obtain ⟨⟨hl, hLe⟩, hblt⟩ := hL
 have hlt : L < ops.length := by rw [Nat.blt_eq] at hblt; exact hblt
 have hLe := Nat.eq_of_beq_eq_true hLe
 have ho : ops[L]? = some ops[L] := List.getElem?_eq_getElem hlt
 have hw := h a S w ha hf
 rw [opsAt_cons ho] at hw
 refine ⟨fun _ e he => ?_, fun hn => ?_, fun q hq => ?_⟩
 ·rw [hro] at he
  exact hf.see (by simp only [List.mem_append] at he ⊢; rcases he with he | he <;> simp [he])
 ·rw [hr] at hn; cases hn
 ·rw [hr] at hq
  simp at hq
  subst hq
  rw [dlist_set rfl]
  have hex : exB ops.toArray (dlist ops []) = true := by
   unfold exB
   rw [hl, ← hLe, dlist_get, hblt]
   rfl
  have hend : ∀ (a : Act) (w : World), wpList P ops.toArray (Kof K) (opsAt ops []) a w → wpAnyD P ops.toArray (RoOk ro) K 0 (dlist ops []) a w := fun a w hk =>
   ⟨fun he => (by rw [hex] at he; cases he), hr0, hk⟩
  unfold wpOp
  simp only [List.getElem?_toArray, ho]
  unfold wpList at hw
  split
  ·rename_i hwn
   simp only [hwn, if_true] at hw
   rcases hw with hw | hw
   ·left
    exact upon_mono (fun b w' _ v hk => hend _ _ hk) hw
   ·exact .inr hw
  ·rename_i hwn
   simp only [hwn] at hw
   exact hend _ _ hw
theorem HO_rw {l : List Nat} {d : Nat} {v v' : Value} (hv : v = v') (h : HO m P N w0 S0 ops l ((d, v') :: env) ro rw K) : HO m P N w0 S0 ops l ((d, v) :: env) ro rw K := hv ▸ h
theorem wpQuiet_none {P : Program} {ops : Array Oper} {C : World → Prop} {K : Act → World → Prop} (hC : ¬ ∃ w, C w) : ∀ (l : List Oper) (a : Act), wpQuiet P ops C (fun a' => ∀ w', C w' → K a' w') l a
 | [], _ => fun w hw => absurd ⟨w, hw⟩ hC
 | o :: l, a => by
  unfold wpQuiet
  split
  ·exact ⟨undef, fun w hw => absurd ⟨w, hw⟩ hC, wpQuiet_none hC l _⟩
  ·exact wpQuiet_none hC l _
theorem HO_gen {l : List Nat} {C : Prop} (hm : (match m with | .pick _ => false | _ => true) = true) (hC : ∀ w, RoOk (seeL m ro rw) w → C) (h : C → HO m P N w0 S0 ops l env ro rw K) : HO m P N w0 S0 ops l env ro rw K := by
 cases m with
 | ord => exact fun a S w ha hf => h (hC w hf.roOk) a S w ha hf
 | quiet =>
  intro a ha
  by_cases hex : ∃ w', cls w0 S0 ro rw w'
  ·obtain ⟨w', S, hS⟩ := hex
   exact h (hC w' hS.roOk) a ha
  ·exact wpQuiet_none hex _ _
 | lex ro0 =>
  intro held hro a S w ha hf
  refine h (hC w fun e he => ?_) held hro a S w ha hf
  have he : e ∈ ro := he
  rw [hro] at he
  exact hf.see (by simp only [List.mem_append] at he ⊢; rcases he with he | he <;> simp [he])
 | pick ro0 => cases hm
end
def nlits : List Nat := [0, 1, 2, 3, 4, 5, 6, 7, 8, 9, 10, 11, 12, 13, 14, 15, 16, 17, 18, 19, 20, 21, 22, 23, 24, 25, 26, 27, 28, 29, 30, 31, 32, 33, 34, 35, 36, 37, 38, 39, 40, 41, 42, 43, 44, 45, 46, 47, 48, 49, 50, 51, 52, 53, 54, 55, 56, 57, 58, 59, 60, 61, 62, 63, 64, 65, 66, 67, 68, 69, 70, 71, 72, 73, 74, 75, 76, 77, 78, 79, 80, 81, 82, 83, 84, 85, 86, 87, 88, 89, 90, 91, 92, 93, 94, 95, 96, 97, 98, 99, 100, 101, 102, 103, 104, 105, 106, 107, 108, 109, 110, 111, 112, 113, 114, 115, 116, 117, 118, 119, 120, 121, 122, 123, 124, 125, 126, 127, 128, 129, 130, 131, 132, 133, 134, 135, 136, 137, 138, 139, 140, 141, 142, 143, 144, 145, 146, 147, 148, 149, 150, 151, 152, 153, 154, 155, 156, 157, 158, 159, 160, 161, 162, 163, 164, 165, 166, 167, 168, 169, 170, 171, 172, 173, 174, 175, 176, 177, 178, 179, 180, 181, 182, 183, 184, 185, 186, 187, 188, 189, 190, 191, 192, 193, 194, 195, 196, 197, 198, 199]
def nlistG : List Oper → List Nat → Option (List Nat)
 | [], _ => some []
 | _ :: os, k :: ks => match nlistG os ks with
  | some l => some (k :: l)
  | none => none
 | _ :: _, [] => none
def nlist (ops : List Oper) : Option (List Nat) := nlistG ops nlits
def readsB : Op → Bool
 | .move _ | .assign _ | .pick _ _ _ | .binOp _ _ _ _ _ | .unOp _ _ _ | .extract _ _ | .load _ _ | .fieldAddr _ _ _ | .indexAddr _ _ _ | .convert _ _ _ | .build _ _ | .makeFunc _ _ _ | .field _ _ _ | .index _ _ _ | .nilCheck _ | .slice _ _ _ _ _ => true
 | .call c => match c.callee with | .builtin .len => true | .builtin .cap => true | .builtin .min => true | .builtin .max => true | _ => false
 | _ => false
def edgesOk (l : List Nat) : List Edge → Bool
 | [] => true
 | e :: es => match Region.binds .any e with
  | true => match memN e.on l with
   | true => false
   | false => edgesOk l es
  | false => edgesOk l es
def pickE (ops : List Oper) (all : List Nat) (rd : Bool) : List Nat → Option Nat
 | [] => none
 | i :: l => match ops[i]? with
  | none => none
  | some o => match edgesOk all o.after.toList with
   | false => pickE ops all rd l
   | true => match rd with
    | false => some i
    | true => match readsB o.op with
     | true => some i
     | false => pickE ops all rd l
def dropN (i : Nat) : List Nat → List Nat
 | [] => []
 | j :: l => match Nat.beq i j with
  | true => l
  | false => j :: dropN i l
def elistG (ops : List Oper) : List Oper → List Nat → Option (List Nat)
 | [], _ => some []
 | _ :: f, l =>
  match pickE ops l true l with
  | some i => match elistG ops f (dropN i l) with
   | some r => some (i :: r)
   | none => none
  | none => match pickE ops l false l with
   | some i => match elistG ops f (dropN i l) with
    | some r => some (i :: r)
    | none => none
   | none => none
def elist (ops : List Oper) : Option (List Nat) := match nlist ops with
 | some l => elistG ops ops l
 | none => none
section
variable {P : Program} {N : Nat} {w0 : World} {S0 : Foot} {c : Code} {env : Env} {ro rw : List SL} {Q : Exit → Act → World → Prop}
theorem opsAt_all (ops : List Oper) : ∀ (l : List Nat) (k : Nat), (∀ q, q < l.length → l[q]? = some (k + q)) → k + l.length = ops.length → opsAt ops l = ops.drop k
 | [], k, _, h => by
  simp [opsAt] at h ⊢
  omega
 | i :: l, k, hl, h => by
  have h0 := hl 0 (by simp)
  simp at h0
  subst h0
  have hk : i < ops.length := by simp at h; omega
  rw [opsAt_cons (List.getElem?_eq_getElem hk), List.drop_eq_getElem_cons hk]
  rw [opsAt_all ops l (i + 1) (fun q hq => by have := hl (q + 1) (by simp; omega); simp at this; rw [this]; congr 1; omega) (by simp at h; omega)]
def seqB : Nat → List Nat → Bool
 | _, [] => true
 | k, i :: l => Nat.beq i k && seqB (k + 1) l
theorem seqB_spec : ∀ {l : List Nat} {k : Nat}, seqB k l = true → ∀ q, q < l.length → l[q]? = some (k + q)
 | [], k, _, q, hq => by simp at hq
 | i :: l, k, h, q, hq => by
  simp only [seqB, Bool.and_eq_true] at h
  have e := Nat.eq_of_beq_eq_true h.1
  cases q with
  | zero => simp [e]
  | succ q => have := seqB_spec h.2 q (by simpa using hq); simp [this]; omega
theorem HC_ord {l : List Nat} (hk : isOrd c = true) (hl : nlist (cOps c) = some l) (hs : seqB 0 l = true) (hn : Nat.beq l.length (cOps c).length = true) (h : HO .ord P N w0 S0 (cOps c) l env ro rw (Q .normal)) : HC P N w0 S0 c env ro rw Q := by
 cases c <;> try (simp [isOrd] at hk; done)
 rename_i id ops draw
 cases draw <;> try (simp [isOrd] at hk; done)
 intro a S w ha hf
 have h1 := h a S w ha hf
 have h2 := opsAt_all (cOps (.region id ops false)) l 0 (seqB_spec hs) (by simpa using Nat.eq_of_beq_eq_true hn)
 rw [h2] at h1
 simp only [cOps, List.drop_zero, Array.toArray_toList] at h1
 have := wp_region_list (id := id) h1
 exact wp_mono this fun e a w he => by cases e <;> first | exact he | exact he.elim
theorem HC_draw {l : List Nat} (hk : isDraw c = true) (hl : nlist (cOps c) = some l) (hs : seqB 0 l = true) (hn : Nat.beq l.length (cOps c).length = true) (hm : P.follows .mixedOrders = true) (hB : Region.lexB .any (cOps c).toArray = true)
  (h : HO .quiet P N w0 S0 (cOps c) l env ro rw (Q .normal)) : HC P N w0 S0 c env ro rw Q := by
 cases c <;> try (simp [isDraw] at hk; done)
 rename_i id ops draw
 cases draw <;> try (simp [isDraw] at hk; done)
 intro a S w ha hf
 have h1 := h a ha
 have h2 := opsAt_all (cOps (.region id ops true)) l 0 (seqB_spec hs) (by simpa using Nat.eq_of_beq_eq_true hn)
 rw [h2] at h1
 simp only [cOps, List.drop_zero, Array.toArray_toList] at h1 hB
 exact wp_region_quiet (C := cls w0 S0 ro rw) hm hB ⟨S, hf.drew _⟩ h1
theorem HC_lex {l : List Nat} (hk : isDraw c = true) (hl : elist (cOps c) = some l) (hs : (dlist (cOps c) l).toList.all (!·) = true) (hn : Nat.beq l.length (cOps c).length = true) (hm : P.follows .mixedOrders = true)
  (h : HO (.lex ro) P N w0 S0 (cOps c) l env ro rw (Q .normal)) : HC P N w0 S0 c env ro rw Q := by
 cases c <;> try (simp [isDraw] at hk; done)
 rename_i id ops draw
 cases draw <;> try (simp [isDraw] at hk; done)
 intro a S w ha hf
 have h1 := h [] rfl a S _ ha (hf.drew (w.drawn + 1))
 have hn' := Nat.eq_of_beq_eq_true hn
 have hd : dlist (cOps (.region id ops true)) l = Array.replicate ops.size false := by
  apply Array.ext'
  rw [Array.toList_replicate]
  apply List.eq_replicate_iff.2
  refine ⟨by simp [dlist, cOps], fun b hb => ?_⟩
  have := List.all_eq_true.1 hs b hb
  simpa using this
 rw [hd, hn'] at h1
 simp only [cOps, Array.toArray_toList, Array.length_toList] at h1
 exact wp_mono (wp_region_any (id := id) hm (wpAny_of_D _ _ _ _ h1)) fun e a w he => by cases e <;> first | exact he | exact he.elim
end
end Go.Proofs.YteeogabkkblkgaaGreatDoor
namespace Go.Proofs.YteeogabkkblkgaaGreatDoor
set_option linter.unusedVariables false
set_option linter.unusedSimpArgs false
open Go.RowKit
def aggD : TypeDesc → Bool | .struct _ => true | .array _ _ => true | _ => false
def tyOneB (P : Program) (T : Nat) : Bool := match P.underlying T, P.info? T with | some d, some i => !aggD d && i.size == 1 | _, _ => false
def tyAggB (P : Program) (T n : Nat) : Bool := match P.underlying T, P.info? T with | some d, some i => aggD d && i.size == n | _, _ => false
def fOffB (P : Program) (T f o : Nat) : Bool := match P.underlying T with
 | some (.struct fs) => match fs[f]? with
  | some fl => fl.offset == o && (match P.info? fl.type with | some i => i.size != 0 | none => false)
  | none => false
 | _ => false
def fnB (P : Program) (g : Nat) : Bool := match P.funcs[g]? with | some fn => fn.body.isSome && fn.name != "runtime.NumGoroutine" | none => false
class TyOne (P : Program) (T : Nat) : Prop where h : tyOneB P T = true
class TyAgg (P : Program) (T : Nat) (n : outParam Nat) : Prop where h : tyAggB P T n = true
class TyZero (P : Program) (T : Nat) (z : outParam Value) : Prop where h : (P.info? T).bind (·.zero) = some z
class FOff (P : Program) (T f : Nat) (o : outParam Nat) : Prop where h : fOffB P T f o = true
class FnOk (P : Program) (g : Nat) : Prop where h : fnB P g = true
class TySlice (P : Program) (T : Nat) (e : outParam Nat) : Prop where h : P.underlying T = some (.slice e)
class TyInt (P : Program) (T : Nat) (k : outParam IntKind) : Prop where h : P.underlying T = some (.int k)
class TyStr (P : Program) (T : Nat) : Prop where h : P.underlying T = some .string
section
variable {P : Program} {T : Nat} (w : World)
theorem isAgg_one (h : tyOneB P T = true) : (isAgg T).run P w = .ok false w := by
 unfold tyOneB at h
 cases hu : P.underlying T with
 | none => simp [hu] at h
 | some d =>
  simp only [isAgg, Sem.run_bind, run_underlying hu, Result.andThen_ok]
  cases hi : P.info? T with
  | none => simp [hu, hi] at h
  | some i => cases d <;> simp_all [aggD]
theorem isAgg_agg {n : Nat} (h : tyAggB P T n = true) : (isAgg T).run P w = .ok true w := by
 unfold tyAggB at h
 cases hu : P.underlying T with
 | none => simp [hu] at h
 | some d =>
  simp only [isAgg, Sem.run_bind, run_underlying hu, Result.andThen_ok]
  cases hi : P.info? T with
  | none => simp [hu, hi] at h
  | some i => cases d <;> simp_all [aggD]
theorem size_one (h : tyOneB P T = true) : (sizeOf T).run P w = .ok 1 w := by
 unfold tyOneB at h
 cases hi : P.info? T with
 | none => cases hu : P.underlying T <;> simp [hu, hi] at h
 | some i =>
  cases hu : P.underlying T with
  | none => simp [hu] at h
  | some d =>
   simp [hu, hi] at h
   rw [run_sizeOf w hi]
   simp [Program.cellsOf, hi, h.2]
theorem size_agg {n : Nat} (h : tyAggB P T n = true) : (sizeOf T).run P w = .ok n w := by
 unfold tyAggB at h
 cases hi : P.info? T with
 | none => cases hu : P.underlying T <;> simp [hu, hi] at h
 | some i =>
  cases hu : P.underlying T with
  | none => simp [hu] at h
  | some d =>
   simp [hu, hi] at h
   rw [run_sizeOf w hi]
   simp [Program.cellsOf, hi, h.2]
theorem zero_run {z : Value} (h : (P.info? T).bind (·.zero) = some z) : (zeroValue T).run P w = .ok z w := by
 cases hi : P.info? T with
 | none => simp [hi] at h
 | some i =>
  simp [hi] at h
  simp [zeroValue, typeInfo, hi, h]
end
theorem run_load_cell {P : Program} (w : World) {a : Addr} {v : Value} (h : w.cell? a = some v) : (load a).run P w = .ok v w := by simp [load, Sem.run, h]
theorem run_loadCellsFrom {P : Program} (w : World) (a : Addr) : ∀ (l : List Value) (i : Nat) (acc : Array Value), (∀ k v, l[k]? = some v → w.cell? (a.add (i + k)) = some v) →
  (loadCellsFrom a i l.length acc).run P w = .ok (acc ++ l.toArray) w
 | [], i, acc, _ => by simp [loadCellsFrom]
 | v :: l, i, acc, h => by
  have h0 := h 0 v rfl
  simp only [Nat.add_zero] at h0
  simp only [List.length_cons, loadCellsFrom, Sem.run_bind, run_load_cell w h0, Result.andThen_ok]
  rw [run_loadCellsFrom w a l (i + 1) (acc.push v) (fun k u hk => by have := h (k + 1) u (by simpa using hk); rwa [show i + (k + 1) = i + 1 + k from by omega] at this)]
  simp
theorem run_loadVar_one {P : Program} {T : Nat} (w : World) (hT : tyOneB P T = true) {a : Addr} {v : Value} (h : w.cell? a = some v) : (loadVar T a).run P w = .ok v w := by
 simp only [loadVar, Sem.run_bind, isAgg_one w hT, Result.andThen_ok, Bool.false_eq_true, if_false, run_load_cell w h]
theorem run_loadVar_agg {P : Program} {T : Nat} (w : World) {a : Addr} {l : List Value} (hT : tyAggB P T l.length = true) (h : ∀ k v, l[k]? = some v → w.cell? (a.add k) = some v) : (loadVar T a).run P w = .ok (.agg l.toArray) w := by
 simp only [loadVar, Sem.run_bind, isAgg_agg w hT, size_agg w hT, Result.andThen_ok, if_true, loadCells]
 rw [run_loadCellsFrom w a l 0 #[] (fun k v hk => by simpa using h k v hk)]
 simp
def cel (b : Nat) (T : TypeId) (cs : List Value) : SL where
 p S w := S b ∧ w.heap[b]? = some (.cells cs.toArray T (0, 0))
 st S w w' h hp := ⟨hp.1, (h b hp.1).trans hp.2⟩
theorem cel_cell {b T : Nat} {cs : List Value} {S : Foot} {w : World} (h : (cel b T cs).p S w) (i : Nat) : w.cell? ⟨b, i, none⟩ = cs[i]? := by
 have := h.2
 simp [World.cell?, this]
theorem addr_add (b off k : Nat) : Addr.add ⟨b, off, none⟩ k = ⟨b, off + k, none⟩ := by
 unfold Addr.add
 by_cases hk : k = 0 <;> simp [hk]
def subL : List Value → Nat → Nat → Option (List Value)
 | _, _, 0 => some []
 | [], _, _ + 1 => none
 | x :: xs, 0, n + 1 => match subL xs 0 n with | some l => some (x :: l) | none => none
 | _ :: xs, off + 1, n + 1 => subL xs off (n + 1)
theorem subL_spec : ∀ (cs : List Value) (off n : Nat) (l : List Value), subL cs off n = some l → l.length = n ∧ ∀ k, k < n → cs[off + k]? = l[k]?
 | cs, off, 0, l, h => by simp [subL] at h; subst h; exact ⟨rfl, fun k hk => absurd hk (by omega)⟩
 | [], off, n + 1, l, h => by simp [subL] at h
 | x :: xs, 0, n + 1, l, h => by
  simp only [subL] at h
  cases hs : subL xs 0 n with
  | none => simp [hs] at h
  | some q =>
   simp [hs] at h
   subst h
   obtain ⟨hl, hk⟩ := subL_spec xs 0 n q hs
   refine ⟨by simp [hl], fun k hk' => ?_⟩
   cases k with
   | zero => simp
   | succ k => have := hk k (by omega); simpa using this
 | x :: xs, off + 1, n + 1, l, h => by
  simp only [subL] at h
  obtain ⟨hl, hk⟩ := subL_spec xs off (n + 1) l h
  exact ⟨hl, fun k hk' => by have := hk k hk'; rw [show off + 1 + k = (off + k) + 1 from by omega]; simpa using this⟩
def putL : List Value → Nat → List Value → Option (List Value)
 | xs, _, [] => some xs
 | [], _, _ :: _ => none
 | _ :: xs, 0, v :: vs => match putL xs 0 vs with | some l => some (v :: l) | none => none
 | x :: xs, off + 1, v :: vs => match putL xs off (v :: vs) with | some l => some (x :: l) | none => none
theorem putL_cons : ∀ (xs : List Value) (off : Nat) (v : Value) (vs l : List Value), putL xs off (v :: vs) = some l → off < xs.length ∧ putL (xs.set off v) (off + 1) vs = some l
 | [], off, v, vs, l, h => by cases off <;> simp [putL] at h
 | x :: xs, 0, v, vs, l, h => by
  simp only [putL] at h
  cases hp : putL xs 0 vs with
  | none => simp [hp] at h
  | some m =>
   simp [hp] at h
   subst h
   refine ⟨by simp, ?_⟩
   cases vs with
   | nil => simp [putL] at hp ⊢; exact hp
   | cons u us => simp [List.set, putL, hp]
 | x :: xs, off + 1, v, vs, l, h => by
  simp only [putL] at h
  cases hp : putL xs off (v :: vs) with
  | none => simp [hp] at h
  | some m =>
   simp [hp] at h
   subst h
   obtain ⟨h1, h2⟩ := putL_cons xs off v vs m hp
   refine ⟨by simp; omega, ?_⟩
   cases vs with
   | nil => simp [putL] at h2 ⊢; exact h2
   | cons u us => simp [List.set, putL, h2]
theorem run_storeCells_cel {P : Program} {b T : Nat} : ∀ (vs : List Value) (w : World) (cs : List Value) (off i : Nat) (l : List Value), w.heap[b]? = some (.cells cs.toArray T (0, 0)) → putL cs (off + i) vs = some l → (∀ v ∈ vs, v.oneCell' = true) →
  ∃ w', (storeCells ⟨b, off, none⟩ vs i).run P w = .ok () w' ∧ w'.heap[b]? = some (.cells l.toArray T (0, 0)) ∧ (∀ k, k ≠ b → w'.heap[k]? = w.heap[k]?) ∧ w'.heap.size = w.heap.size ∧ w'.os = w.os ∧ w'.tape = w.tape ∧ w'.output = w.output
 | [], w, cs, off, i, l, hb, hp, _ => by
  simp [putL] at hp
  subst hp
  exact ⟨w, by simp [storeCells], hb, fun _ _ => rfl, rfl, rfl, rfl, rfl⟩
 | v :: vs, w, cs, off, i, l, hb, hp, h1 => by
  obtain ⟨hlt, hp'⟩ := putL_cons _ _ _ _ _ hp
  have hc : w.cell? ⟨b, off + i, none⟩ = some (cs[off + i]) := by simp [World.cell?, hb, hlt]
  have hf : w.frozen? ⟨b, off + i, none⟩ = false := by simp [World.frozen?, hb]
  have hs : (store (Addr.add ⟨b, off, none⟩ i) v).run P w = .ok () (w.setCell ⟨b, off + i, none⟩ v) := by
   rw [addr_add, run_store P w _ v .plain (h1 v (by simp))]
   simp [stored, hc, hf]
  have hb' : (w.setCell ⟨b, off + i, none⟩ v).heap[b]? = some (.cells (cs.set (off + i) v).toArray T (0, 0)) := by
   simp [World.setCell, Array.getElem?_modify, hb]
  obtain ⟨w', hr, h2, h3, h4, h5, h6, h7⟩ := run_storeCells_cel (P := P) vs (w.setCell ⟨b, off + i, none⟩ v) (cs.set (off + i) v) off (i + 1) l hb' (by rw [← Nat.add_assoc]; exact hp') (fun u hu => h1 u (by simp [hu]))
  refine ⟨w', ?_, h2, fun k hk => (h3 k hk).trans (Below.heap_setCell _ _ _ _ hk), h4.trans (by simp [World.setCell]), h5, h6, h7⟩
  simp only [storeCells, Sem.run_bind, hs, Result.andThen_ok, hr]
def cmpI (op : BinOp) (a b : Int) : Option Value := match op with
 | .eql => some (.bool (decide (a = b)))
 | .neq => some (.bool (!decide (a = b)))
 | .lss => some (.bool (decide (a < b)))
 | .leq => some (.bool (decide (a ≤ b)))
 | .gtr => some (.bool (decide (b < a)))
 | .geq => some (.bool (decide (b ≤ a)))
 | _ => none
def bAnd (k : IntKind) (a b : Int) : Int := k.wrap (BitVec.ofInt k.bits a &&& BitVec.ofInt k.bits b).toNat
def bOr (k : IntKind) (a b : Int) : Int := k.wrap (BitVec.ofInt k.bits a ||| BitVec.ofInt k.bits b).toNat
def bXor (k : IntKind) (a b : Int) : Int := k.wrap (BitVec.ofInt k.bits a ^^^ BitVec.ofInt k.bits b).toNat
def bAndNot (k : IntKind) (a b : Int) : Int := k.wrap (BitVec.ofInt k.bits a &&& ~~~(BitVec.ofInt k.bits b)).toNat
def bShl (k : IntKind) (a : Int) (n : Nat) : Int := k.wrap (a * 2 ^ (min n k.bits))
def bShr (k : IntKind) (a : Int) (n : Nat) : Int := a.fdiv (2 ^ (min n k.bits))
def bQuo (k : IntKind) (a b : Int) : Int := k.wrap (a.tdiv b)
def bRem (a b : Int) : Int := a.tmod b
def posB : Int → Bool
 | .ofNat (_ + 1) => true
 | _ => false
def arI (op : BinOp) (k : IntKind) (a b : Int) : Option Value := match op with
 | .add => some (.int k (k.wrap (a + b)))
 | .sub => some (.int k (k.wrap (a - b)))
 | .mul => some (.int k (k.wrap (a * b)))
 | .and => some (.int k (bAnd k a b))
 | .or => some (.int k (bOr k a b))
 | .xor => some (.int k (bXor k a b))
 | .andNot => some (.int k (bAndNot k a b))
 | .quo => match posB b with | true => some (.int k (bQuo k a b)) | false => none
 | .rem => match posB b with | true => some (.int k (bRem a b)) | false => none
 | .shl => none
 | .shr => none
 | _ => cmpI op a b
def natI : Int → Option Nat
 | .ofNat n => some n
 | _ => none
def shI (op : BinOp) (k : IntKind) (a b : Int) : Option Value := match natI b with
 | none => none
 | some n => match op with
  | .shl => some (.int k (bShl k a n))
  | .shr => some (.int k (bShr k a n))
  | _ => none
def isSh : BinOp → Bool
 | .shl => true
 | .shr => true
 | _ => false
def sameK : IntKind → IntKind → Bool
 | .i8, .i8 | .i16, .i16 | .i32, .i32 | .i64, .i64 | .u8, .u8 | .u16, .u16 | .u32, .u32 | .u64, .u64 => true
 | _, _ => false
theorem sameK_eq {a b : IntKind} (h : sameK a b = true) : a = b := by cases a <;> cases b <;> first | rfl | simp [sameK] at h
def binE (op : BinOp) (x y : Value) : Option Value := match x, y with
 | .int k a, .int k' b => match isSh op with
  | true => shI op k a b
  | false => match sameK k k' with
   | true => arI op k a b
   | false => none
 | .string a, .string b => match op with
  | .eql => some (.bool (a.toList == b.toList))
  | .neq => some (.bool (!(a.toList == b.toList)))
  | _ => none
 | _, _ => none
def evL (env : Env) : List Operand → Option (List Value)
 | [] => some []
 | x :: xs => match Env.ev env x with
  | some v => match evL env xs with
   | some l => some (v :: l)
   | none => none
  | none => none
def pev (env : Env) : Op → Option Value
 | .move x => Env.ev env x
 | .assign x => Env.ev env x
 | .pick c a b => match Env.ev env c with
  | some (.bool true) => Env.ev env a
  | some (.bool false) => Env.ev env b
  | _ => none
 | .binOp op _ x y _ => match Env.ev env x with
  | some vx => match Env.ev env y with
   | some vy => binE op vx vy
   | none => none
  | none => none
 | .unOp .not _ x => match Env.ev env x with
  | some (.bool b) => some (.bool (!b))
  | _ => none
 | .extract x i => match Env.ev env x with
  | some (.tuple vs) => vs.toList[i]?
  | _ => none
 | _ => none
theorem binE_run {P : Program} {op : BinOp} {t : TypeId} {x y : Operand} {vx vy v : Value} (h : binE op vx vy = some v) (w : World) :
  (do eqGuard op t x y vx vy; binOp op t vx vy : Sem Value).run P w = .ok v w := by
 cases vx <;> cases vy <;> (try (simp [binE] at h; done))
 ·rename_i k a k' b
  simp only [binE] at h
  cases hsh : isSh op with
  | true =>
   simp only [hsh, shI] at h
   cases hb : natI b with
   | none => simp [hb] at h
   | some n =>
    cases b with
    | negSucc q => simp [natI] at hb
    | ofNat q =>
     simp [natI] at hb
     subst hb
     simp only [natI] at h
     have h0 : ¬ ((Int.ofNat q : Int) < 0) := by have := Int.natCast_nonneg q; simp only [Int.ofNat_eq_natCast]; omega
     cases op <;> simp [isSh] at hsh <;> simp at h <;> subst h <;> simp only [eqGuard, binOp, Op.shift, Sem.run_bind, if_neg h0] <;> simp [bShl, bShr, Sem.run_bind, if_neg h0]
  | false =>
  simp only [hsh] at h
  cases hk : sameK k k' with
  | false => simp [hk] at h
  | true =>
   simp only [hk] at h
   have := sameK_eq hk
   subst this
   cases hp : posB b with
   | false => cases op <;> simp [arI, cmpI, hp] at h <;> subst h <;> simp [eqGuard, binOp, Op.intCmp, Op.intArith, Op.intBits, bAnd, bOr, bXor, bAndNot, Sem.run_bind, bne, BEq.beq]
   | true =>
    have hne : b ≠ 0 := by intro e; subst e; cases hp
    cases op <;> simp [arI, cmpI, hp] at h <;> subst h <;> simp [eqGuard, binOp, Op.intCmp, Op.intArith, Op.intBits, Op.intDiv, bAnd, bOr, bXor, bAndNot, bQuo, bRem, hne, Sem.run_bind, bne, BEq.beq]
 ·rename_i a b
  cases op <;> simp [binE] at h <;> subst h <;> simp [eqGuard, binOp, Op.stringOp, Sem.run_bind]
theorem pev_run {P : Program} {N : Nat} {env : Env} {a : Act} (ha : Agree N env a) {o : Oper} {v : Value} (h : pev env o.op = some v) (w : World) : (execOp a.eval o).run P w = .ok (.value v) w := by
 unfold execOp
 cases hop : o.op with
 | move x => rw [hop] at h; simp only [pev] at h; simp [ha.ev h]
 | assign x => rw [hop] at h; simp only [pev] at h; simp [ha.ev h]
 | pick c x y =>
  rw [hop] at h
  simp only [pev] at h
  cases hc : Env.ev env c with
  | none => simp [hc] at h
  | some u =>
   cases u <;> simp [hc] at h
   rename_i b
   cases b <;> simp at h <;> simp [ha.ev hc, asBool, Sem.run_bind, ha.ev h]
 | binOp op t x y t' =>
  rw [hop] at h
  simp only [pev] at h
  cases hx : Env.ev env x with
  | none => simp [hx] at h
  | some vx =>
   cases hy : Env.ev env y with
   | none => simp [hx, hy] at h
   | some vy =>
    simp only [hx, hy] at h
    simp only [ha.ev hx, ha.ev hy, Sem.run_bind]
    have := binE_run (P := P) (t := t) (x := x) (y := y) h w
    simp only [Sem.run_bind] at this
    rw [this]
    simp
 | unOp op t x =>
  rw [hop] at h
  cases op <;> simp only [pev] at h <;> try (cases h; done)
  cases hx : Env.ev env x with
  | none => simp [hx] at h
  | some vx =>
   cases vx <;> simp [hx] at h
   subst h
   simp [ha.ev hx, Op.unary, Sem.run_bind]
 | extract x i =>
  rw [hop] at h
  simp only [pev] at h
  cases hx : Env.ev env x with
  | none => simp [hx] at h
  | some vx =>
   cases vx <;> simp [hx] at h
   simp [ha.ev hx, Instr.extract, Sem.run_bind, h]
 | _ => rw [hop] at h; simp [pev] at h
section
variable {m : Md} {P : Program} {N : Nat} {w0 : World} {S0 : Foot} {ops : List Oper} {i : Nat} {lq : List Nat} {env : Env} {ro rw : List SL} {K : Act → World → Prop} {d : Nat} {op : Op} {ty : TypeId} {pos : String} {aft : Array Edge} {g : Option (Nat × Bool)}
theorem HO_pure {v : Value} (ho : ops[i]? = some ⟨some d, op, ty, pos, aft, g⟩) (hv : pev env op = some v) (hw : wantE ops env g = some true) (hN : Nat.blt d N = true) (hr : rdyB m ops i lq = true)
  (h : HO m P N w0 S0 ops lq ((d, v) :: env) ro rw K) : HO m P N w0 S0 ops (i :: lq) env ro rw K :=
 HO_val ho hw rfl hN hr (fun _ w ha _ => pev_run ha hv w) h
theorem HO_faddr {x : Operand} {s f b off o : Nat} [hF : FOff P s f o] (ho : ops[i]? = some ⟨some d, .fieldAddr s x f, ty, pos, aft, g⟩) (hx : Env.ev env x = some (.pointer (some ⟨b, off, none⟩)))
  (hw : wantE ops env g = some true) (hN : Nat.blt d N = true) (hr : rdyB m ops i lq = true)
  (h : HO m P N w0 S0 ops lq ((d, .pointer (some ⟨b, off + o, none⟩)) :: env) ro rw K) : HO m P N w0 S0 ops (i :: lq) env ro rw K := by
 refine HO_val ho hw rfl hN hr (fun a w ha hf => ?_) h
 have hF := hF.h
 unfold fOffB at hF
 cases hu : P.underlying s with
 | none => simp [hu] at hF
 | some dd =>
  cases dd <;> simp [hu] at hF
  rename_i fs
  cases hfl : fs[f]? with
  | none => simp [hfl] at hF
  | some fl =>
   simp only [hfl, Bool.and_eq_true, beq_iff_eq] at hF
   cases hin : P.info? fl.type with
   | none => simp [hin] at hF
   | some inf =>
    simp [hin] at hF
    obtain ⟨h1, h2⟩ := hF
    simp [execOp, Instr.fieldAt, Sem.run_bind, run_underlying hu, hfl, Instr.sureAddr, ha.ev hx, fieldPlace, run_sizeOf w hin, Program.cellsOf, hin, h2, addr_add, h1]
end
section
variable {m : Md} {P : Program} {N : Nat} {w0 : World} {S0 : Foot} {ops : List Oper} {i : Nat} {lq : List Nat} {env : Env} {ro rw : List SL} {K : Act → World → Prop} {d : Nat} {op : Op} {ty : TypeId} {pos : String} {aft : Array Edge} {g : Option (Nat × Bool)}
theorem Fits.push {S : Foot} {w : World} (h : Fits w0 S0 ro rw S w) (T : TypeId) (cs : List Value) : ∃ T', Fits w0 S0 ro (cel w.heap.size T cs :: rw) T' (w.alloc (.cells cs.toArray T)) := by
 have := h.new (w' := w.alloc (.cells cs.toArray T)) ((Below.refl _ _).alloc (Nat.le_refl _) _) [cel w.heap.size T cs] (fun b => b = w.heap.size) (fun b hb => by subst hb; simp)
  ⟨fun b => b = w.heap.size, fun _ => False, fun _ h => h, fun _ h => h.elim, fun _ _ h => h, ⟨rfl, heap_alloc_new w _⟩, trivial⟩
 simpa using this
theorem HO_box1 {x : Operand} {T : Nat} {v : Value} (ho : ops[i]? = some ⟨some d, .box T x, ty, pos, aft, g⟩) (hx : Env.ev env x = some v) (h1 : v.oneCell' = true) (hw : wantE ops env g = some true) (hN : Nat.blt d N = true) (hs : soleB m ops i lq = true)
  (h : ∀ b : Nat, HO (nmM m) P N w0 S0 ops lq ((d, .pointer (some ⟨b, 0, none⟩)) :: env) ro (cel b T [v] :: rw) K) : HO m P N w0 S0 ops (i :: lq) env ro rw K := by
 refine HO_act_ex (α := Nat) (φ := fun _ => True) (v := fun b => .pointer (some ⟨b, 0, none⟩)) (rw' := fun b => cel b T [v] :: rw) ho hw rfl hN hs (fun w1 S1 a S w ha hf => ?_) (fun b _ => h b)
 obtain ⟨T', hf'⟩ := hf.push T [v]
 have hc : v.cells = #[v] := by cases v <;> first | rfl | simp [Value.oneCell'] at h1
 exact ⟨w.heap.size, T', _, trivial, by simp [execOp, Instr.box, newVar, newRow, newObj, ha.ev hx, Sem.run_bind, Sem.run, hc], hf'⟩
theorem HO_boxn {x : Operand} {T : Nat} {l : List Value} (ho : ops[i]? = some ⟨some d, .box T x, ty, pos, aft, g⟩) (hx : Env.ev env x = some (.agg l.toArray)) (hw : wantE ops env g = some true) (hN : Nat.blt d N = true) (hs : soleB m ops i lq = true)
  (h : ∀ b : Nat, HO (nmM m) P N w0 S0 ops lq ((d, .pointer (some ⟨b, 0, none⟩)) :: env) ro (cel b T l :: rw) K) : HO m P N w0 S0 ops (i :: lq) env ro rw K := by
 refine HO_act_ex (α := Nat) (φ := fun _ => True) (v := fun b => .pointer (some ⟨b, 0, none⟩)) (rw' := fun b => cel b T l :: rw) ho hw rfl hN hs (fun w1 S1 a S w ha hf => ?_) (fun b _ => h b)
 obtain ⟨T', hf'⟩ := hf.push T l
 exact ⟨w.heap.size, T', _, trivial, by simp [execOp, Instr.box, newVar, newRow, newObj, ha.ev hx, Sem.run_bind, Sem.run, Value.cells], hf'⟩
theorem HO_allocn {T : Nat} {l : List Value} [hz : TyZero P T (.agg l.toArray)] (ho : ops[i]? = some ⟨some d, .alloc T, ty, pos, aft, g⟩) (hw : wantE ops env g = some true) (hN : Nat.blt d N = true) (hs : soleB m ops i lq = true)
  (h : ∀ b : Nat, HO (nmM m) P N w0 S0 ops lq ((d, .pointer (some ⟨b, 0, none⟩)) :: env) ro (cel b T l :: rw) K) : HO m P N w0 S0 ops (i :: lq) env ro rw K := by
 refine HO_act_ex (α := Nat) (φ := fun _ => True) (v := fun b => .pointer (some ⟨b, 0, none⟩)) (rw' := fun b => cel b T l :: rw) ho hw rfl hN hs (fun w1 S1 a S w ha hf => ?_) (fun b _ => h b)
 obtain ⟨T', hf'⟩ := hf.push T l
 exact ⟨w.heap.size, T', _, trivial, by simp [execOp, Instr.alloc, zero_run w hz.h, newVar, newRow, newObj, Sem.run_bind, Sem.run, Value.cells], hf'⟩
theorem set_get {rw : List SL} {k : Nat} {e : SL} (hk : rw[k]? = some e) (e' : SL) {S : Foot} {w : World} (h : Star rw S w) :
  ∃ A : Foot, (∀ b, A b → S b) ∧ e.p A w ∧ ∀ w', (∀ b, S b → ¬ A b → w'.heap[b]? = w.heap[b]?) → e'.p A w' → Star (rw.set k e') S w' := by
 induction rw generalizing k S with
 | nil => simp at hk
 | cons f es ih =>
  obtain ⟨A1, B1, h1, h2, h12, he, hs⟩ := h
  cases k with
  | zero =>
   simp at hk; subst hk
   exact ⟨A1, h1, he, fun w' hw he' => ⟨A1, B1, h1, h2, h12, he', hs.st fun b hb => hw b (h2 b hb) (fun ha => h12 b ha hb)⟩⟩
  | succ k =>
   obtain ⟨A, hA, ha, hk'⟩ := ih (by simpa using hk) hs
   exact ⟨A, fun b hb => h2 b (hA b hb), ha, fun w' hw he' => ⟨A1, B1, h1, h2, h12, f.st _ _ _ (fun b hb => hw b (h1 b hb) (fun hab => h12 b hb (hA b hab))) he,
    hk' w' (fun b hb hn => hw b (h2 b hb) hn) he'⟩⟩
theorem HO_store {x y : Operand} {T b off U n : Nat} {v : Value} {vs cs l : List Value} (k : Nat) (ho : ops[i]? = some ⟨none, .store T x y, ty, pos, aft, g⟩) (hx : Env.ev env x = some (.pointer (some ⟨b, off, none⟩)))
  (hy : Env.ev env y = some v) (hk : rw[k]? = some (cel b U cs)) (hvs : v.cells = vs.toArray) (hn : vs.length = n) (hT : (tyOneB P T && n == 1 || tyAggB P T n) = true) (h1 : vs.all Value.oneCell' = true) (hl : putL cs off vs = some l)
  (hw : wantE ops env g = some true) (hs : soleB m ops i lq = true)
  (h : HO (nmM m) P N w0 S0 ops lq env ro (rw.set k (cel b U l)) K) : HO m P N w0 S0 ops (i :: lq) env ro rw K := by
 refine HO_unit ho hw rfl hs (fun w1 S1 a S w ha hf => ?_) h
 obtain ⟨A, hA, hp, hss⟩ := set_get hk (cel b U l) hf.star
 have hsz : (sizeOf T).run P w = .ok n w := by
  rcases Bool.or_eq_true _ _ |>.mp hT with h2 | h2
  ·simp only [Bool.and_eq_true, beq_iff_eq] at h2
   rw [size_one w h2.1, h2.2]
  ·exact size_agg w h2
 obtain ⟨w', hr, h2, h3, h4, h5, h6, h7⟩ := run_storeCells_cel (P := P) (b := b) (T := U) vs w cs off 0 l hp.2 hl (fun u hu => List.all_eq_true.1 h1 u hu)
 refine ⟨S, w', ?_, ⟨⟨h5.trans hf.fr.os, h6.trans hf.fr.tape, h7.trans hf.fr.output, by have := hf.fr.size; omega, fun c hc hn' => ?_⟩, fun c hc => by have := hf.lt c hc; omega, hf.sub, ?_, fun e he => ?_⟩⟩
 ·simp only [execOp, Instr.storeAt, Instr.sureAddr, ha.ev hx, ha.ev hy, Sem.run_bind, Sem.run_pure, Result.andThen_ok, storeVar, hsz, hvs]
  simp [hn, hr, Sem.run_bind]
 ·by_cases hcb : c = b
  ·subst hcb
   exact absurd ((hf.sub c (hA c hp.1)).resolve_left hn') (by omega)
  ·exact (h3 c hcb).trans (hf.fr.block c hc hn')
 ·exact hss w' (fun c hc hn' => by
   by_cases hcb : c = b
   ·subst hcb; exact absurd hp.1 hn'
   ·exact h3 c hcb) ⟨hp.1, h2⟩
 ·obtain ⟨F, hF, hpe⟩ := hf.ros e he
  refine ⟨F, fun c hc => ⟨by have := (hF c hc).1; omega, (hF c hc).2⟩, e.st F w w' (fun c hc => ?_) hpe⟩
  by_cases hcb : c = b
  ·subst hcb; exact absurd (hA c hp.1) (hF c hc).2
  ·exact h3 c hcb
end
end Go.Proofs.YteeogabkkblkgaaGreatDoor
namespace Go.Proofs.YteeogabkkblkgaaGreatDoor
set_option linter.unusedVariables false
set_option linter.unusedSimpArgs false
open Go.RowKit
section
variable {P : Program} {ops : Array Oper}
theorem wpList_append {K1 K : Act → World → Prop} : ∀ (l1 : List Oper) {l2 : List Oper} {a : Act} {w : World}, wpList P ops (Kof K1) l1 a w → (∀ a w, K1 a w → wpList P ops (Kof K) l2 a w) → wpList P ops (Kof K) (l1 ++ l2) a w
 | [], _, a, w, h, hk => hk a w h
 | o :: l1, l2, a, w, h, hk => by
  simp only [List.cons_append]
  unfold wpList at h ⊢
  split
  ·rename_i hw
   rw [if_pos hw] at h
   rcases h with h | ⟨h, hl⟩
   ·left
    unfold Oper.wp at h ⊢
    exact upon_mono (fun b w' _ v hb => wpList_append l1 hb hk) h
   ·exact .inr ⟨h, LetsOut_Kof hl⟩
  ·rename_i hw
   rw [if_neg hw] at h
   exact wpList_append l1 h hk
theorem wpList_keeps {K : Act → World → Prop} : ∀ (l : List Oper) {a : Act} {w : World}, wpList P ops (Kof K) l a w →
  wpList P ops (Kof fun a' w' => K a' w' ∧ ∀ t, (∀ o ∈ l, o.dst ≠ some t) → a'.tmps[t]? = a.tmps[t]?) l a w
 | [], a, w, h => ⟨h, fun _ _ => rfl⟩
 | o :: l, a, w, h => by
  have key : ∀ (b : Act) (w' : World), b.tmps = a.tmps → ∀ v, wpList P ops (Kof K) l (b.put o.dst v) w' →
    wpList P ops (Kof fun a' w' => K a' w' ∧ ∀ t, (∀ p ∈ o :: l, p.dst ≠ some t) → a'.tmps[t]? = a.tmps[t]?) l (b.put o.dst v) w' := by
   intro b w' hb v hv
   have := wpList_append (K := fun a' w' => K a' w' ∧ ∀ t, (∀ p ∈ o :: l, p.dst ≠ some t) → a'.tmps[t]? = a.tmps[t]?) (l2 := []) l (wpList_keeps l hv) (fun a' w'' hk => by
    refine ⟨hk.1, fun t ht => ?_⟩
    have h1 := hk.2 t (fun p hp => ht p (List.mem_cons_of_mem _ hp))
    rw [h1, ← hb]
    cases hd : o.dst with
    | none => rfl
    | some d =>
     have : d ≠ t := fun e => ht o (by simp) (by rw [hd, e])
     simp [Act.put, Array.getElem?_setIfInBounds, this])
   simpa using this
  unfold wpList at h ⊢
  split
  ·rename_i hw
   rw [if_pos hw] at h
   rcases h with h | ⟨h, hl⟩
   ·left
    unfold Oper.wp at h ⊢
    exact upon_mono key h
   ·exact .inr ⟨h, LetsOut_Kof hl⟩
  ·rename_i hw
   rw [if_neg hw] at h
   exact key a w rfl _ h
theorem wpQuiet_append {C : World → Prop} {Q1 Q : Act → Prop} : ∀ (l1 : List Oper) {l2 : List Oper} {a : Act}, wpQuiet P ops C Q1 l1 a → (∀ a, Q1 a → wpQuiet P ops C Q l2 a) → wpQuiet P ops C Q (l1 ++ l2) a
 | [], _, a, h, hk => hk a h
 | o :: l1, l2, a, h, hk => by
  simp only [List.cons_append]
  unfold wpQuiet at h ⊢
  split
  ·rename_i hw
   rw [if_pos hw] at h
   exact Oper.quiet_mono (fun a' h' => wpQuiet_append l1 h' hk) h
  ·rename_i hw
   rw [if_neg hw] at h
   exact wpQuiet_append l1 h hk
theorem wpQuiet_keeps {C : World → Prop} {Q : Act → Prop} : ∀ (l : List Oper) {a : Act}, wpQuiet P ops C Q l a →
  wpQuiet P ops C (fun a' => Q a' ∧ ∀ t, (∀ o ∈ l, o.dst ≠ some t) → a'.tmps[t]? = a.tmps[t]?) l a
 | [], a, h => ⟨h, fun _ _ => rfl⟩
 | o :: l, a, h => by
  have key : ∀ v, wpQuiet P ops C Q l (a.put o.dst v) → wpQuiet P ops C (fun a' => Q a' ∧ ∀ t, (∀ p ∈ o :: l, p.dst ≠ some t) → a'.tmps[t]? = a.tmps[t]?) l (a.put o.dst v) := by
   intro v hv
   have := wpQuiet_append (Q := fun a' => Q a' ∧ ∀ t, (∀ p ∈ o :: l, p.dst ≠ some t) → a'.tmps[t]? = a.tmps[t]?) (l2 := []) l (wpQuiet_keeps l hv) (fun a' hk => by
    refine ⟨hk.1, fun t ht => ?_⟩
    have h1 := hk.2 t (fun p hp => ht p (List.mem_cons_of_mem _ hp))
    rw [h1]
    cases hd : o.dst with
    | none => rfl
    | some d =>
     have : d ≠ t := fun e => ht o (by simp) (by rw [hd, e])
     simp [Act.put, Array.getElem?_setIfInBounds, this])
   simpa using this
  unfold wpQuiet at h ⊢
  split
  ·rename_i hw
   rw [if_pos hw] at h
   obtain ⟨v, h1, h2⟩ := h
   exact ⟨v, h1, key v h2⟩
  ·rename_i hw
   rw [if_neg hw] at h
   exact key _ h
end
def eqB : Bool → Bool → Bool | true, true => true | false, false => true | _, _ => false
theorem eqB_eq {a b : Bool} (h : eqB a b = true) : a = b := by cases a <;> cases b <;> first | rfl | cases h
def segOk (N : Nat) (ops : List Oper) (env : Env) (j0 : Nat) (want : Bool) : List Nat → List Nat → Bool
 | _, [] => true
 | done, k :: l => (match ops[k]? with
    | none => false
    | some o => (match o.guard with
       | some (j, w) => (Nat.beq j j0 && eqB w want) || memN j done
       | none => false) &&
     (match o.dst with
      | some d => Nat.blt d N && (Env.get env d).isNone
      | none => false)) && segOk N ops env j0 want (k :: done) l
theorem Agree.put_fresh {N : Nat} {e : Env} {a : Act} (h : Agree N e a) {d : Nat} (hd : Env.get e d = none) (v : Value) : Agree N e (a.put (some d) v) := by
 refine ⟨by simp [Act.put, h.size], by simp [Act.put, h.defers], fun t u ht => ?_⟩
 have : d ≠ t := fun he => by subst he; rw [hd] at ht; cases ht
 simp [Act.put, Array.getElem?_setIfInBounds, this, h.at_ t u ht]
def skipped (ops : List Oper) (done : List Nat) (a : Act) : Prop := ∀ q ∈ done, ∀ o d, ops[q]? = some o → o.dst = some d → a.tmps[d]? = some undef
theorem seg_head {N : Nat} {ops : List Oper} {env : Env} {j0 tc k : Nat} {want b : Bool} {done l : List Nat} {a : Act} (hj0 : (ops[j0]?).bind (·.dst) = some tc) (hb : Env.get env tc = some (.bool b)) (hne : b ≠ want)
  (ha : Agree N env a) (hs : skipped ops done a) (hseg : segOk N ops env j0 want done (k :: l) = true) :
  ∃ o d, ops[k]? = some o ∧ o.dst = some d ∧ d < N ∧ Env.get env d = none ∧ Region.wanted o (yielded ops.toArray a.tmps) = false ∧ segOk N ops env j0 want (k :: done) l = true ∧ skipped ops (k :: done) (a.put (some d) undef) := by
 simp only [segOk, Bool.and_eq_true] at hseg
 obtain ⟨hh, hrest⟩ := hseg
 cases ho : ops[k]? with
 | none => simp [ho] at hh
 | some o =>
  simp only [ho, Bool.and_eq_true] at hh
  obtain ⟨hg, hd⟩ := hh
  cases hdd : o.dst with
  | none => simp [hdd] at hd
  | some d =>
   simp only [hdd, Bool.and_eq_true, Nat.blt_eq, Option.isNone_iff_eq_none] at hd
   refine ⟨o, d, rfl, hdd, hd.1, hd.2, ?_, hrest, fun q hq p e hp he => ?_⟩
   ·cases hgd : o.guard with
    | none => simp [hgd] at hg
    | some g =>
     obtain ⟨j, w⟩ := g
     simp only [hgd, Bool.or_eq_true, Bool.and_eq_true] at hg
     simp only [Region.wanted, hgd]
     rcases hg with ⟨h1, h2⟩ | h1
     ·have e1 := Nat.eq_of_beq_eq_true h1
      have e2 := eqB_eq h2
      subst e1 e2
      have : yielded ops.toArray a.tmps j = some b := by
       unfold yielded
       simp only [List.getElem?_toArray, hj0, Option.bind_some, ha.at_ tc _ hb]
      rw [this]
      cases b <;> cases w <;> simp at hne ⊢
     ·have hj := memN_iff.1 h1
      have : yielded ops.toArray a.tmps j = none := by
       unfold yielded
       simp only [List.getElem?_toArray]
       cases hoj : ops[j]? with
       | none => rfl
       | some oj =>
        simp only [Option.bind_some]
        cases hdj : oj.dst with
        | none => rfl
        | some dj => simp only [Option.bind_some, hs j hj oj dj hoj hdj, undef]
      rw [this]
      cases w <;> rfl
   ·simp only [Act.put, Array.getElem?_setIfInBounds]
    by_cases hde : d = e
    ·subst hde
     simp [ha.size, hd.1]
    ·rw [if_neg hde]
     cases hq with
     | head =>
      rw [ho] at hp
      injection hp with hp
      subst hp
      rw [hdd] at he
      injection he with he
      exact absurd he hde
     | tail _ hq => exact hs q hq p e hp he
theorem seg_skip {P : Program} {N : Nat} {ops : List Oper} {env : Env} {j0 tc : Nat} {want b : Bool} {K : Act → World → Prop} (hj0 : (ops[j0]?).bind (·.dst) = some tc) (hb : Env.get env tc = some (.bool b)) (hne : b ≠ want) :
  ∀ (l done : List Nat) (a : Act) (w : World), Agree N env a → skipped ops done a → segOk N ops env j0 want done l = true → (∀ a', Agree N env a' → K a' w) → wpList P ops.toArray (Kof K) (opsAt ops l) a w
 | [], _, a, w, ha, _, _, hK => hK a ha
 | k :: l, done, a, w, ha, hs, hseg, hK => by
  obtain ⟨o, d, ho, hd, hdN, hfr, hw, hrest, hs'⟩ := seg_head hj0 hb hne ha hs hseg
  rw [opsAt_cons ho]
  unfold wpList
  rw [if_neg (by rw [hw]; simp), hd]
  exact seg_skip hj0 hb hne l _ _ w (ha.put_fresh hfr _) hs' hrest hK
theorem seg_skipQ {P : Program} {N : Nat} {ops : List Oper} {env : Env} {j0 tc : Nat} {want b : Bool} {C : World → Prop} {Q : Act → Prop} (hj0 : (ops[j0]?).bind (·.dst) = some tc) (hb : Env.get env tc = some (.bool b)) (hne : b ≠ want) :
  ∀ (l done : List Nat) (a : Act), Agree N env a → skipped ops done a → segOk N ops env j0 want done l = true → (∀ a', Agree N env a' → Q a') → wpQuiet P ops.toArray C Q (opsAt ops l) a
 | [], _, a, ha, _, _, hK => hK a ha
 | k :: l, done, a, ha, hs, hseg, hK => by
  obtain ⟨o, d, ho, hd, hdN, hfr, hw, hrest, hs'⟩ := seg_head hj0 hb hne ha hs hseg
  rw [opsAt_cons ho]
  unfold wpQuiet
  rw [if_neg (by rw [hw]; simp), hd]
  exact seg_skipQ hj0 hb hne l _ _ (ha.put_fresh hfr _) hs' hrest hK
theorem segOk_fresh {N : Nat} {ops : List Oper} {env : Env} {j0 : Nat} {want : Bool} : ∀ (l done : List Nat), segOk N ops env j0 want done l = true → ∀ o ∈ opsAt ops l, ∀ t v, Env.get env t = some v → o.dst ≠ some t
 | [], _, _, o, ho, _, _, _ => by simp [opsAt] at ho
 | k :: l, done, h, p, hp, t, v, ht => by
  simp only [segOk, Bool.and_eq_true] at h
  cases ho : ops[k]? with
  | none => simp [ho] at h
  | some o =>
   rw [opsAt_cons ho] at hp
   simp only [ho, Bool.and_eq_true] at h
   cases hp with
   | head =>
    intro hd
    have h2 := h.1.2
    rw [hd] at h2
    simp [ht] at h2
   | tail _ hp => exact segOk_fresh l _ h.2 p hp t v ht
theorem Agree.again {N : Nat} {e : Env} {a : Act} (h : Agree N e a) {t : Nat} {v : Value} (hv : Env.get e t = some v) : Agree N ((t, v) :: e) a := by
 refine ⟨h.size, h.defers, fun s u hs => ?_⟩
 cases hb : Nat.beq t s with
 | true =>
  have := Nat.eq_of_beq_eq_true hb
  subst this
  simp only [Env.get, hb] at hs
  injection hs with hs
  subst hs
  exact h.at_ _ _ hv
 | false =>
  simp only [Env.get, hb] at hs
  exact h.at_ s u hs
def SegK (N : Nat) (w0 : World) (S0 : Foot) (ro rw : List SL) (tb : Nat) (r : Bool) (a : Act) (w : World) : Prop :=
 a.tmps.size = N ∧ a.defers = [] ∧ a.tmps[tb]? = some (.bool r) ∧ cls w0 S0 ro rw w
def pickShape : Bool → Operand → Operand → Option Nat
 | true, .tmp t, .const (.bool false) => some t
 | false, .const (.bool true), .tmp t => some t
 | _, _, _ => none
def cmb : Bool → Bool → Bool → Bool
 | true, b, r => b && r
 | false, b, r => b || r
def plainM : Md → Bool
 | .ord => true
 | .quiet => true
 | _ => false
def gEnd (ops : List Oper) (i : Nat) (lq : List Nat) : Option (List Nat × Nat × List Nat) :=
 match ops[i]? with
 | some o => match o.guard with
  | some (j0, _) => match (ops[j0]?).bind (·.dst) with
   | some tc => seek tc lq
   | none => none
  | none => none
 | none => none
where
 seek (tc : Nat) : List Nat → Option (List Nat × Nat × List Nat)
  | [] => none
  | k :: l => match (match ops[k]? with
     | some o => (match o.op with
      | .pick (.tmp t) _ _ => Nat.beq t tc
      | _ => false)
     | none => false) with
   | true => some ([], k, l)
   | false => match seek tc l with
    | some (a, q, b) => some (k :: a, q, b)
    | none => none
theorem seek_spec {ops : List Oper} {tc : Nat} : ∀ {l a b : List Nat} {q : Nat}, gEnd.seek ops tc l = some (a, q, b) → l = a ++ q :: b
 | [], _, _, _, h => by simp [gEnd.seek] at h
 | k :: l, a, b, q, h => by
  simp only [gEnd.seek] at h
  split at h
  ·simp only [Option.some.injEq, Prod.mk.injEq] at h
   obtain ⟨rfl, rfl, rfl⟩ := h
   rfl
  ·split at h
   ·rename_i a' q' b' hs
    simp only [Option.some.injEq, Prod.mk.injEq] at h
    obtain ⟨rfl, rfl, rfl⟩ := h
    rw [seek_spec hs]
    rfl
   ·cases h
theorem gEnd_spec {ops : List Oper} {i q : Nat} {lq a b : List Nat} (h : gEnd ops i lq = some (a, q, b)) : lq = a ++ q :: b := by
 unfold gEnd at h
 split at h
 ·split at h
  ·split at h
   ·exact seek_spec h
   ·cases h
  ·cases h
 ·cases h
section
variable {m : Md} {P : Program} {N : Nat} {w0 : World} {S0 : Foot} {ops : List Oper} {i : Nat} {lq : List Nat} {env : Env} {ro rw : List SL} {K : Act → World → Prop} {d : Nat} {op : Op} {ty : TypeId} {pos : String} {aft : Array Edge} {g : Option (Nat × Bool)}
theorem opsAt_append (l1 l2 : List Nat) : opsAt ops (l1 ++ l2) = opsAt ops l1 ++ opsAt ops l2 := by simp [opsAt]
theorem HO_guard {b r want : Bool} {j0 tc tb d' i' : Nat} {dd : Option Nat} {x y : Operand} {ty' : TypeId} {pos' : String} {aft' : Array Edge} {g' : Option (Nat × Bool)} {sg rest : List Nat} (hm : plainM m = true)
  (ho : ops[i]? = some ⟨dd, op, ty, pos, aft, some (j0, want)⟩) (hsp : gEnd ops i lq = some (sg, i', rest)) (hp : ops[i']? = some ⟨some d', .pick (.tmp tc) x y, ty', pos', aft', g'⟩)
  (hj0 : (ops[j0]?).bind (·.dst) = some tc) (hb : Env.get env tc = some (.bool b)) (hx : pickShape want x y = some tb)
  (hseg : segOk N ops env j0 want [] (i :: sg) = true) (hw : wantE ops env g' = some true) (hN : Nat.blt d' N = true)
  (h1 : b = want → HO m P N w0 S0 ops (i :: sg) ((tc, .bool want) :: env) ro rw (SegK N w0 S0 ro rw tb r))
  (h2 : HO m P N w0 S0 ops rest ((d', .bool (cmb want b r)) :: env) ro rw K) : HO m P N w0 S0 ops (i :: lq) env ro rw K := by
 have hsplit : opsAt ops (i :: lq) = opsAt ops (i :: sg) ++ opsAt ops (i' :: rest) := by
  rw [gEnd_spec hsp, ← opsAt_append]
  rfl
 have hpick : ∀ (a' : Act) (w' : World), Agree N env a' → (b = want → a'.tmps[tb]? = some (.bool r)) →
   (execOp a'.eval ⟨some d', .pick (.tmp tc) x y, ty', pos', aft', g'⟩).run P w' = .ok (.value (.bool (cmb want b r))) w' := by
  intro a' w' ha' htb
  have hc : a'.eval (.tmp tc) = .bool b := ha'.ev (x := .tmp tc) hb
  have ht : b = want → a'.eval (.tmp tb) = .bool r := fun hbw => by simp [Act.eval, Array.getD_eq_getD_getElem?, htb hbw]
  cases want with
  | true =>
   have hxy : x = .tmp tb ∧ y = .const (.bool false) := by
    unfold pickShape at hx
    split at hx <;> simp_all
   obtain ⟨rfl, rfl⟩ := hxy
   cases b with
   | true => simp [execOp, hc, asBool, Sem.run_bind, ht rfl, cmb]
   | false => simp [execOp, hc, asBool, Sem.run_bind, cmb, show a'.eval (.const (.bool false)) = .bool false from rfl]
  | false =>
   have hxy : x = .const (.bool true) ∧ y = .tmp tb := by
    unfold pickShape at hx
    split at hx <;> simp_all
   obtain ⟨rfl, rfl⟩ := hxy
   cases b with
   | true => simp [execOp, hc, asBool, Sem.run_bind, cmb, show a'.eval (.const (.bool true)) = .bool true from rfl]
   | false => simp [execOp, hc, asBool, Sem.run_bind, ht rfl, cmb]
 have hkeep : ∀ {a a' : Act}, Agree N env a → a'.tmps.size = N → a'.defers = [] → (∀ t, (∀ o ∈ opsAt ops (i :: sg), o.dst ≠ some t) → a'.tmps[t]? = a.tmps[t]?) → Agree N env a' :=
  fun ha hs hd hfr => ⟨hs, hd, fun t v ht => (hfr t (fun o ho => segOk_fresh _ _ hseg o ho t v ht)).trans (ha.at_ t v ht)⟩
 cases m with
 | ord =>
  intro a S w ha hf
  rw [hsplit]
  have rest' : ∀ (a' : Act) (w' : World), Agree N env a' → (b = want → a'.tmps[tb]? = some (.bool r)) → cls w0 S0 ro rw w' → wpList P ops.toArray (Kof K) (opsAt ops (i' :: rest)) a' w' := by
   intro a' w' ha' htb ⟨T, hT⟩
   rw [opsAt_cons hp]
   unfold wpList
   rw [if_pos (wantE_ok (o := ⟨some d', .pick (.tmp tc) x y, ty', pos', aft', g'⟩) ha' hw)]
   left
   unfold Oper.wp
   rw [hpick a' w' ha' htb, Oper.upon_value]
   exact h2 _ T w' (ha'.put hN _) hT
  by_cases hbw : b = want
  ·have h := h1 hbw a S w (ha.again (by rw [hb, hbw])) hf
   exact wpList_append _ (wpList_keeps _ h) fun a' w' ⟨⟨q1, q2, q3, q4⟩, q5⟩ => rest' a' w' (hkeep ha q1 q2 q5) (fun _ => q3) q4
  ·refine wpList_append (K1 := fun a' w' => Agree N env a' ∧ w' = w) _ (seg_skip hj0 hb hbw _ [] a w ha (fun q hq => by cases hq) hseg (fun a' ha' => ⟨ha', rfl⟩)) fun a' w' ⟨ha', hw'⟩ => ?_
   subst hw'
   exact rest' a' w' ha' (fun h => absurd h hbw) ⟨S, hf⟩
 | quiet =>
  intro a ha
  rw [hsplit]
  have rest' : ∀ (a' : Act), Agree N env a' → (b = want → a'.tmps[tb]? = some (.bool r)) → wpQuiet P ops.toArray (cls w0 S0 ro rw) (fun a' => ∀ w', cls w0 S0 ro rw w' → K a' w') (opsAt ops (i' :: rest)) a' := by
   intro a' ha' htb
   rw [opsAt_cons hp]
   unfold wpQuiet
   rw [if_pos (wantE_ok (o := ⟨some d', .pick (.tmp tc) x y, ty', pos', aft', g'⟩) ha' hw)]
   refine ⟨.bool (cmb want b r), fun w' _ => ?_, h2 _ (ha'.put hN _)⟩
   unfold Oper.quietAt
   rw [hpick a' w' ha' htb]
   exact ⟨rfl, rfl⟩
  by_cases hbw : b = want
  ·have h := h1 hbw a (ha.again (by rw [hb, hbw]))
   have hk := wpQuiet_keeps _ h
   by_cases hex : ∃ w', cls w0 S0 ro rw w'
   ·obtain ⟨w', hw'⟩ := hex
    exact wpQuiet_append _ hk fun a' ⟨q, q5⟩ => rest' a' (hkeep ha (q w' hw').1 (q w' hw').2.1 q5) (fun _ => (q w' hw').2.2.1)
   ·exact wpQuiet_none hex _ _
  ·exact wpQuiet_append _ (seg_skipQ hj0 hb hbw _ [] a ha (fun q hq => by cases hq) hseg (fun a' ha' => ha')) fun a' ha' => rest' a' ha' (fun h => absurd h hbw)
 | lex ro0 => cases hm
 | pick ro0 => cases hm
theorem HO_and {b r : Bool} {j0 tc tb d' i' : Nat} {dd : Option Nat} {ty' : TypeId} {pos' : String} {aft' : Array Edge} {g' : Option (Nat × Bool)} {sg rest : List Nat} (hm : plainM m = true)
  (ho : ops[i]? = some ⟨dd, op, ty, pos, aft, some (j0, true)⟩) (hsp : gEnd ops i lq = some (sg, i', rest)) (hp : ops[i']? = some ⟨some d', .pick (.tmp tc) (.tmp tb) (.const (.bool false)), ty', pos', aft', g'⟩)
  (hj0 : (ops[j0]?).bind (·.dst) = some tc) (hb : Env.get env tc = some (.bool b)) (hseg : segOk N ops env j0 true [] (i :: sg) = true) (hw : wantE ops env g' = some true) (hN : Nat.blt d' N = true)
  (h1 : b = true → HO m P N w0 S0 ops (i :: sg) ((tc, .bool true) :: env) ro rw (SegK N w0 S0 ro rw tb r))
  (h2 : HO m P N w0 S0 ops rest ((d', .bool (b && r)) :: env) ro rw K) : HO m P N w0 S0 ops (i :: lq) env ro rw K :=
 HO_guard hm ho hsp hp hj0 hb rfl hseg hw hN h1 h2
theorem HO_or {b r : Bool} {j0 tc tb d' i' : Nat} {dd : Option Nat} {ty' : TypeId} {pos' : String} {aft' : Array Edge} {g' : Option (Nat × Bool)} {sg rest : List Nat} (hm : plainM m = true)
  (ho : ops[i]? = some ⟨dd, op, ty, pos, aft, some (j0, false)⟩) (hsp : gEnd ops i lq = some (sg, i', rest)) (hp : ops[i']? = some ⟨some d', .pick (.tmp tc) (.const (.bool true)) (.tmp tb), ty', pos', aft', g'⟩)
  (hj0 : (ops[j0]?).bind (·.dst) = some tc) (hb : Env.get env tc = some (.bool b)) (hseg : segOk N ops env j0 false [] (i :: sg) = true) (hw : wantE ops env g' = some true) (hN : Nat.blt d' N = true)
  (h1 : b = false → HO m P N w0 S0 ops (i :: sg) ((tc, .bool false) :: env) ro rw (SegK N w0 S0 ro rw tb r))
  (h2 : HO m P N w0 S0 ops rest ((d', .bool (b || r)) :: env) ro rw K) : HO m P N w0 S0 ops (i :: lq) env ro rw K :=
 HO_guard hm ho hsp hp hj0 hb rfl hseg hw hN h1 h2
theorem HQ_seg {tb : Nat} {r : Bool} (hr : Env.get env tb = some (.bool r)) : HQ N w0 S0 env ro rw (SegK N w0 S0 ro rw tb r) :=
 fun a S w ha hf => ⟨ha.size, ha.defers, ha.at_ _ _ hr, S, hf⟩
theorem HO_seg {tb : Nat} {r : Bool} (hm : plainM m = true) (hr : Env.get env tb = some (.bool r)) : HO m P N w0 S0 ops [] env ro rw (SegK N w0 S0 ro rw tb r) := by
 cases m with
 | ord => exact HO_done (HQ_seg hr)
 | quiet => exact HO_doneQ (HQ_seg hr)
 | lex ro0 => cases hm
 | pick ro0 => cases hm
end
def Tri (P : Program) (g : Nat) (args : List Value) (ro rw : List SL) {α : Type} (φ : α → Prop) (val : α → Value) (es : α → List SL) : Prop :=
 ∀ (w : World) (S : Foot), Fits w S ro rw S w → Calls P g args.toArray w fun e w' => ∃ x T, φ x ∧ e = .returned (val x) ∧ Fits w S ro (es x) T w'
def Ent (e e' : SL) : Prop := ∀ S w, e.p S w → e'.p S w
theorem Ent.rfl_ {e : SL} : Ent e e := fun _ _ h => h
def AllSrc (src : List SL) : List SL → Prop
 | [] => True
 | e :: l => ((∃ e0, e0 ∈ src ∧ Ent e0 e) ∨ (∀ w, e.p (fun _ => False) w)) ∧ AllSrc src l
theorem AllSrc.at_ {src l : List SL} {e : SL} (k : Nat) (hk : src[k]? = some e) (h : AllSrc src l) : AllSrc src (e :: l) := ⟨.inl ⟨e, List.mem_of_getElem? hk, Ent.rfl_⟩, h⟩
theorem AllSrc.via {src l : List SL} {e0 e : SL} (k : Nat) (hk : src[k]? = some e0) (he : Ent e0 e) (h : AllSrc src l) : AllSrc src (e :: l) := ⟨.inl ⟨e0, List.mem_of_getElem? hk, he⟩, h⟩
theorem AllSrc.free {src l : List SL} {e : SL} (he : ∀ w, e.p (fun _ => False) w) (h : AllSrc src l) : AllSrc src (e :: l) := ⟨.inr he, h⟩
theorem AllSrc.get {src : List SL} : ∀ {l : List SL}, AllSrc src l → ∀ e ∈ l, (∃ e0, e0 ∈ src ∧ Ent e0 e) ∨ (∀ w, e.p (fun _ => False) w)
 | e :: l, h, f, hf => by
  cases hf with
  | head => exact h.1
  | tail _ hf => exact AllSrc.get h.2 f hf
def calE : Value → Option (Nat × List Value)
 | .func (.func g) first cap => match first.toList with | [] => some (g, cap.toList) | _ => none
 | _ => none
section
variable {m : Md} {P : Program} {N : Nat} {w0 : World} {S0 : Foot} {ops : List Oper} {i : Nat} {lq : List Nat} {env : Env} {ro rw : List SL} {K : Act → World → Prop} {op : Op} {ty : TypeId} {pos : String} {aft : Array Edge} {g : Option (Nat × Bool)}
theorem evL_spec {N : Nat} {a : Act} (ha : Agree N env a) : ∀ {xs : List Operand} {vs : List Value}, evL env xs = some vs → xs.map a.eval = vs
 | [], vs, h => by simp [evL] at h; simp [h]
 | x :: xs, vs, h => by
  simp only [evL] at h
  cases hx : Env.ev env x with
  | none => simp [hx] at h
  | some v =>
   cases hxs : evL env xs with
   | none => simp [hx, hxs] at h
   | some l =>
    simp [hx, hxs] at h
    subst h
    simp [ha.ev hx, evL_spec ha hxs]
theorem run_enter {f : Operand} {args : List Operand} {tys : Array TypeId} {vf : Value} {vs cap : List Value} {gn : Nat} [hf : FnOk P gn] {a : Act} (ha : Agree N env a) {dst : Option Nat}
  (hvf : Env.ev env f = some vf) (hc : calE vf = some (gn, cap)) (hvs : evL env args = some vs) (w : World) :
  (execOp a.eval ⟨dst, .call { callee := .value f, args := args.toArray, argTypes := tys }, ty, pos, aft, g⟩).run P w = .ok (.enter gn (vs ++ cap).toArray) w := by
 have hfn := hf.h
 unfold fnB at hfn
 obtain ⟨captured, rfl, rfl⟩ : ∃ captured : Array Value, vf = .func (.func gn) #[] captured ∧ cap = captured.toList := by
  cases vf <;> first | (cases hc; done) | skip
  rename_i fn first captured
  cases fn <;> first | (cases hc; done) | skip
  rename_i gn'
  obtain ⟨fl⟩ := first
  cases fl with
  | nil =>
   simp [calE] at hc
   exact ⟨captured, by rw [hc.1], hc.2.symm⟩
  | cons _ _ => simp [calE] at hc
 cases hp : P.funcs[gn]? with
 | none => simp [hp] at hfn
 | some fn =>
  simp only [hp, Bool.and_eq_true, bne_iff_ne] at hfn
  have hm := evL_spec ha hvs
  have hb : fn.body.isNone = false := by cases hbb : fn.body <;> simp [hbb] at hfn ⊢
  have hn : (fn.name == "runtime.NumGoroutine") = false := by simpa using hfn.2
  simp only [execOp, resolve, ha.ev hvf, Deferred.ofValue, Sem.run_bind, Sem.run_pure, Result.andThen_ok, invoke, callFunc, run_program, hp, hn, hb, Bool.false_eq_true, if_false]
  simp [← hm]
theorem call_wp {f : Operand} {args : List Operand} {tys : Array TypeId} {dst : Option Nat} {vf : Value} {vs cap : List Value} {gn : Nat} [hf : FnOk P gn] {roC rwC rest : List SL} {α : Type} {φ : α → Prop} {val : α → Value} {es : α → List SL}
  (hvf : Env.ev env f = some vf) (hc : calE vf = some (gn, cap)) (hvs : evL env args = some vs)
  (hT : Tri P gn (vs ++ cap) roC rwC φ val es) (hro : AllSrc (ro ++ rest) roC)
  (w1 : World) (S1 : Foot) (a : Act) (S : Foot) (w : World) (n : Act → World → Prop) (ha : Agree N env a) (hf' : Fits w1 S1 ro (rwC ++ rest) S w) (hn : ∀ x S' w', φ x → Fits w1 S1 ro (es x ++ rest) S' w' → n (a.put dst (val x)) w') :
  (⟨dst, .call { callee := .value f, args := args.toArray, argTypes := tys }, ty, pos, aft, g⟩ : Oper).wp P a w n (Kof K) := by
 unfold Oper.wp
 rw [run_enter ha hvf hc hvs w, Oper.upon_enter]
 obtain ⟨A, hA, hAS, hAl, hr1, hr2, hk⟩ := hf'.step
 have hfit : Fits w A roC rwC A w := ⟨Fr.refl _ _, hAl, fun b hb => .inl hb, hA, fun e he => by
  rcases hro.get e he with ⟨e0, h0, hent⟩ | hfree
  case inr => exact ⟨fun _ => False, fun _ h => h.elim, hfree w⟩
  rcases List.mem_append.1 h0 with h0 | h0
  ·obtain ⟨F, hF, hp⟩ := hr1 e0 h0
   exact ⟨F, hF, hent _ _ hp⟩
  ·obtain ⟨F, hF, hp⟩ := hr2 e0 h0
   exact ⟨F, hF, hent _ _ hp⟩⟩
 refine (hT w A hfit).mono fun e w' ⟨x, T, hx, he, hfx⟩ => ?_
 subst he
 obtain ⟨T', hT'⟩ := hk w' T (es x) hfx.fr hfx.lt hfx.sub hfx.star
 exact hn x T' w' hx hT'
theorem HO_call {f : Operand} {args : List Operand} {tys : Array TypeId} {d : Nat} {vf : Value} {vs cap : List Value} {gn : Nat} [hf : FnOk P gn] {roC rwC rest : List SL} {α : Type} {φ : α → Prop} {val : α → Value} {es : α → List SL}
  (ho : ops[i]? = some ⟨some d, .call { callee := .value f, args := args.toArray, argTypes := tys }, ty, pos, aft, g⟩)
  (hvf : Env.ev env f = some vf) (hc : calE vf = some (gn, cap)) (hvs : evL env args = some vs)
  (hT : Tri P gn (vs ++ cap) roC rwC φ val es) (hrw : rw = rwC ++ rest) (hro : AllSrc (ro ++ rest) roC)
  (hw : wantE ops env g = some true) (hN : Nat.blt d N = true) (hs : soleB m ops i lq = true)
  (h : ∀ x, φ x → HO (nmM m) P N w0 S0 ops lq ((d, val x) :: env) ro (es x ++ rest) K) : HO m P N w0 S0 ops (i :: lq) env ro rw K := by
 subst hrw
 exact HO_do (φ := φ) (val := val) (rw' := fun x => es x ++ rest) ho hw hs hN (fun w1 S1 a S w n ha hf' hn => call_wp hvf hc hvs hT hro w1 S1 a S w n ha hf' hn) h
def soleQ (m : Md) (ops : List Oper) (i : Nat) (l : List Nat) : Bool := match m with
 | .quiet => true
 | m => soleB m ops i l
theorem soleQ_quiet {ops : List Oper} {i : Nat} {l : List Nat} : soleQ .quiet ops i l = true := rfl
theorem soleQ_ord {ops : List Oper} {i : Nat} {l : List Nat} : soleQ .ord ops i l = true := rfl
theorem soleQ_lex {ro0 : List SL} {ops : List Oper} {i : Nat} {l : List Nat} (h : soleL ops i l = true) : soleQ (.lex ro0) ops i l = true := h
theorem soleQ_pick {ro0 : List SL} {ops : List Oper} {i : Nat} {l : List Nat} (h : (!(memN i l) && Nat.blt i ops.length) = true) : soleQ (.pick ro0) ops i l = true := h
theorem HO_callq {f : Operand} {args : List Operand} {tys : Array TypeId} {d : Nat} {vf v : Value} {vs cap : List Value} {gn : Nat} [hf : FnOk P gn] {roC : List SL} {α : Type} {φ : α → Prop} {val : α → Value} {es : α → List SL}
  (ho : ops[i]? = some ⟨some d, .call { callee := .value f, args := args.toArray, argTypes := tys }, ty, pos, aft, g⟩)
  (hvf : Env.ev env f = some vf) (hc : calE vf = some (gn, cap)) (hvs : evL env args = some vs)
  (hT : Tri P gn (vs ++ cap) roC [] φ val es) (hval : ∀ x, φ x → val x = v) (hro : AllSrc (ro ++ rw) roC)
  (hw : wantE ops env g = some true) (hN : Nat.blt d N = true) (hs : soleQ m ops i lq = true)
  (h : HO (nmM m) P N w0 S0 ops lq ((d, v) :: env) ro rw K) : HO m P N w0 S0 ops (i :: lq) env ro rw K := by
 have hT' : Tri P gn (vs ++ cap) roC [] (fun _ : Unit => True) (fun _ => v) (fun _ => []) := fun w S hfit => (hT w S hfit).mono fun e w' ⟨x, T, hx, he, hfx⟩ =>
  ⟨(), T, trivial, by rw [he, hval x hx], hfx.fr, hfx.lt, hfx.sub, trivial, hfx.ros⟩
 have hdo : soleB m ops i lq = true → HO m P N w0 S0 ops (i :: lq) env ro rw K := fun hs' =>
  HO_call (rest := rw) ho hvf hc hvs hT' rfl hro hw hN hs' (fun _ _ => h)
 cases m with
 | ord => exact hdo hs
 | lex ro0 => exact hdo hs
 | pick ro0 => exact hdo hs
 | quiet =>
  intro a ha
  rw [opsAt_cons ho]
  unfold wpQuiet
  rw [if_pos (wantE_ok (o := ⟨some d, .call { callee := .value f, args := args.toArray, argTypes := tys }, ty, pos, aft, g⟩) ha hw)]
  refine ⟨v, fun w ⟨S, hf'⟩ => ?_, h _ (ha.put hN _)⟩
  unfold Oper.quietAt
  rw [run_enter ha hvf hc hvs w]
  refine ⟨rfl, ?_⟩
  obtain ⟨A, hA, hAS, hAl, hr1, hr2, hk⟩ := Fits.step (cs := []) (rest := rw) hf'
  have hfit : Fits w (fun _ => False) roC [] (fun _ => False) w := ⟨Fr.refl _ _, fun _ h => h.elim, fun _ h => h.elim, trivial, fun e he => by
   rcases hro.get e he with ⟨e0, h0, hent⟩ | hfree
   case inr => exact ⟨fun _ => False, fun _ h => h.elim, hfree w⟩
   rcases List.mem_append.1 h0 with h0 | h0
   ·obtain ⟨F, hF, hp⟩ := hr1 e0 h0
    exact ⟨F, fun b hb => ⟨(hF b hb).1, fun h => h⟩, hent _ _ hp⟩
   ·obtain ⟨F, hF, hp⟩ := hr2 e0 h0
    exact ⟨F, fun b hb => ⟨(hF b hb).1, fun h => h⟩, hent _ _ hp⟩⟩
  exact (hT w _ hfit).mono fun e w' ⟨x, T, hx, he, hfx⟩ => ⟨by rw [he, hval x hx], hf'.grow hfx.fr.toBelow⟩
end
def zipE : List Value → Nat → Option Env
 | [], _ => some []
 | v :: vs, k => match zipE vs (k + 1) with
  | some e => some ((k, v) :: e)
  | none => none
theorem zipE_spec : ∀ {vs : List Value} {k : Nat} {e : Env}, zipE vs k = some e → ∀ t v, Env.get e t = some v → k ≤ t ∧ vs[t - k]? = some v
 | [], k, e, h, t, v, ht => by simp [zipE] at h; subst h; simp [Env.get] at ht
 | u :: vs, k, e, h, t, v, ht => by
  simp only [zipE] at h
  cases hz : zipE vs (k + 1) with
  | none => simp [hz] at h
  | some e' =>
   simp [hz] at h
   subst h
   cases hb : Nat.beq k t with
   | true =>
    have := Nat.eq_of_beq_eq_true hb
    subst this
    simp only [Env.get, hb] at ht
    simpa using ht
   | false =>
    simp only [Env.get, hb] at ht
    obtain ⟨h1, h2⟩ := zipE_spec hz t v ht
    refine ⟨by omega, ?_⟩
    rw [show t - k = (t - (k + 1)) + 1 from by omega]
    simpa using h2
def Post (w0 : World) (S0 : Foot) (ro : List SL) {α : Type} (φ : α → Prop) (val : α → Value) (es : α → List SL) (e : Ending) (w : World) : Prop :=
 ∃ x T, φ x ∧ e = .returned (val x) ∧ Fits w0 S0 ro (es x) T w
def tmpsOf0 : List Oper → List Nat
 | [] => []
 | [_] => []
 | o :: l => match o.dst with
  | none => tmpsOf0 l
  | some d => match o.op with
   | .assign _ | .alloc _ | .box _ _ => tmpsOf0 l
   | _ => d :: tmpsOf0 l
def headB : List Oper → Bool
 | [] => false
 | [o] => match o.op with
  | .move (.const _) => true
  | _ => false
 | _ :: l => headB l
def tmpsOf (l : List Oper) : List Nat := match headB l with
 | true => []
 | false => tmpsOf0 l
def gcE : Env → List Nat → Option Env
 | [], _ => some []
 | (t, v) :: e, seen => match memN t seen with
  | true => gcE e seen
  | false => match gcE e (t :: seen) with
   | some r => some ((t, v) :: r)
   | none => none
theorem gcE_get : ∀ {e : Env} {seen : List Nat} {r : Env}, gcE e seen = some r → ∀ t v, Env.get r t = some v → memN t seen = false ∧ Env.get e t = some v
 | [], seen, r, h, t, v, ht => by simp [gcE] at h; subst h; simp [Env.get] at ht
 | (s, u) :: e, seen, r, h, t, v, ht => by
  simp only [gcE] at h
  cases hm : memN s seen with
  | true =>
   simp only [hm] at h
   obtain ⟨h1, h2⟩ := gcE_get h t v ht
   refine ⟨h1, ?_⟩
   cases hb : Nat.beq s t with
   | true =>
    have := Nat.eq_of_beq_eq_true hb
    subst this
    rw [hm] at h1; cases h1
   | false => simp only [Env.get, hb]; exact h2
  | false =>
   simp only [hm] at h
   cases hg : gcE e (s :: seen) with
   | none => simp [hg] at h
   | some q =>
    simp [hg] at h
    subst h
    cases hb : Nat.beq s t with
    | true =>
     have := Nat.eq_of_beq_eq_true hb
     subst this
     simp only [Env.get, hb] at ht ⊢
     exact ⟨hm, ht⟩
    | false =>
     simp only [Env.get, hb] at ht ⊢
     obtain ⟨h1, h2⟩ := gcE_get hg t v ht
     simp only [memN, hb] at h1
     exact ⟨h1, h2⟩
section
variable {P : Program} {N : Nat} {w0 : World} {S0 : Foot} {ops : List Oper} {env env' : Env} {ro rw : List SL} {Q : Exit → Act → World → Prop}
theorem HO_doneG (hg : gcE env (tmpsOf ops) = some env') (h : HX N w0 S0 .normal env' ro rw Q) : HO .ord P N w0 S0 ops [] env ro rw (Q .normal) :=
 HO_done (fun a S w ha hf => h a S w ⟨ha.size, ha.defers, fun t v ht => ha.at_ t v (gcE_get hg t v ht).2⟩ hf)
theorem HO_doneGQ (hg : gcE env (tmpsOf ops) = some env') (h : HX N w0 S0 .normal env' ro rw Q) : HO .quiet P N w0 S0 ops [] env ro rw (Q .normal) :=
 HO_doneQ (fun a S w ha hf => h a S w ⟨ha.size, ha.defers, fun t v ht => ha.at_ t v (gcE_get hg t v ht).2⟩ hf)
def takeO : Nat → List SL → Option (List SL)
 | 0, _ => some []
 | _ + 1, [] => none
 | n + 1, e :: l => match takeO n l with
  | some r => some (e :: r)
  | none => none
def appO : List SL → List SL → Option (List SL)
 | [], m => some m
 | e :: l, m => match appO l m with
  | some r => some (e :: r)
  | none => none
theorem appO_eq : ∀ {l m r : List SL}, appO l m = some r → r = l ++ m
 | [], _, _, h => by simp [appO] at h; simp [h]
 | e :: l, m, r, h => by
  simp only [appO] at h
  cases hs : appO l m with
  | none => simp [hs] at h
  | some q => simp [hs] at h; subst h; simp [appO_eq hs]
theorem HO_doneGL {ro0 held rw' : List SL} (hh : takeO (ro.length - ro0.length) ro = some held) (hro : ro = held ++ ro0) (hr : Region.ready .any ops.toArray (dlist ops []) = []) (hg : gcE env (tmpsOf ops) = some env') (ha : appO held rw = some rw')
  (h : HX N w0 S0 .normal env' ro0 rw' Q) : HO (.lex ro0) P N w0 S0 ops [] env ro rw (Q .normal) := by
 have := appO_eq ha
 subst this
 exact HO_doneL hro hr (fun a S w ha hf => h a S w ⟨ha.size, ha.defers, fun t v ht => ha.at_ t v (gcE_get hg t v ht).2⟩ hf)
theorem HO_lastG {ro0 held rw' : List SL} {L : Nat} {K : Act → World → Prop} (hL : (lastB ops.toArray && Nat.beq L (ops.toArray.size - 1) && Nat.blt L ops.length) = true) (hh : takeO (ro.length - ro0.length) ro = some held) (hro : ro = held ++ ro0)
  (hr : Region.ready .any ops.toArray (dlist ops [L]) = [L]) (hr0 : Region.ready .any ops.toArray (dlist ops []) = []) (ha : appO held rw = some rw')
  (h : HO .ord P N w0 S0 ops [L] env ro0 rw' K) : HO (.lex ro0) P N w0 S0 ops [L] env ro rw K := by
 have := appO_eq ha
 subst this
 exact HO_lastL hro hL hr hr0 h
end
theorem HC_condT {P : Program} {N : Nat} {w0 : World} {S0 : Foot} {c : Code} {env : Env} {ro rw : List SL} {Q : Exit → Act → World → Prop} (hk : isCond c = true) (hv : Env.ev env (cCond c) = some (.bool true)) (h : HC P N w0 S0 (cT c) env ro rw Q) :
  HC P N w0 S0 c env ro rw Q := HC_cond hk hv (fun _ => h) (fun h => by cases h)
theorem HC_condF {P : Program} {N : Nat} {w0 : World} {S0 : Foot} {c : Code} {env : Env} {ro rw : List SL} {Q : Exit → Act → World → Prop} (hk : isCond c = true) (hv : Env.ev env (cCond c) = some (.bool false)) (h : HC P N w0 S0 (cE c) env ro rw Q) :
  HC P N w0 S0 c env ro rw Q := HC_cond hk hv (fun h => by cases h) (fun _ => h)
theorem Tri_of {P : Program} {g N : Nat} {fn : Func} {c : Code} {args : List Value} {ro rw : List SL} {α : Type} {φ : α → Prop} {val : α → Value} {es : α → List SL} {env : Env}
  (hf : P.funcs[g]? = some fn) (hb : fn.body = some c) (hn : fn.ntmps = N) (he : zipE args 0 = some env) (hle' : Nat.ble args.length N = true)
  (h : ∀ (w0 : World) (S0 : Foot), HC P N w0 S0 c env ro rw (bodyPost P fn (Post w0 S0 ro φ val es))) : Tri P g args ro rw φ val es := by
 have hle : args.length ≤ N := by simpa using hle'
 intro w S hfit
 refine calls_of_wp hf hb (h w S _ S w ⟨?_, rfl, fun t v ht => ?_⟩ hfit)
 ·simp [hn]; omega
 ·have h2 := (zipE_spec he t v ht).2
  simp only [Nat.sub_zero] at h2
  have hlt := (List.getElem?_eq_some_iff.1 h2).1
  simpa [Array.getElem?_append, hlt] using h2
def resV (a : Act) : ResultVar → Sem Value
 | .tmp t => pure (a.tmps.getD t undef)
 | .cell t T => do loadVar T (← asAddr (a.tmps.getD t undef))
def ResAll (P : Program) (N : Nat) (w0 : World) (S0 : Foot) (env : Env) (ro rw : List SL) : List ResultVar → List Value → Prop
 | [], [] => True
 | r :: rs, v :: vs => (∀ a S w, Agree N env a → Fits w0 S0 ro rw S w → (resV a r).run P w = .ok v w) ∧ ResAll P N w0 S0 env ro rw rs vs
 | _, _ => False
def tupV : List Value → Value
 | [v] => v
 | vs => .tuple vs.toArray
section
variable {P : Program} {N : Nat} {w0 : World} {S0 : Foot} {env : Env} {ro rw : List SL} {rs : List ResultVar} {vs : List Value}
theorem Res_nil : ResAll P N w0 S0 env ro rw [] [] := trivial
theorem Res_tmp {t : Nat} {v : Value} (hv : Env.get env t = some v) (h : ResAll P N w0 S0 env ro rw rs vs) : ResAll P N w0 S0 env ro rw (.tmp t :: rs) (v :: vs) :=
 ⟨fun a S w ha _ => by simp [resV, Array.getD_eq_getD_getElem?, ha.at_ t v hv], h⟩
theorem ResAll.run : ∀ {rs : List ResultVar} {vs : List Value}, ResAll P N w0 S0 env ro rw rs vs → ∀ (a : Act) (S : Foot) (w : World), Agree N env a → Fits w0 S0 ro rw S w →
  (rs.mapM (resV a)).run P w = .ok vs w
 | [], [], _, a, S, w, _, _ => by simp [List.mapM_nil]
 | r :: rs, v :: vs, h, a, S, w, ha, hf => by
  simp only [List.mapM_cons, Sem.run_bind, h.1 a S w ha hf, Result.andThen_ok, ResAll.run h.2 a S w ha hf]
  simp
 | [], _ :: _, h, _, _, _, _, _ => False.elim h
 | _ :: _, [], h, _, _, _, _, _ => False.elim h
theorem results_run {fn : Func} (hr : ResAll P N w0 S0 env ro rw fn.results.toList vs) {a : Act} {S : Foot} {w : World} (ha : Agree N env a) (hf : Fits w0 S0 ro rw S w) : (results fn a.tmps).run P w = .ok (tupV vs) w := by
 have h1 := ResAll.run hr a S w ha hf
 have h2 : results fn a.tmps = (fn.results.mapM (resV a) >>= fun vs => pure (if h : vs.size = 1 then vs[0] else .tuple vs)) := by
  unfold results
  congr 1
 rw [h2, ← Array.toArray_toList (xs := fn.results), List.mapM_toArray]
 simp only [map_eq_pure_bind, Sem.run_bind, h1, Result.andThen_ok, Sem.run_pure]
 match vs with
 | [] => simp [tupV]
 | [v] => simp [tupV]
 | v :: u :: l => simp [tupV]
def Keeps (rw rw' : List SL) : Prop := ∀ S w, Star rw S w → ∃ T : Foot, (∀ b, T b → S b) ∧ Star rw' T w
theorem Keeps.nil {rw : List SL} : Keeps rw [] := fun _ _ _ => ⟨fun _ => False, fun _ h => h.elim, trivial⟩
theorem Keeps.refl {rw : List SL} : Keeps rw rw := fun S _ h => ⟨S, fun _ h => h, h⟩
theorem Keeps.skip {e : SL} {rw rw' : List SL} (h : Keeps rw rw') : Keeps (e :: rw) rw' := fun S w ⟨A, B, _, hB, _, _, hs⟩ => by
 obtain ⟨T, h1, h2⟩ := h B w hs
 exact ⟨T, fun b hb => hB b (h1 b hb), h2⟩
theorem Keeps.cons {e e' : SL} {rw rw' : List SL} (he : Ent e e') (h : Keeps rw rw') : Keeps (e :: rw) (e' :: rw') := fun S w ⟨A, B, hA, hB, hd, hp, hs⟩ => by
 obtain ⟨T, h1, h2⟩ := h B w hs
 exact ⟨S, fun _ h => h, A, T, hA, fun b hb => hB b (h1 b hb), fun b ha hb => hd b ha (h1 b hb), he _ _ hp, h2⟩
theorem Keeps.pull {rw rw' : List SL} (k : Nat) {e : SL} (hk : rw[k]? = some e) (h : Keeps (e :: rw.eraseIdx k) rw') : Keeps rw rw' := fun S w hs => by
 obtain ⟨A, B, hA, hB, hd, he, hr⟩ := hs.take_ hk
 exact h S w ⟨A, B, hA, hB, hd, he, hr⟩
theorem Keeps.add {e : SL} {rw rw' : List SL} (he : ∀ w, e.p (fun _ => False) w) (h : Keeps rw rw') : Keeps rw (e :: rw') := fun S w hs => by
 obtain ⟨T, h1, h2⟩ := h S w hs
 exact ⟨T, h1, fun _ => False, T, fun _ h => h.elim, fun _ h => h, fun _ h => h.elim, he w, h2⟩
theorem Fits.keeps {rw' : List SL} (hk : Keeps rw rw') {S : Foot} {w : World} (h : Fits w0 S0 ro rw S w) : ∃ T, Fits w0 S0 ro rw' T w := by
 obtain ⟨T, h1, h2⟩ := hk S w h.star
 refine ⟨T, h.fr, fun b hb => h.lt b (h1 b hb), fun b hb => h.sub b (h1 b hb), h2, fun e he => ?_⟩
 obtain ⟨F, hF, hp⟩ := h.ros e he
 exact ⟨F, fun b hb => ⟨(hF b hb).1, fun hc => (hF b hb).2 (h1 b hc)⟩, hp⟩
theorem HX_keeps {rw' : List SL} {e : Exit} {Q : Exit → Act → World → Prop} (hk : Keeps rw rw') (h : HX N w0 S0 e env ro rw' Q) : HX N w0 S0 e env ro rw Q := fun a S w ha hf => by
 obtain ⟨T, hT⟩ := hf.keeps hk
 exact h a T w ha hT
def RetQ (vs : List Value) (rw : List SL) {α : Type} (φ : α → Prop) (val : α → Value) (es : α → List SL) : Prop := ∃ x, φ x ∧ tupV vs = val x ∧ Keeps rw (es x)
theorem HX_ret {fn : Func} {α : Type} {φ : α → Prop} {val : α → Value} {es : α → List SL} (hr : ResAll P N w0 S0 env ro rw fn.results.toList vs) (h : RetQ vs rw φ val es) :
  HX N w0 S0 .ret env ro rw (bodyPost P fn (Post w0 S0 ro φ val es)) := by
 obtain ⟨x, hφ, hv, hk⟩ := h
 exact fun a S w ha hf => by
  obtain ⟨T, hT⟩ := hf.keeps hk
  exact ⟨ha.defers, tupV vs, results_run hr ha hf, x, T, hφ, by rw [hv], hT⟩
theorem HX_retn {fn : Func} {α : Type} {φ : α → Prop} {val : α → Value} {es : α → List SL} (hr : ResAll P N w0 S0 env ro rw fn.results.toList vs) (h : RetQ vs rw φ val es) :
  HX N w0 S0 .normal env ro rw (bodyPost P fn (Post w0 S0 ro φ val es)) := by
 obtain ⟨x, hφ, hv, hk⟩ := h
 exact fun a S w ha hf => by
  obtain ⟨T, hT⟩ := hf.keeps hk
  exact ⟨ha.defers, tupV vs, results_run hr ha hf, x, T, hφ, by rw [hv], hT⟩
end
end Go.Proofs.YteeogabkkblkgaaGreatDoor
namespace Go.Proofs.YteeogabkkblkgaaGreatDoor
set_option linter.unusedVariables false
set_option linter.unusedSimpArgs false
open Go.RowKit
class TyFields (P : Program) (T : Nat) (fs : outParam (List (Nat × Nat))) : Prop where
 h : (match P.underlying T with
  | some (.struct l) => l.toList.mapM fun f => (P.info? f.type).map fun i => (f.offset, i.size)
  | _ => none) = some fs
class TyArr (P : Program) (T : Nat) (n e : outParam Nat) : Prop where h : P.underlying T = some (.array n e)
class TyMap (P : Program) (T : Nat) (k e : outParam Nat) : Prop where h : P.underlying T = some (.map k e)
class TyInfo (P : Program) (T : Nat) (cells bytes : outParam Nat) : Prop where h : (P.info? T).map (fun i => (i.size, i.bytes)) = some (cells, bytes)
def lenE : Value → Option Nat
 | .slice _ n _ => some n
 | _ => none
section
variable {m : Md} {P : Program} {N : Nat} {w0 : World} {S0 : Foot} {ops : List Oper} {i : Nat} {lq : List Nat} {env : Env} {ro rw : List SL} {K : Act → World → Prop} {d : Nat} {op : Op} {ty : TypeId} {pos : String} {aft : Array Edge} {g : Option (Nat × Bool)}
def partsE (env : Env) : List (Nat × Operand) → Option (List (Nat × Value))
 | [] => some []
 | (i, x) :: l => match Env.ev env x with
  | some v => match partsE env l with
   | some r => some ((i, v) :: r)
   | none => none
  | none => none
theorem partsE_spec {a : Act} (ha : Agree N env a) : ∀ {l : List (Nat × Operand)} {r : List (Nat × Value)}, partsE env l = some r → l.map (fun p => (p.1, a.eval p.2)) = r
 | [], r, h => by simp [partsE] at h; simp [h]
 | (i, x) :: l, r, h => by
  simp only [partsE] at h
  cases hx : Env.ev env x with
  | none => simp [hx] at h
  | some v =>
   cases hl : partsE env l with
   | none => simp [hx, hl] at h
   | some q =>
    simp [hx, hl] at h
    subst h
    simp [ha.ev hx, partsE_spec ha hl]
def cellsL : Value → List Value
 | .agg cs => cs.toList
 | v => [v]
theorem cellsL_eq (v : Value) : v.cells = (cellsL v).toArray := by cases v <;> simp [Value.cells, cellsL]
theorem putL_fold : ∀ (vs : List Value) (cs : List Value) (off k : Nat) (l : List Value), putL cs (off + k) vs = some l →
  (vs.zipIdx k).foldl (fun (cs : Array Value) (p : Value × Nat) => cs.setIfInBounds (off + p.2) p.1) cs.toArray = l.toArray ∧ (vs ≠ [] → off + k + vs.length ≤ cs.length)
 | [], cs, off, k, l, h => by
  simp [putL] at h
  subst h
  exact ⟨rfl, fun h => absurd rfl h⟩
 | v :: vs, cs, off, k, l, h => by
  obtain ⟨h1, h2⟩ := putL_cons _ _ _ _ _ h
  obtain ⟨h3, h4⟩ := putL_fold vs (cs.set (off + k) v) off (k + 1) l (by rw [← Nat.add_assoc]; exact h2)
  simp only [List.zipIdx_cons, List.foldl_cons, List.setIfInBounds_toArray]
  refine ⟨h3, fun _ => ?_⟩
  cases vs with
  | nil => simp; omega
  | cons u us => have := h4 (by simp); simp at this ⊢; omega
def fillE (place : Nat → Option (Nat × Nat)) : List Value → List (Nat × Value) → Option (List Value)
 | cs, [] => some cs
 | cs, (i, v) :: rest => match place i with
  | none => none
  | some (off, size) => match Nat.beq (cellsL v).length size with
   | false => none
   | true => match Nat.blt 0 size with
    | false => none
    | true => match putL cs off (cellsL v) with
     | none => none
     | some cs' => fillE place cs' rest
theorem fillE_spec {place : Nat → Option (Nat × Nat)} : ∀ (parts : List (Nat × Value)) (cs l : List Value), fillE place cs parts = some l → Instr.fill place cs.toArray parts = some l.toArray
 | [], cs, l, h => by simp [fillE] at h; subst h; rfl
 | (i, v) :: rest, cs, l, h => by
  simp only [fillE] at h
  cases hp : place i with
  | none => simp [hp] at h
  | some q =>
   obtain ⟨off, size⟩ := q
   simp only [hp] at h
   cases hb : Nat.beq (cellsL v).length size with
   | false => simp [hb] at h
   | true =>
    simp only [hb] at h
    cases hb0 : Nat.blt 0 size with
    | false => simp [hb0] at h
    | true =>
     simp only [hb0] at h
     cases hq : putL cs off (cellsL v) with
     | none => simp [hq] at h
     | some cs' =>
      simp only [hq] at h
      have e1 := Nat.eq_of_beq_eq_true hb
      have e0 : 0 < size := by simpa [Nat.blt_eq] using hb0
      obtain ⟨h3, h4⟩ := putL_fold (cellsL v) cs off 0 cs' (by simpa using hq)
      have hsz : v.cells.size = size := by rw [cellsL_eq]; simpa using e1
      unfold Instr.fill
      simp only [hp]
      have h4' := h4 (by intro e; rw [e] at e1; simp at e1; omega)
      rw [if_neg (by simp [hsz]; omega)]
      have : (v.cells.zipIdx.foldl (fun (cs : Array Value) (x : Value × Nat) => match x with | (c, j) => cs.setIfInBounds (off + j) c) cs.toArray) = cs'.toArray := by
       rw [← h3, cellsL_eq, ← Array.foldl_toList, Array.toList_zipIdx]
      rw [this]
      exact fillE_spec rest cs' l h
theorem HO_build {T : Nat} {fs : List (Nat × Nat)} {z : List Value} {l : List (Nat × Operand)} {parts : List (Nat × Value)} {cs : List Value} [hF : TyFields P T fs] [hz : TyZero P T (.agg z.toArray)]
  (ho : ops[i]? = some ⟨some d, .build T l.toArray, ty, pos, aft, g⟩) (hl : partsE env l = some parts) (hc : fillE (fs[·]?) z parts = some cs)
  (hw : wantE ops env g = some true) (hN : Nat.blt d N = true) (hr : rdyB m ops i lq = true)
  (h : HO m P N w0 S0 ops lq ((d, .agg cs.toArray) :: env) ro rw K) : HO m P N w0 S0 ops (i :: lq) env ro rw K := by
 refine HO_val ho hw rfl hN hr (fun a w ha hf => ?_) h
 have hp := partsE_spec ha hl
 have hm := fillE_spec _ _ _ hc
 have hb : P.built T parts = some cs.toArray := by
  have hF := hF.h
  have hz := hz.h
  unfold Program.built
  cases hin : P.info? T with
  | none => simp [hin] at hz
  | some it =>
   cases hu : P.underlying T with
   | none => simp [hu] at hF
   | some dd =>
    cases dd <;> simp [hu] at hF
    rename_i fl
    simp [hin] at hz
    simp only [hF, hz, List.getElem?_toArray, Value.cells]
    exact hm
 simp only [execOp, Sem.run_bind]
 have hmap : (l.toArray.map fun (x : Nat × Operand) => match x with | (i, x) => (i, a.eval x)) = parts.toArray := by
  rw [List.map_toArray, ← hp]
 rw [hmap, run_build w T parts.toArray cs.toArray (by simpa using hb)]
 simp
theorem HO_conv {T U : Nat} {x : Operand} {k k' : IntKind} {n : Int} [hU : TyInt P U k] [hT : TyInt P T k'] (ho : ops[i]? = some ⟨some d, .convert T U x, ty, pos, aft, g⟩) (hx : Env.ev env x = some (.int k' n))
  (hw : wantE ops env g = some true) (hN : Nat.blt d N = true) (hr : rdyB m ops i lq = true)
  (h : HO m P N w0 S0 ops lq ((d, .int k (k.wrap n)) :: env) ro rw K) : HO m P N w0 S0 ops (i :: lq) env ro rw K := by
 refine HO_val ho hw rfl hN hr (fun a w ha hf => ?_) h
 simp [execOp, convert, Sem.run_bind, run_underlying hT.h, run_underlying hU.h, ha.ev hx, Conv.intToInt]
theorem HO_len {T e n : Nat} {x : Operand} {v : Value} [hT : TySlice P T e] (ho : ops[i]? = some ⟨some d, .call { callee := .builtin .len, args := #[x], argTypes := #[T] }, ty, pos, aft, g⟩)
  (hx : Env.ev env x = some v) (hv : lenE v = some n) (hw : wantE ops env g = some true) (hN : Nat.blt d N = true) (hr : rdyB m ops i lq = true)
  (h : HO m P N w0 S0 ops lq ((d, .int .i64 (n : Int)) :: env) ro rw K) : HO m P N w0 S0 ops (i :: lq) env ro rw K := by
 refine HO_val ho hw rfl hN hr (fun a w ha hf => ?_) h
 cases v <;> simp [lenE] at hv
 subst hv
 simp [execOp, resolve, invoke, builtin, Builtin.len_, Sem.run_bind, run_underlying hT.h, ha.ev hx, goInt]
theorem HO_min {x y : Operand} {k k' : IntKind} {p q : Int} {tys : Array TypeId} (ho : ops[i]? = some ⟨some d, .call { callee := .builtin .min, args := #[x, y], argTypes := tys }, ty, pos, aft, g⟩)
  (hx : Env.ev env x = some (.int k p)) (hy : Env.ev env y = some (.int k' q)) (hw : wantE ops env g = some true) (hN : Nat.blt d N = true) (hr : rdyB m ops i lq = true)
  (h : HO m P N w0 S0 ops lq ((d, .int k (if q < p then q else p)) :: env) ro rw K) : HO m P N w0 S0 ops (i :: lq) env ro rw K := by
 refine HO_val ho hw rfl hN hr (fun a w ha hf => ?_) h
 simp [execOp, resolve, invoke, builtin, Builtin.min_, Builtin.min2, Sem.run_bind, ha.ev hx, ha.ev hy]
theorem HO_func {fn : Fn} {first cap : List Operand} {f1 c1 : List Value} (ho : ops[i]? = some ⟨some d, .makeFunc fn first.toArray cap.toArray, ty, pos, aft, g⟩) (h1 : evL env first = some f1) (h2 : evL env cap = some c1)
  (hw : wantE ops env g = some true) (hN : Nat.blt d N = true) (hr : rdyB m ops i lq = true)
  (h : HO m P N w0 S0 ops lq ((d, .func fn f1.toArray c1.toArray) :: env) ro rw K) : HO m P N w0 S0 ops (i :: lq) env ro rw K := by
 refine HO_val ho hw rfl hN hr (fun a w ha hf => ?_) h
 simp [execOp, Instr.makeFunc, Sem.run_bind, evL_spec ha h1, evL_spec ha h2]
end
section
variable {α : Type}
def arr (enc : α → List Value) (sz : Nat) (A : Option Addr) (l : List α) : SL where
 p S w := l ≠ [] → ∃ ad, A = some ad ∧ S ad.block ∧ ∀ q x, l[q]? = some x → ∀ k u, (enc x)[k]? = some u → w.cell? (ad.add (q * sz + k)) = some u
 st S w w' h hp := fun hl => by
  obtain ⟨ad, hA, hS, hc⟩ := hp hl
  exact ⟨ad, hA, hS, fun q x hq k u hk => by
   rw [World.cell?_of_block (w := w) (by rw [block_of_add]; exact h _ hS)]
   exact hc q x hq k u hk⟩
def eP (ad : Addr) (q sz off : Nat) : Addr := (ad.add (q * sz)).add off
theorem eP_eq (ad : Addr) (q sz off : Nat) : eP ad q sz off = ad.add (q * sz + off) := add_of_add _ _ _
theorem eP_add (ad : Addr) (q sz off o : Nat) : (eP ad q sz off).add o = eP ad q sz (off + o) := by unfold eP; rw [add_of_add]
def own (enc : α → List Value) (T sz : Nat) (A : Option Addr) (n c : Nat) (l : List α) : SL where
 p S w := n = l.length ∧ w.ownsRow 0 T sz (.slice A n c) n (l.flatMap enc) ∧ ∀ ad, A = some ad → S ad.block
 st S w w' h hp := by
  obtain ⟨h1, ⟨h2, h3⟩, h4⟩ := hp
  refine ⟨h1, ⟨h2, ?_⟩, h4⟩
  rcases h3 with h3 | ⟨g, cap, cur, hv, hg, hh, r⟩
  ·exact .inl h3
  ·have hA : A = some ⟨g, 0, none⟩ := by injection hv
   exact .inr ⟨g, cap, cur, hv, hg, (h g (h4 _ hA)).trans hh, r⟩
theorem flatMap_at {β : Type} {enc : α → List β} {sz : Nat} : ∀ (l : List α), (∀ x ∈ l, (enc x).length = sz) → ∀ (q : Nat) (x : α), l[q]? = some x → ∀ k u, (enc x)[k]? = some u → (l.flatMap enc)[q * sz + k]? = some u
 | [], _, q, x, h, _, _, _ => by simp at h
 | y :: l, henc, 0, x, h, k, u, hk => by
  simp at h
  subst h
  have hlt := (List.getElem?_eq_some_iff.1 hk).1
  simpa [List.flatMap_cons, List.getElem?_append, hlt] using hk
 | y :: l, henc, q + 1, x, h, k, u, hk => by
  have hy := henc y (by simp)
  have := flatMap_at l (fun x hx => henc x (by simp [hx])) q x (by simpa using h) k u hk
  rw [List.flatMap_cons, List.getElem?_append_right (by rw [hy, Nat.add_mul]; omega), hy]
  rw [show (q + 1) * sz + k - sz = q * sz + k from by rw [Nat.add_mul]; omega]
  exact this
theorem own_arr {enc : α → List Value} {T sz : Nat} {A : Option Addr} {n c : Nat} {l : List α} (henc : ∀ x ∈ l, (enc x).length = sz) : Ent (own enc T sz A n c l) (arr enc sz A l) := by
 intro S w ⟨hn, how, hS⟩ hl
 have hpos : 0 < n := by
  rw [hn]
  exact List.length_pos_iff.2 hl
 obtain ⟨g, cap, hv, _, hlt⟩ := how.form hpos
 have hA : A = some ⟨g, 0, none⟩ := by injection hv
 subst hA
 exact ⟨_, rfl, hS _ rfl, fun q x hq k u hk => how.cells (g := g) rfl _ _ (flatMap_at l henc q x hq k u hk)⟩
end
end Go.Proofs.YteeogabkkblkgaaGreatDoor
namespace Go.Proofs.YteeogabkkblkgaaGreatDoor
set_option linter.unusedVariables false
set_option linter.unusedSimpArgs false
open Go.RowKit
section
variable {α : Type} {m : Md} {P : Program} {N : Nat} {w0 : World} {S0 : Foot} {ops : List Oper} {i : Nat} {lq : List Nat} {env : Env} {ro rw : List SL} {K : Act → World → Prop} {d : Nat} {op : Op} {ty : TypeId} {pos : String} {aft : Array Edge} {g : Option (Nat × Bool)}
theorem HO_faddrE {x : Operand} {s f q sz off o : Nat} {ad : Addr} [hF : FOff P s f o] (ho : ops[i]? = some ⟨some d, .fieldAddr s x f, ty, pos, aft, g⟩) (hx : Env.ev env x = some (.pointer (some (eP ad q sz off))))
  (hw : wantE ops env g = some true) (hN : Nat.blt d N = true) (hr : rdyB m ops i lq = true)
  (h : HO m P N w0 S0 ops lq ((d, .pointer (some (eP ad q sz (off + o)))) :: env) ro rw K) : HO m P N w0 S0 ops (i :: lq) env ro rw K := by
 refine HO_val ho hw rfl hN hr (fun a w ha hf => ?_) h
 have hF := hF.h
 unfold fOffB at hF
 cases hu : P.underlying s with
 | none => simp [hu] at hF
 | some dd =>
  cases dd <;> simp [hu] at hF
  rename_i fs
  cases hfl : fs[f]? with
  | none => simp [hfl] at hF
  | some fl =>
   simp only [hfl, Bool.and_eq_true, beq_iff_eq] at hF
   cases hin : P.info? fl.type with
   | none => simp [hin] at hF
   | some inf =>
    simp [hin] at hF
    obtain ⟨h1, h2⟩ := hF
    simp [execOp, Instr.fieldAt, Sem.run_bind, run_underlying hu, hfl, Instr.sureAddr, ha.ev hx, fieldPlace, run_sizeOf w hin, Program.cellsOf, hin, h2, eP_add, h1]
end
theorem flatMap_len {α β : Type} {enc : α → List β} {sz : Nat} : ∀ l : List α, (∀ x ∈ l, (enc x).length = sz) → (l.flatMap enc).length = l.length * sz
 | [], _ => by simp
 | y :: l, h => by rw [List.flatMap_cons, List.length_append, h y (by simp), flatMap_len l (fun x hx => h x (by simp [hx])), List.length_cons, Nat.add_mul]; omega
section
variable {α : Type} {m : Md} {P : Program} {N : Nat} {w0 : World} {S0 : Foot} {ops : List Oper} {i : Nat} {lq : List Nat} {env : Env} {ro rw : List SL} {K : Act → World → Prop} {d : Nat} {op : Op} {ty : TypeId} {pos : String} {aft : Array Edge} {g : Option (Nat × Bool)}
theorem HQ_add {e : SL} (he : ∀ w, e.p (fun _ => False) w) (h : HQ N w0 S0 env ro (e :: rw) K) : HQ N w0 S0 env ro rw K :=
 fun a S w ha hf => h a S w ha ⟨hf.fr, hf.lt, hf.sub, ⟨fun _ => False, S, fun _ h => h.elim, fun _ h => h, fun _ h => h.elim, he w, hf.star⟩, hf.ros⟩
def loudM : Md → Bool
 | .quiet => false
 | _ => true
theorem Fits.comm2 {a b : List SL} {e : SL} {S : Foot} {w : World} (h : Fits w0 S0 ro (e :: (a ++ b)) S w) : Fits w0 S0 ro (a ++ e :: b) S w := by
 obtain ⟨A, B, hA, hB, hd, he, hs⟩ := h.star
 obtain ⟨C, D, hC, hD, hcd, h8, h9⟩ := hs.split
 have h10 : Star (e :: b) (fun x => A x ∨ D x) w := ⟨A, D, fun _ h => .inl h, fun _ h => .inr h, fun x hx hc => hd x hx (hD x hc), he, h9⟩
 exact ⟨h.fr, h.lt, h.sub, Star.append (fun x hx => hB x (hC x hx)) (fun x hx => hx.elim (hA x) (fun hx => hB x (hD x hx))) (fun x hx hc => hc.elim (fun hc => hd x hc (hC x hx)) (hcd x hx)) h8 h10, h.ros⟩
theorem HO_add {e : SL} {l : List Nat} (hm : loudM m = true) (he : ∀ w, e.p (fun _ => False) w) (h : HO m P N w0 S0 ops l env ro (e :: rw) K) : HO m P N w0 S0 ops l env ro rw K := by
 have key : ∀ {ro : List SL} {rw : List SL} {S : Foot} {w : World}, Fits w0 S0 ro rw S w → Fits w0 S0 ro (e :: rw) S w := fun {ro rw S w} hf =>
  ⟨hf.fr, hf.lt, hf.sub, ⟨fun _ => False, S, fun _ h => h.elim, fun _ h => h, fun _ h => h.elim, he w, hf.star⟩, hf.ros⟩
 cases m with
 | ord => exact fun a S w ha hf => h a S w ha (key hf)
 | quiet => cases hm
 | lex ro0 => exact fun held hro a S w ha hf => h held hro a S w ha (key hf).comm2
 | pick ro0 =>
  intro held hro
  have := h held hro
  cases l with
  | nil => exact this
  | cons i l => exact fun a S w ha hf => this a S w ha (key hf).comm2
theorem own_nil {enc : α → List Value} {T sz : Nat} (w : World) : (own enc T sz none 0 0 []).p (fun _ => False) w := ⟨rfl, ⟨by simp, .inl ⟨rfl, rfl⟩⟩, fun _ h => by cases h⟩
theorem arr_nil {enc : α → List Value} {sz : Nat} {A : Option Addr} (S : Foot) (w : World) : (arr enc sz A []).p S w := fun h => absurd rfl h
def oneB (l : List Value) : Bool := l.all Value.oneCell'
theorem HO_append {enc : α → List Value} {T e sz by_ n c n2 c2 : Nat} {A A2 : Option Addr} {l l2 : List α} {x y : Operand} {z : Value} {src : SL} (k : Nat) (k2 : Nat) [hT : TySlice P T e] [hI : TyInfo P e sz by_] [hZ : TyZero P e z]
  (ho : ops[i]? = some ⟨some d, .call { callee := .builtin .append, args := #[x, y], argTypes := #[T, T] }, ty, pos, aft, g⟩) (hx : Env.ev env x = some (.slice A n c)) (hy : Env.ev env y = some (.slice A2 n2 c2))
  (hk : rw[k]? = some (own enc e sz A n c l)) (hk2 : (ro ++ rw)[k2]? = some src) (hse : Ent src (arr enc sz A2 l2)) (hn2 : n2 = l2.length) (henc : ∀ x ∈ l2, (enc x).length = sz) (h1 : ∀ x ∈ l2, oneB (enc x) = true) (hzs : z.cells.size = sz) (hsz : 0 < sz)
  (hb : (l.length + l2.length) * by_ ≤ 140737488355328) (hb2 : l.length + l2.length ≤ 9223372036854775807)
  (hw : wantE ops env g = some true) (hN : Nat.blt d N = true) (hs : soleB m ops i lq = true)
  (h : ∀ A' c', HO (nmM m) P N w0 S0 ops lq ((d, .slice A' (n + n2) c') :: env) ro (own enc e sz A' (n + n2) c' (l ++ l2) :: rw.eraseIdx k) K) : HO m P N w0 S0 ops (i :: lq) env ro rw K := by
 refine HO_act_ex (α := Option Addr × Nat) (φ := fun _ => True) (v := fun p => .slice p.1 (n + n2) p.2) (rw' := fun p => own enc e sz p.1 (n + n2) p.2 (l ++ l2) :: rw.eraseIdx k) ho hw rfl hN hs (fun w1 S1 a S w ha hf => ?_) (fun p _ => h p.1 p.2)
 obtain ⟨F, hFl, hp2⟩ := hf.see (List.mem_of_getElem? hk2)
 have hr2 := hse _ _ hp2
 have hI := hI.h
 cases hin : P.info? e with
 | none => simp [hin] at hI
 | some inf =>
  simp [hin] at hI
  have hz := hZ.h
  simp [hin] at hz
  have hmv : Fits w1 S1 ro ([own enc e sz A n c l] ++ rw.eraseIdx k) S w := hf.move hk
  obtain ⟨B, ⟨B1, B2, hB1, hB2, hB12, ⟨hnl, how, hSo1⟩, _⟩, hBS, hBl, _, _, hstep⟩ := hmv.step
  have hlen2 : (l2.flatMap enc).length = n2 * sz := by rw [flatMap_len l2 henc, hn2]
  have hreads : Reads w w.heap.size sz A2 n2 (l2.flatMap enc) := by
   refine ⟨hlen2, fun hpos => ?_⟩
   obtain ⟨ad, hA, hS, hc⟩ := hr2 (by intro e; subst e; simp at hn2; omega)
   refine ⟨ad, hA, hFl _ hS, fun q u hq => ?_⟩
   have hqlt := (List.getElem?_eq_some_iff.1 hq).1
   rw [hlen2, hn2] at hqlt
   have hqd : q / sz < l2.length := Nat.div_lt_of_lt_mul (by rw [Nat.mul_comm]; exact hqlt)
   have hx1 : l2[q / sz]? = some l2[q / sz] := List.getElem?_eq_getElem hqd
   have hkm : q % sz < (enc l2[q / sz]).length := by rw [henc _ (List.getElem_mem _)]; exact Nat.mod_lt _ hsz
   have h2 := flatMap_at l2 henc _ _ hx1 (q % sz) _ (List.getElem?_eq_getElem hkm)
   have h3 := hc _ _ hx1 (q % sz) _ (List.getElem?_eq_getElem hkm)
   have hqe : q / sz * sz + q % sz = q := by rw [Nat.mul_comm]; exact Nat.div_add_mod q sz
   rw [hqe] at h2 h3
   rw [hq] at h2
   injection h2 with h2
   rw [h3, ← h2]
  have hone : ∀ u ∈ l2.flatMap enc, u.oneCell' = true := by
   intro u hu
   obtain ⟨y, hyl, hy⟩ := List.mem_flatMap.1 hu
   exact List.all_eq_true.1 (h1 y hyl) u hy
  have hnl2 : n + n2 = l.length + l2.length := by omega
  obtain ⟨v', w', hrun, how', hg, hblk⟩ := run_append_any (P := P) w 0 T ty e inf z sz by_ hT.h hin hz hI.1 hI.2 hzs hsz (.slice A n c) n (l.flatMap enc) how w.heap.size A2 n2 c2 (l2.flatMap enc) hreads hone (by unfold maxLen; omega) (by rw [hnl2]; exact hb) (Nat.zero_le _)
  obtain ⟨A', c', hv'⟩ : ∃ A' c', v' = .slice A' (n + n2) c' := by
   rcases how'.2 with ⟨hv, hn0⟩ | ⟨g', cap, cur, hv, _⟩
   ·exact ⟨none, 0, by rw [hv, hn0]⟩
   ·exact ⟨_, cap, hv⟩
  subst hv'
  have hlt' : ∀ ad, A' = some ad → ad.block < w'.heap.size := by
   intro ad hA
   rcases how'.2 with ⟨hv, hn0⟩ | ⟨g', cap, cur, hv, _, hh, _⟩
   ·injection hv with hv; rw [hv] at hA; cases hA
   ·injection hv with hv
    rw [hA] at hv
    injection hv with hv
    subst hv
    rcases Nat.lt_or_ge g' w'.heap.size with h' | h'
    ·exact h'
    ·rw [Array.getElem?_eq_none h'] at hh; cases hh
  have hmemB : ∀ ad, A' = some ad → B1 ad.block ∨ ad.block = w.heap.size := by
   intro ad hA
   rcases hblk with hb' | hb'
   ·left
    simp only [Value.ownBlock, hA] at hb'
    cases hAo : A with
    | none => rw [hAo] at hb'; cases hb'
    | some ad0 =>
     rw [hAo] at hb'
     injection hb' with hb'
     rw [hb']
     exact hSo1 ad0 hAo
   ·right
    simp only [Value.ownBlock, hA] at hb'
    injection hb'
  have hsameB : ∀ b, b < w.heap.size → ¬ B b → w'.heap[b]? = w.heap[b]? := by
   intro b hb' hn'
   refine hg.block b hb' (fun he => ?_)
   cases hAo : A with
   | none => rw [hAo] at he; cases he
   | some ad0 =>
    rw [hAo] at he
    injection he with he
    exact hn' (he ▸ hB1 _ (hSo1 ad0 hAo))
  obtain ⟨T', hT'⟩ := hstep w' (fun b => (∃ ad, A' = some ad ∧ ad.block = b)) [own enc e sz A' (n + n2) c' (l ++ l2)] ⟨hg.os, hg.tape, hg.output, hg.size, hsameB⟩
   (fun b ⟨ad, hA, hb'⟩ => hb' ▸ hlt' ad hA) (fun b ⟨ad, hA, hb'⟩ => hb' ▸ (hmemB ad hA).elim (fun h => .inl (hB1 _ h)) (fun h => .inr (by omega)))
   ⟨fun b => (∃ ad, A' = some ad ∧ ad.block = b), fun _ => False, fun _ h => h, fun _ h => h.elim, fun _ _ h => h, ⟨by simp [hnl, hn2], by rw [List.flatMap_append]; exact how', fun ad hA => ⟨ad, hA, rfl⟩⟩, trivial⟩
  refine ⟨(A', c'), T', w', trivial, ?_, by simpa using hT'⟩
  simp [execOp, resolve, invoke, builtin, Sem.run_bind, ha.ev hx, ha.ev hy, hrun]
end
def opk (ops : List Oper) (i : Nat) : Nat := match ops[i]? with
 | none => 99
 | some o => match o.op with
  | .move _ => 0 | .assign _ => 0 | .pick _ _ _ => 0 | .binOp _ _ _ _ _ => 0 | .unOp _ _ _ => 0 | .extract _ _ => 0
  | .box _ _ => 1 | .load _ _ => 2 | .store _ _ _ => 3 | .alloc _ => 4 | .fieldAddr _ _ _ => 5 | .build _ _ => 6 | .convert _ _ _ => 7
  | .makeFunc _ _ _ => 9 | .indexAddr _ _ _ => 10 | .slice _ _ _ _ _ => 13 | .makeSlice _ _ _ => 14 | .buildSlice _ _ _ => 15 | .field _ _ _ => 16 | .index _ _ _ => 17 | .nilCheck _ => 18
  | .call c => match c.callee with
   | .value _ => 12
   | .builtin .len => 8
   | .builtin .append => 11
   | .builtin .min => 22
   | .builtin _ => 19
   | .invoke _ _ => 20
  | _ => 21
def opg (ops : List Oper) (env : Env) (i : Nat) : Nat := match ops[i]? with
 | none => 99
 | some o => match o.guard with
  | none => 0
  | some (j, _) => match ops[j]? with
   | none => 99
   | some o => match o.dst with
    | none => 99
    | some d => match Env.get env d with
     | some (.bool _) => 2
     | some (.tuple _) => 1
     | _ => 3
def stillB : Op → Bool
 | .box _ _ | .store _ _ _ | .alloc _ | .makeSlice _ _ _ | .buildSlice _ _ _ => false
 | .call c => match c.callee with
  | .builtin .append => false
  | .builtin .copy => false
  | _ => true
 | _ => true
theorem HC_quiet {P : Program} {N : Nat} {w0 : World} {S0 : Foot} {c : Code} {env : Env} {ro rw : List SL} {Q : Exit → Act → World → Prop} (_ : (isDraw c && (cOps c).all (fun o => stillB o.op)) = true) (h : HC P N w0 S0 c env ro rw Q) : HC P N w0 S0 c env ro rw Q := h
class CelAt (l : List SL) (b : Nat) (k U : outParam Nat) (cs : outParam (List Value)) : Prop where h : l[k]? = some (cel b U cs)
instance (priority := high) {b U : Nat} {cs : List Value} {l : List SL} : CelAt (cel b U cs :: l) b 0 U cs := ⟨rfl⟩
instance {b U k : Nat} {cs : List Value} {e : SL} {l : List SL} [h : CelAt l b k U cs] : CelAt (e :: l) b (k + 1) U cs := ⟨by simpa using h.h⟩
section
variable {m : Md} {P : Program} {N : Nat} {w0 : World} {S0 : Foot} {ops : List Oper} {i : Nat} {lq : List Nat} {env : Env} {ro rw : List SL} {K : Act → World → Prop} {d : Nat} {op : Op} {ty : TypeId} {pos : String} {aft : Array Edge} {g : Option (Nat × Bool)}
theorem HO_k (k : Nat) (hk : Nat.beq (opk ops i) k = true) (h : HO m P N w0 S0 ops (i :: lq) env ro rw K) : HO m P N w0 S0 ops (i :: lq) env ro rw K := h
theorem HO_g (k : Nat) (hk : Nat.beq (opg ops env i) k = true) (h : HO m P N w0 S0 ops (i :: lq) env ro rw K) : HO m P N w0 S0 ops (i :: lq) env ro rw K := h
theorem at_right {ro rw : List SL} {k : Nat} {e : SL} (h : rw[k]? = some e) : (ro ++ rw)[ro.length + k]? = some e := by
 rw [List.getElem?_append_right (by omega)]; simpa using h
class TyKind (P : Program) (T : Nat) (ag : outParam Bool) (n : outParam Nat) : Prop where h : (match ag with | true => tyAggB P T n | false => tyOneB P T && n == 1) = true
instance (priority := high) {P : Program} {T : Nat} [h : TyOne P T] : TyKind P T false 1 := ⟨by simp [h.h]⟩
instance {P : Program} {T n : Nat} [h : TyAgg P T n] : TyKind P T true n := ⟨by simp [h.h]⟩
def valOf : Bool → List Value → Option Value
 | true, l => some (.agg l.toArray)
 | false, [v] => some v
 | _, _ => none
theorem loadVar_kind {T n off : Nat} {ag : Bool} {b U : Nat} {cs l : List Value} {v : Value} {S : Foot} {w : World} (hT : TyKind P T ag n) (hp : (cel b U cs).p S w) (hv : subL cs off n = some l) (ho : valOf ag l = some v) :
  (loadVar T ⟨b, off, none⟩).run P w = .ok v w := by
 have hT := hT.h
 obtain ⟨hl, hc⟩ := subL_spec _ _ _ _ hv
 cases ag with
 | true =>
  simp [valOf] at ho
  subst ho hl
  exact run_loadVar_agg w hT (fun k v hkv => by
   rw [addr_add, cel_cell hp, hc k (by have := (List.getElem?_eq_some_iff.1 hkv).1; exact this)]
   exact hkv)
 | false =>
  simp only [Bool.and_eq_true, beq_iff_eq] at hT
  match l, ho with
  | [u], ho =>
   simp [valOf] at ho
   subst ho
   have := hc 0 (by omega)
   simp at this
   exact run_loadVar_one w hT.1 ((cel_cell hp off).trans this)
theorem seeL_plain (hm : plainM m = true) : seeL m ro rw = ro ++ rw := by cases m <;> first | rfl | cases hm
theorem seeL_ro {e : SL} (he : e ∈ ro) : e ∈ seeL m ro rw := by cases m <;> first | exact he | exact List.mem_append.2 (.inl he)
theorem HO_lo {x : Operand} {T b off k U n : Nat} {ag : Bool} {v : Value} {l cs : List Value} [hT : TyKind P T ag n] (hm : plainM m = true) (ho : ops[i]? = some ⟨some d, .load T x, ty, pos, aft, g⟩) (hx : Env.ev env x = some (.pointer (some ⟨b, off, none⟩)))
  [hk : CelAt rw b k U cs] (hv : subL cs off n = some l) (hl : valOf ag l = some v) (hw : wantE ops env g = some true) (hN : Nat.blt d N = true) (hr : rdyB m ops i lq = true)
  (h : HO m P N w0 S0 ops lq ((d, v) :: env) ro rw K) : HO m P N w0 S0 ops (i :: lq) env ro rw K := by
 refine HO_val ho hw rfl hN hr (fun a w ha hf => ?_) h
 obtain ⟨F, _, hp⟩ := hf (cel b U cs) (by rw [seeL_plain hm]; exact List.mem_append.2 (.inr (List.mem_of_getElem? hk.h)))
 simp [execOp, Instr.loadAt, Instr.sureAddr, ha.ev hx, Sem.run_bind, loadVar_kind hT hp hv hl]
theorem HO_lor {x : Operand} {T b off k U n : Nat} {ag : Bool} {v : Value} {l cs : List Value} [hT : TyKind P T ag n] (ho : ops[i]? = some ⟨some d, .load T x, ty, pos, aft, g⟩) (hx : Env.ev env x = some (.pointer (some ⟨b, off, none⟩)))
  [hk : CelAt ro b k U cs] (hv : subL cs off n = some l) (hl : valOf ag l = some v) (hw : wantE ops env g = some true) (hN : Nat.blt d N = true) (hr : rdyB m ops i lq = true)
  (h : HO m P N w0 S0 ops lq ((d, v) :: env) ro rw K) : HO m P N w0 S0 ops (i :: lq) env ro rw K := by
 refine HO_val ho hw rfl hN hr (fun a w ha hf => ?_) h
 obtain ⟨F, _, hp⟩ := hf (cel b U cs) (seeL_ro (List.mem_of_getElem? hk.h))
 simp [execOp, Instr.loadAt, Instr.sureAddr, ha.ev hx, Sem.run_bind, loadVar_kind hT hp hv hl]
def setO : List SL → Nat → SL → Option (List SL)
 | [], _, _ => none
 | _ :: l, 0, e => some (e :: l)
 | x :: l, k + 1, e => match setO l k e with
  | some r => some (x :: r)
  | none => none
theorem setO_eq : ∀ {l : List SL} {k : Nat} {e : SL} {r : List SL}, setO l k e = some r → r = l.set k e
 | [], _, _, _, h => by simp [setO] at h
 | _ :: _, 0, _, _, h => by simp [setO] at h; simp [h]
 | x :: l, k + 1, e, r, h => by
  simp only [setO] at h
  cases hs : setO l k e with
  | none => simp [hs] at h
  | some q => simp [hs] at h; subst h; simp [setO_eq hs]
def eraseO : List SL → Nat → Option (List SL)
 | [], _ => none
 | _ :: l, 0 => some l
 | x :: l, k + 1 => match eraseO l k with
  | some r => some (x :: r)
  | none => none
theorem eraseO_eq : ∀ {l : List SL} {k : Nat} {r : List SL}, eraseO l k = some r → r = l.eraseIdx k
 | [], _, _, h => by simp [eraseO] at h
 | _ :: _, 0, _, h => by simp [eraseO] at h; simp [h]
 | x :: l, k + 1, r, h => by
  simp only [eraseO] at h
  cases hs : eraseO l k with
  | none => simp [hs] at h
  | some q => simp [hs] at h; subst h; simp [eraseO_eq hs]
theorem HO_loh {ro0 rw' : List SL} {x : Operand} {T b off k U n : Nat} {ag : Bool} {v : Value} {l cs : List Value} [hT : TyKind P T ag n] (ho : ops[i]? = some ⟨some d, .load T x, ty, pos, aft, g⟩) (hx : Env.ev env x = some (.pointer (some ⟨b, off, none⟩)))
  [hk : CelAt rw b k U cs] (hv : subL cs off n = some l) (hl : valOf ag l = some v) (hrw : eraseO rw k = some rw') (hw : wantE ops env g = some true) (hN : Nat.blt d N = true) (hr : rdyB (.lex ro0) ops i lq = true)
  (h : HO (.lex ro0) P N w0 S0 ops lq ((d, v) :: env) (cel b U cs :: ro) rw' K) : HO (.lex ro0) P N w0 S0 ops (i :: lq) env ro rw K := by
 have e := eraseO_eq hrw
 subst e
 exact HO_hold hk.h (HO_lor ho hx hv hl hw hN hr h)
class TySize (P : Program) (T : Nat) (n : outParam Nat) : Prop where h : (tyOneB P T && n == 1 || tyAggB P T n) = true
instance (priority := high) {P : Program} {T : Nat} [h : TyOne P T] : TySize P T 1 := ⟨by simp [h.h]⟩
instance {P : Program} {T n : Nat} [h : TyAgg P T n] : TySize P T n := ⟨by simp [h.h]⟩
theorem HO_st {x y : Operand} {T b off U n k : Nat} {v : Value} {cs l : List Value} {rw' : List SL} [hT : TySize P T n] (ho : ops[i]? = some ⟨none, .store T x y, ty, pos, aft, g⟩) (hx : Env.ev env x = some (.pointer (some ⟨b, off, none⟩)))
  (hy : Env.ev env y = some v) [hk : CelAt rw b k U cs] (hn : Nat.beq (cellsL v).length n = true) (h1 : (cellsL v).all Value.oneCell' = true) (hl : putL cs off (cellsL v) = some l) (hrw : setO rw k (cel b U l) = some rw')
  (hw : wantE ops env g = some true) (hs : soleB m ops i lq = true)
  (h : HO (nmM m) P N w0 S0 ops lq env ro rw' K) : HO m P N w0 S0 ops (i :: lq) env ro rw K := by
 have hrw := setO_eq hrw
 subst hrw
 exact HO_store k ho hx hy hk.h (cellsL_eq v) (Nat.eq_of_beq_eq_true hn) hT.h h1 hl hw hs h
theorem Res_ce {t T b off k U n : Nat} {ag : Bool} {v : Value} {vs : List Value} {rs : List ResultVar} {l cs : List Value} [hT : TyKind P T ag n] (hp : Env.get env t = some (.pointer (some ⟨b, off, none⟩))) [hk : CelAt rw b k U cs] (hv : subL cs off n = some l)
  (hl : valOf ag l = some v) (h : ResAll P N w0 S0 env ro rw rs vs) : ResAll P N w0 S0 env ro rw (.cell t T :: rs) (v :: vs) :=
 ⟨fun a S w ha hf => by
  obtain ⟨F, _, hc⟩ := hf.see (e := cel b U cs) (List.mem_append.2 (.inr (List.mem_of_getElem? hk.h)))
  simp [resV, Array.getD_eq_getD_getElem?, ha.at_ t _ hp, asAddr, Sem.run_bind, loadVar_kind hT hc hv hl], h⟩
end
section
variable {m : Md} {P : Program} {N : Nat} {w0 : World} {S0 : Foot} {ops : List Oper} {i : Nat} {lq : List Nat} {env : Env} {ro rw : List SL} {K : Act → World → Prop} {op : Op} {ty : TypeId} {pos : String} {aft : Array Edge}
theorem HO_a1 {b r : Bool} {j0 tc tb d' i' : Nat} {dd : Option Nat} {ty' : TypeId} {pos' : String} {aft' : Array Edge} {g' : Option (Nat × Bool)} {sg rest : List Nat}
 (H : (plainM m, ops[i]?, gEnd ops i lq, ops[i']?, (ops[j0]?).bind (·.dst), Env.get env tc, segOk N ops env j0 true [] (i :: sg), wantE ops env g', Nat.blt d' N) = (true, some ⟨dd, op, ty, pos, aft, some (j0, true)⟩, some (sg, i', rest), some ⟨some d', .pick (.tmp tc) (.tmp tb) (.const (.bool false)), ty', pos', aft', g'⟩, some tc, some (.bool b), true, some true, true))
 (h1 : b = true → HO m P N w0 S0 ops (i :: sg) ((tc, .bool true) :: env) ro rw (SegK N w0 S0 ro rw tb r))
 (h2 : HO m P N w0 S0 ops rest ((d', .bool (b && r)) :: env) ro rw K) : HO m P N w0 S0 ops (i :: lq) env ro rw K := by
 simp only [Prod.mk.injEq] at H
 obtain ⟨hm, ho, hsp, hp, hj0, hb, hseg, hw, hN⟩ := H
 exact HO_and hm ho hsp hp hj0 hb hseg hw hN h1 h2
theorem HO_o1 {b r : Bool} {j0 tc tb d' i' : Nat} {dd : Option Nat} {ty' : TypeId} {pos' : String} {aft' : Array Edge} {g' : Option (Nat × Bool)} {sg rest : List Nat}
 (H : (plainM m, ops[i]?, gEnd ops i lq, ops[i']?, (ops[j0]?).bind (·.dst), Env.get env tc, segOk N ops env j0 false [] (i :: sg), wantE ops env g', Nat.blt d' N) = (true, some ⟨dd, op, ty, pos, aft, some (j0, false)⟩, some (sg, i', rest), some ⟨some d', .pick (.tmp tc) (.const (.bool true)) (.tmp tb), ty', pos', aft', g'⟩, some tc, some (.bool b), true, some true, true))
 (h1 : b = false → HO m P N w0 S0 ops (i :: sg) ((tc, .bool false) :: env) ro rw (SegK N w0 S0 ro rw tb r))
 (h2 : HO m P N w0 S0 ops rest ((d', .bool (b || r)) :: env) ro rw K) : HO m P N w0 S0 ops (i :: lq) env ro rw K := by
 simp only [Prod.mk.injEq] at H
 obtain ⟨hm, ho, hsp, hp, hj0, hb, hseg, hw, hN⟩ := H
 exact HO_or hm ho hsp hp hj0 hb hseg hw hN h1 h2
end
theorem lca {α : Type} {a : α} {as bs : List α} : a :: as ++ bs = a :: (as ++ bs) := rfl
theorem lna {α : Type} {as : List α} : [] ++ as = as := rfl
end Go.Proofs.YteeogabkkblkgaaGreatDoor
