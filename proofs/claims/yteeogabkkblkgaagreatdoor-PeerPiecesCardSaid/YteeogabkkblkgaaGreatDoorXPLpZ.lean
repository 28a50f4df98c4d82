/- Part of a proof of many texts: what the theorem at its end leans on. -/
import Derived.Test.YteeogabkkblkgaaGreatDoorVKa
import Derived.ProofKit
import Derived.Deep.Slices
import Derived.Deep.Fields
import Derived.Lib.SmallJoins
import Derived.ShutString
import Derived.Test.YteeogabkkblkgaaGreatDoorVKb
import Derived.OpenShut
import Derived.ChangeMaps5
import Derived.Test.YteeogabkkblkgaaGreatDoorRows
import Derived.Test.YteeogabkkblkgaaGreatDoorVKc
import Derived.HandedShaped
import Derived.LaidLaws
import Derived.Lay
import Derived.MakeChecks
import Derived.Lib.LaidTab
import Derived.Shelf.Vars
import Derived.Test.YteeogabkkblkgaaGreatDoorXPLpE
import Derived.Test.YteeogabkkblkgaaGreatDoorVPeH
namespace Go.Proofs.YteeogabkkblkgaaGreatDoor
set_option maxHeartbeats 1000000000
set_option linter.unusedVariables false
set_option linter.unusedSimpArgs false
open Go.RowKit Go.ChangeShapes Go.WideShapes Go.Deep Go.Joins
section
variable {H : Type} {enc : TypeId × Value → H} {P : Program}
theorem post_of_below {f : Func} {s : ChangeSpec} {apart fresh handsOn again : Bool} {W W' : World} {args : Array Value} {v : Value} {ds gs : List (DataW H)} {before pa pv : List MemPlace}
  (hW : DataW.Whole enc P f.params.toList s.vars apart W args.toList ds gs before)
  (hres : ∀ (b : Nat) (sp : Nat → Bool) (hd : Bool), DataW.TrodAll enc P W' b sp hd f.resultTypes.toList (v.resultList f.resultTypes.size) (s.fn H (ds ++ gs)).results [])
  (hargs : ∀ sp : Nat → Bool, (∀ p ∈ before, sp p.block = true) → DataW.TrodAll enc P W' 0 sp true f.params.toList args.toList (s.fn H (ds ++ gs)).args pa)
  (hvars : ∀ sp : Nat → Bool, (∀ p ∈ before, sp p.block = true) → DataW.TrodVars enc P W' sp s.vars (s.fn H (ds ++ gs)).vars pv)
  (hps : before = pa ++ pv) (hb : Below W.heap.size W W')
  (hok : ∀ (j : Nat) (t : TypeId) (r : Value), f.resultTypes[j]? = some t → (v.resultList f.resultTypes.size)[j]? = some r → Value.okWide P W' .any 0 t r) :
  s.post enc P f apart fresh handsOn again W args v W' := by
 have hlt : ∀ p ∈ before, p.block < W.heap.size := fun p hp => hW.lt p hp
 have hold : ∀ p ∈ before, (fun b => decide (b < W.heap.size)) p.block = true := fun p hp => by simpa using hlt p hp
 refine ⟨ds, gs, before, [], pa, pv, hW, hres _ _ _, hargs _ hold, hvars _ hold, World.keptBut_mono (fun p hp => ⟨hp, ?_⟩) (hb.frame (· ∈ before)), fun _ => ?_⟩
 ·rw [hps, List.mem_append] at hp
  exact Or.inr hp
 ·obtain ⟨_, _, _, _, _, hz, hn⟩ := hW
  refine ⟨hok, _, _, ([] ++ pa) ++ pv, ⟨[] ++ pa, pv, trodAll_append (hargs _ (fun _ _ => rfl)) (hres _ _ _), hvars _ (fun _ _ => rfl), rfl, ?_, ?_⟩, ?_⟩
  ·intro b off hp
   have hin : MemPlace.cell b off ∈ before := by rw [hps]; simpa using hp
   rw [hb.frozen (hlt _ hin)]
   exact hz b off hin
  ·intro ha
   have := hn ha
   rw [hps] at this
   simpa using this
  ·intro p hp _
   rw [hps]
   simpa using hp
end
section
variable {H : Type} {enc : TypeId × Value → H} {P : Program} {w : World} {base : Nat} {spare : Nat → Bool} {held : Bool}
end
end Go.Proofs.YteeogabkkblkgaaGreatDoor
namespace Go.Proofs.YteeogabkkblkgaaGreatDoor
set_option linter.unusedVariables false
set_option linter.unusedSimpArgs false
open Go.RowKit Go.ChangeShapes Go.WideShapes Go.Deep
inductive Shp where
 | int (k : IntKind) | bool | str | sl (e : Shp) | agg (fs : List Shp)
inductive Tr where
 | int (k : IntKind) (n : Int) | bool (b : Bool) | str (s : ByteArray) | sl (A : Option Addr) (c : Nat) (l : List Tr) | agg (l : List Tr)
mutual
def Tr.cells : Tr → List Value
 | .int k n => [.int k n]
 | .bool b => [.bool b]
 | .str s => [.string s]
 | .sl A c l => [.slice A l.length c]
 | .agg l => cellsAll l
def cellsAll : List Tr → List Value
 | [] => []
 | t :: l => t.cells ++ cellsAll l
end
def Tr.val : Tr → Value
 | .int k n => .int k n
 | .bool b => .bool b
 | .str s => .string s
 | .sl A c l => .slice A l.length c
 | .agg l => .agg (cellsAll l).toArray
mutual
def Shp.sz : Shp → Nat
 | .int _ => 1
 | .bool => 1
 | .str => 1
 | .sl _ => 1
 | .agg fs => szAll fs
def szAll : List Shp → Nat
 | [] => 0
 | s :: l => s.sz + szAll l
end
mutual
def Tr.of : Shp → Tr → Prop
 | .int k, t => ∃ n, t = .int k n ∧ (Lit.int k n).wf = true
 | .bool, t => ∃ b, t = .bool b
 | .str, t => ∃ s, t = .str s ∧ s.size ≤ maxLen
 | .sl e, t => ∃ A c l, t = .sl A c l ∧ (A = none → l = []) ∧ l.length ≤ c ∧ c ≤ maxLen ∧ ∀ x ∈ l, Tr.of e x
 | .agg fs, t => ∃ l, t = .agg l ∧ ofAll fs l
def ofAll : List Shp → List Tr → Prop
 | [], l => l = []
 | s :: ss, l => ∃ t r, l = t :: r ∧ Tr.of s t ∧ ofAll ss r
end
mutual
def pcs : Shp → Tr → List SL
 | .sl e, .sl A _ l => arr idE e.sz A (l.map Tr.cells) :: l.flatMap (pcs e)
 | .agg fs, .agg l => pcsAll fs l
 | _, _ => []
def pcsAll : List Shp → List Tr → List SL
 | s :: ss, t :: l => pcs s t ++ pcsAll ss l
 | _, _ => []
end
mutual
def shpB (P : Program) : TypeId → Shp → Bool
 | t, .int k => match P.underlying t with | some (.int k') => sameK k' k | _ => false
 | t, .bool => match P.underlying t with | some .bool => true | _ => false
 | t, .str => match P.underlying t with | some .string => true | _ => false
 | t, .sl e => match P.underlying t with | some (.slice te) => shpB P te e && Nat.beq (P.cellsOf te) e.sz && Nat.blt 0 e.sz | _ => false
 | t, .agg fs => match P.underlying t with | some (.struct fl) => fieldsB P 0 fl.toList fs && Nat.beq (P.cellsOf t) (szAll fs) | _ => false
def fieldsB (P : Program) : Nat → List Field → List Shp → Bool
 | _, fl, [] => fl.isEmpty
 | off, fl, s :: ss => match fl with
  | f :: fl => Nat.beq f.offset off && Nat.beq (P.cellsOf f.type) s.sz && shpB P f.type s && fieldsB P (off + s.sz) fl ss
  | [] => false
end
def argsB (P : Program) : List TypeId → List Shp → Bool
 | [], [] => true
 | t :: ts, s :: ss => shpB P t s && argsB P ts ss
 | _, _ => false
theorem wf_u8 {n : Int} (h : (Lit.int .u8 n).wf = true) : 0 ≤ n ∧ n ≤ 255 := by simpa [Lit.wf, IntKind.min, IntKind.max, IntKind.bits, IntKind.signed] using h
theorem exists_list {α : Type} (p : Nat → α → Prop) : ∀ n : Nat, (∀ i, i < n → ∃ x, p i x) → ∃ l : List α, l.length = n ∧ ∀ i x, l[i]? = some x → p i x
 | 0, _ => ⟨[], rfl, fun i x h => by simp at h⟩
 | n + 1, h => by
  obtain ⟨l, hl, hp⟩ := exists_list p n (fun i hi => h i (by omega))
  obtain ⟨x, hx⟩ := h n (by omega)
  refine ⟨l ++ [x], by simp [hl], fun i y hy => ?_⟩
  rcases Nat.lt_or_ge i l.length with hi | hi
  ·rw [List.getElem?_append_left hi] at hy
   exact hp i y hy
  ·rw [List.getElem?_append_right hi] at hy
   rcases Nat.eq_zero_or_pos (i - l.length) with h0 | h0
   ·rw [h0] at hy
    simp at hy
    subst hy
    have : i = n := by omega
    exact this ▸ hx
   ·rw [List.getElem?_eq_none (by simp; omega)] at hy
    cases hy
theorem cell_lt {w : World} {a : Addr} {v : Value} (h : w.cell? a = some v) : a.block < w.heap.size := by
 rcases Nat.lt_or_ge a.block w.heap.size with hl | hl
 ·exact hl
 ·simp [World.cell?, Array.getElem?_eq_none hl] at h
section
variable {H : Type} {enc : TypeId × Value → H} {P : Program} {w : World} {base : Nat} {spare : Nat → Bool} {held : Bool}
mutual
theorem open_shp : ∀ (s : Shp) (t : TypeId) (fuel : Nat) (cs : List Value) (x : DataW H × List MemPlace), shpB P t s = true → DataW.trod enc P w base spare held fuel t cs = some x →
  ∃ tr, Tr.of s tr ∧ cs = tr.cells ∧ cs.length = s.sz ∧ ∀ e ∈ pcs s tr, e.p (fun b => b < w.heap.size) w
 | .int k, t, fuel, cs, x, hb, h => by
  cases hu : P.underlying t with
  | none => simp [shpB, hu] at hb
  | some D =>
   cases D <;> simp [shpB, hu] at hb
   have := sameK_eq hb
   subst this
   obtain ⟨n, hc, _, hw⟩ := DataW.trod_int hu h
   subst hc
   refine ⟨.int _ n, by unfold Tr.of; exact ⟨n, rfl, hw⟩, rfl, rfl, fun e he => by simp [pcs] at he⟩
 | .bool, t, fuel, cs, x, hb, h => by
  cases hu : P.underlying t with
  | none => simp [shpB, hu] at hb
  | some D =>
   cases D <;> simp [shpB, hu] at hb
   obtain ⟨b, hc, _⟩ := DataW.trod_bool hu h
   subst hc
   exact ⟨.bool b, by unfold Tr.of; exact ⟨b, rfl⟩, rfl, rfl, fun e he => by simp [pcs] at he⟩
 | .str, t, fuel, cs, x, hb, h => by
  cases hu : P.underlying t with
  | none => simp [shpB, hu] at hb
  | some D =>
   cases D <;> simp [shpB, hu] at hb
   obtain ⟨s, hc, _, hs⟩ := DataW.trod_string hu h
   subst hc
   exact ⟨.str s, by unfold Tr.of; exact ⟨s, rfl, hs⟩, rfl, rfl, fun e he => by simp [pcs] at he⟩
 | .sl e, t, fuel, cs, x, hb, h => by
  cases hu : P.underlying t with
  | none => simp [shpB, hu] at hb
  | some D =>
   cases D <;> simp [shpB, hu] at hb
   rename_i te
   obtain ⟨⟨hs, hsz⟩, hpos⟩ := hb
   rcases open_slice hu h with ⟨hc, _⟩ | ⟨a, len, cap, m, n, D, Pl, hc, _, hl, hm, hmm, _, hi⟩
   ·subst hc
    refine ⟨.sl none 0 [], by unfold Tr.of; exact ⟨none, 0, [], rfl, fun _ => rfl, Nat.le_refl _, Nat.zero_le _, fun x hx => by cases hx⟩, rfl, rfl, fun f hf => ?_⟩
    simp [pcs] at hf
    subst hf
    exact fun hne => absurd rfl hne
   ·have hlm : len ≤ m := by rw [hmm]; split <;> omega
    obtain ⟨l, hll, hlp⟩ := exists_list (fun i (tr : Tr) => Tr.of e tr ∧ tr.cells.length = e.sz ∧ (∀ k u, tr.cells[k]? = some u → w.cell? (a.add (i * e.sz + k)) = some u) ∧ ∀ f ∈ pcs e tr, f.p (fun b => b < w.heap.size) w) len (fun i hil => by
     obtain ⟨cs', hcs', ht'⟩ := hi i (by omega)
     obtain ⟨tr, h1, h2, h3, h4⟩ := open_shp e te n cs' _ hs ht'
     obtain ⟨_, hlen, hat⟩ := World.cells?_some hcs'
     refine ⟨tr, h1, by rw [← h2]; exact h3, fun k u hk => ?_, h4⟩
     rw [← h2] at hk
     have hkl : k < cs'.length := (List.getElem?_eq_some_iff.1 hk).1
     have := hat k (by omega)
     rw [hk, add_of_add, hsz] at this
     exact this)
    subst hc
    have hall : ∀ x ∈ l, Tr.of e x ∧ x.cells.length = e.sz ∧ ∀ f ∈ pcs e x, f.p (fun b => b < w.heap.size) w := fun x hx => by
     obtain ⟨i, hi'⟩ := List.getElem?_of_mem hx
     have := hlp i x hi'
     exact ⟨this.1, this.2.1, this.2.2.2⟩
    refine ⟨.sl (some a) cap l, by unfold Tr.of; exact ⟨some a, cap, l, rfl, fun h => by (cases h), by omega, hm, fun x hx => (hall x hx).1⟩, by simp [Tr.cells, hll], rfl, fun f hf => ?_⟩
    rw [pcs, List.mem_cons] at hf
    rcases hf with rfl | hf
    ·intro hne
     have hlp' : ∀ q x, (l.map Tr.cells)[q]? = some x → ∀ k u, x[k]? = some u → w.cell? (a.add (q * e.sz + k)) = some u := fun q x hq k u hk => by
      rw [List.getElem?_map] at hq
      cases hlq : l[q]? with
      | none => simp [hlq] at hq
      | some tr =>
       simp [hlq] at hq
       subst hq
       exact (hlp q tr hlq).2.2.1 k u hk
     refine ⟨a, rfl, ?_, hlp'⟩
     have h0 : l ≠ [] := fun h => hne (by simp [h])
     obtain ⟨x0, hx0⟩ : ∃ x0, l[0]? = some x0 := ⟨l[0]'(List.length_pos_iff.2 h0), List.getElem?_eq_getElem _⟩
     have hx := hlp 0 x0 hx0
     have hx1 : 0 < x0.cells.length := by rw [hx.2.1]; exact hpos
     have := cell_lt (hx.2.2.1 0 _ (List.getElem?_eq_getElem hx1))
     rwa [block_of_add] at this
    ·rw [List.mem_flatMap] at hf
     obtain ⟨x, hx, hf⟩ := hf
     exact (hall x hx).2.2 f hf
 | .agg fs, t, fuel, cs, x, hb, h => by
  cases hu : P.underlying t with
  | none => simp [shpB, hu] at hb
  | some D =>
   cases D <;> simp [shpB, hu] at hb
   rename_i fl
   obtain ⟨hf, hsz⟩ := hb
   obtain ⟨xs, n, _, _, hcl, hxl, hat⟩ := DataW.trod_struct hu h
   obtain ⟨l, h1, h2, h3⟩ := open_fields fs 0 fl.toList xs n cs hf (fun i f hif => hat i f (by simpa using hif)) (by simpa using hxl) (by rw [hcl, hsz]; simp)
   exact ⟨.agg l, by unfold Tr.of; exact ⟨l, rfl, h1⟩, by simpa [Tr.cells] using h2, by rw [hcl, hsz]; rfl, fun e he => h3 e (by simpa [pcs] using he)⟩
theorem open_fields : ∀ (fs : List Shp) (off : Nat) (fl : List Field) (xs : List (DataW H × List MemPlace)) (n : Nat) (cs : List Value), fieldsB P off fl fs = true →
  (∀ (i : Nat) (f : Field), fl[i]? = some f → DataW.trod enc P w base spare held n f.type ((cs.drop f.offset).take (P.cellsOf f.type)) = xs[i]?) → xs.length = fl.length → cs.length = off + szAll fs →
  ∃ l, ofAll fs l ∧ cs.drop off = cellsAll l ∧ ∀ e ∈ pcsAll fs l, e.p (fun b => b < w.heap.size) w
 | [], off, fl, xs, n, cs, _, _, _, hl => ⟨[], by unfold ofAll; rfl, by simp [szAll] at hl; simp [cellsAll, hl], fun e he => by simp [pcsAll] at he⟩
 | s :: ss, off, fl, xs, n, cs, hb, hat, hxl, hl => by
  cases fl with
  | nil => simp [fieldsB] at hb
  | cons f fl =>
   simp only [fieldsB, Bool.and_eq_true] at hb
   obtain ⟨⟨⟨h1, h2⟩, h3⟩, h4⟩ := hb
   have h1 := Nat.eq_of_beq_eq_true h1
   have h2 := Nat.eq_of_beq_eq_true h2
   cases xs with
   | nil => simp at hxl
   | cons y ys =>
    have h0 := hat 0 f rfl
    simp at h0
    obtain ⟨tr, a1, a2, a3, a4⟩ := open_shp s f.type n _ y h3 h0
    obtain ⟨l, b1, b2, b3⟩ := open_fields ss (off + s.sz) fl ys n cs h4 (fun i g hi => by have := hat (i + 1) g (by simpa using hi); simpa using this) (by simpa using hxl) (by rw [hl]; simp only [szAll]; omega)
    refine ⟨tr :: l, by unfold ofAll; exact ⟨tr, l, rfl, a1, b1⟩, ?_, fun e he => ?_⟩
    ·rw [cellsAll, ← a2, ← b2, h1, h2, ← List.drop_drop]
     exact (List.take_append_drop _ _).symm
    ·rw [pcsAll, List.mem_append] at he
     exact he.elim (a4 e) (b3 e)
end
theorem val_of {s : Shp} {t : TypeId} {v : Value} {tr : Tr} {r : Reach} {b0 : Nat} (hb : shpB P t s = true) (hv : Value.okWide P w r b0 t v) (ho : Tr.of s tr) (hc : v.cells.toList = tr.cells) : v = tr.val := by
 cases s with
 | int k =>
  cases hu : P.underlying t with
  | none => simp [shpB, hu] at hb
  | some D =>
   cases D <;> simp [shpB, hu] at hb
   obtain ⟨n, rfl⟩ := okWide_int hu hv
   unfold Tr.of at ho
   obtain ⟨m, rfl, _⟩ := ho
   simpa [Value.cells, Tr.cells, Tr.val] using hc
 | bool =>
  cases hu : P.underlying t with
  | none => simp [shpB, hu] at hb
  | some D =>
   cases D <;> simp [shpB, hu] at hb
   obtain ⟨n, rfl⟩ := okWide_bool hu hv
   unfold Tr.of at ho
   obtain ⟨m, rfl⟩ := ho
   simpa [Value.cells, Tr.cells, Tr.val] using hc
 | str =>
  cases hu : P.underlying t with
  | none => simp [shpB, hu] at hb
  | some D =>
   cases D <;> simp [shpB, hu] at hb
   obtain ⟨n, rfl⟩ := okWide_string hu hv
   unfold Tr.of at ho
   obtain ⟨m, rfl, _⟩ := ho
   simpa [Value.cells, Tr.cells, Tr.val] using hc
 | sl e =>
  cases hu : P.underlying t with
  | none => simp [shpB, hu] at hb
  | some D =>
   cases D <;> simp [shpB, hu] at hb
   obtain ⟨A, n, c, rfl⟩ := okWide_slice hu hv
   unfold Tr.of at ho
   obtain ⟨A', c', l, rfl, _⟩ := ho
   simpa [Value.cells, Tr.cells, Tr.val] using hc
 | agg fs =>
  cases hu : P.underlying t with
  | none => simp [shpB, hu] at hb
  | some D =>
   cases D <;> simp [shpB, hu] at hb
   obtain ⟨cs, rfl, _⟩ := okWide_struct hu hv
   unfold Tr.of at ho
   obtain ⟨l, rfl, _⟩ := ho
   have : cs.toList = cellsAll l := by simpa [Value.cells, Tr.cells] using hc
   simp [Tr.val, ← this]
theorem open_args {r : Reach} {b0 : Nat} : ∀ (ss : List Shp) (ts : List TypeId) (vs : List Value) (ds : List (DataW H)) (ps : List MemPlace), argsB P ts ss = true →
  (∀ (j : Nat) t v, ts[j]? = some t → vs[j]? = some v → Value.okWide P w r b0 t v) → DataW.TrodAll enc P w base spare held ts vs ds ps →
  ∃ l, ofAll ss l ∧ vs = l.map Tr.val ∧ ds.length = ss.length ∧ ∀ e ∈ pcsAll ss l, e.p (fun b => b < w.heap.size) w
 | [], ts, vs, ds, ps, hb, hv, h => by
  cases ts with
  | cons _ _ => simp [argsB] at hb
  | nil =>
   obtain ⟨rfl, rfl, rfl⟩ := trodAll_nil h
   exact ⟨[], by unfold ofAll; rfl, rfl, rfl, fun e he => by simp [pcsAll] at he⟩
 | s :: ss, ts, vs, ds, ps, hb, hv, h => by
  cases ts with
  | nil => simp [argsB] at hb
  | cons t ts =>
   simp only [argsB, Bool.and_eq_true] at hb
   obtain ⟨v, vs', d, ds', p, q, rfl, rfl, rfl, ⟨fuel, h1⟩, h2⟩ := trodAll_cons h
   obtain ⟨tr, a1, a2, _, a4⟩ := open_shp s t fuel _ _ hb.1 h1
   obtain ⟨l, b1, b2, b3, b4⟩ := open_args ss ts vs' ds' q hb.2 (fun j t v ht hv' => hv (j + 1) t v (by simpa using ht) (by simpa using hv')) h2
   have hval := val_of hb.1 (hv 0 t v rfl rfl) a1 a2
   refine ⟨tr :: l, by unfold ofAll; exact ⟨tr, l, rfl, a1, b1⟩, by simp [hval, b2], by simp [b3], fun e he => ?_⟩
   rw [pcsAll, List.mem_append] at he
   exact he.elim (a4 e) (b4 e)
end
theorem trodAll_below {H : Type} {enc : TypeId × Value → H} {P : Program} (hl : laidOutB P = true) {W W' : World} (hb : Below W.heap.size W W') : ∀ {ts : List TypeId} {vs : List Value} {ds : List (DataW H)} {ps : List MemPlace},
  ts.all (fun t => P.readableRec t && decide (t < P.types.size)) = true → DataW.TrodAll enc P W 0 (fun _ => true) true ts vs ds ps → (∀ x ∈ ps, x.block < W.heap.size) →
  ∀ sp : Nat → Bool, (∀ p ∈ ps, sp p.block = true) → DataW.TrodAll enc P W' 0 sp true ts vs ds ps
 | [], vs, ds, ps, _, h, _, _, _ => by
  obtain ⟨rfl, rfl, rfl⟩ := trodAll_nil h
  exact trodAll_mk0
 | t :: ts, vs, ds, ps, hall, h, hlt, sp, hsp => by
  obtain ⟨v, vs', d, ds', p, q, rfl, rfl, rfl, h1, h2⟩ := trodAll_cons h
  simp only [List.all_cons, Bool.and_eq_true, decide_eq_true_eq] at hall
  have h1' := WideElems.Trod_stays (sp' := sp) hl hall.1.1 hall.1.2 h1 (fun x hx => hb.same (hlt x (by simp [hx]))) (fun x hx => hsp x (by simp [hx]))
  exact trodAll_cons_mk h1' (trodAll_below hl hb (by simpa using hall.2) h2 (fun x hx => hlt x (by simp [hx])) sp (fun p hp => hsp p (by simp [hp])))
theorem law_laid {C : Checked} {os : Os} {f : FuncId} {fn : Func} {s : ChangeSpec} {H : Type} {enc : TypeId × Value → H} (ss : List Shp) (tb : TypeId) (X : World → Prop) (hXh : ∀ w w' : World, w.heap = w'.heap → X w → X w')
  (own : ownKnob C.prog.godebug = none) (started : os.Started) (noInit : C.prog.inits.idxOf? f = none) (hfn : C.prog.funcs[f]? = some fn)
  (witness : ∃ (w : World) (tape : Tape) (i : Input), w.os = os ∧ (w.forCall tape i).Shaped C.prog ∧ i.vars = [] ∧ Input.okWide C.prog (w.forCall tape i) .any w.heap.size f i ∧
   ((s.pre enc C.prog fn [] false (w.forCall tape i).memory i.args ∧ X (w.forCall tape i).memory) ∧ sizedMet enc C.prog fn (OpenSpec.ofChange s) false (w.forCall tape i).memory i.args) ∧ ({} : Assume).holds C.prog (lone (Frame.enter C.prog f i.args .normal) [] (w.forCall tape i)))
  (hvars : s.vars = []) (hsp : ∀ ds : List (DataW H), ds.length = ss.length → s.fn H ds = { results := [.lit (.bool true)], args := ds })
  (hss : argsB C.prog fn.params.toList ss = true) (hres : fn.resultTypes = #[tb]) (htb : C.prog.underlying tb = some .bool)
  (hl : laidOutB C.prog = true) (hpar : fn.params.toList.all (fun t => C.prog.readableRec t && decide (t < C.prog.types.size)) = true)
  (Pcs : Int → List SL) (hP : ∀ W : World, W.ShapedOpen C.prog → X W → ∃ m, ∀ e ∈ Pcs m, e.p (fun b => b < W.heap.size) W)
  (walk : ∀ m l, ofAll ss l → Tri C.prog f (l.map Tr.val) (Pcs m ++ pcsAll ss l) [] (fun _ : Unit => True) (fun _ => .bool true) (fun _ => [])) :
  ReturnsInHanded {} C os f .any (fun w args => (s.pre enc C.prog fn [] false w args ∧ X w) ∧ sizedMet enc C.prog fn (OpenSpec.ofChange s) false w args) (s.post enc C.prog fn false true false false) := by
 refine returnsInHanded_of_calls own started noInit witness ?_
 intro w tape i _ hsh _ hok hpre hholds
 obtain ⟨_, _, _, fn', hfn', _, _, _, _, hval⟩ := hok
 have e : fn' = fn := Option.some.inj (hfn'.symm.trans hfn)
 subst e
 obtain ⟨⟨⟨ds, gs, before, hw, hc⟩, hX⟩, hz⟩ := hpre
 have hW := DataW.Whole.of_heap (w' := w.forCall tape i) (by rfl) hw
 obtain ⟨m, hm⟩ := hP (w.forCall tape i) hsh (hXh _ _ (by rfl) hX)
 generalize w.forCall tape i = W at *
 have key : Calls C.prog f i.args W fun e W' => ∃ v, e = .returned v ∧ s.post enc C.prog fn' false true false false W i.args v W' := by
  have hW' := hW
  obtain ⟨p, q, hA, hV, hpq, hfz, _⟩ := hW
  rw [hvars] at hV
  obtain ⟨rfl, rfl⟩ := trodVars_none hV
  simp only [List.append_nil] at hpq
  subst hpq
  obtain ⟨l, h1, h2, h3, h4⟩ := open_args ss _ _ _ _ hss (fun j t v ht hv => hval j t v (by simpa using ht) (by simpa using hv)) hA
  have hfit : Fits W (fun _ => False) (Pcs m ++ pcsAll ss l) [] (fun _ => False) W := ⟨Fr.refl _ _, fun _ h => h.elim, fun _ h => h.elim, trivial, fun e he => ⟨fun b => b < W.heap.size, fun b hb => ⟨hb, fun h => h⟩, (List.mem_append.1 he).elim (hm e) (h4 e)⟩⟩
  have hT := walk m l h1 W _ hfit
  rw [← h2, Array.toArray_toList] at hT
  refine hT.mono fun e W' ⟨_, T, _, he, hfx⟩ => ⟨.bool true, he, ?_⟩
  have hb := hfx.fr.toBelow
  refine post_of_below (pa := before) (pv := []) hW' (fun _ _ _ => ?_) (fun sp hsp' => ?_) (fun _ _ => ?_) (by simp) hb ?_
  ·rw [List.append_nil, hsp ds h3, hres]
   exact trodAll_mk1 (shut_bool htb true)
  ·rw [List.append_nil, hsp ds h3]
   exact trodAll_below hl hb hpar hA (fun x hx => hW'.lt x hx) sp hsp'
  ·rw [List.append_nil, hsp ds h3, hvars]
   exact rfl
  ·exact ok_one hres rfl (okWide_bool_mk htb true)
 refine key.mono fun e W' ⟨v, he, hp⟩ => ?_
 subst he
 exact ChangeSpec.post_blind hp
open Go.RowKit Go.Deep
attribute [local irreducible] HC HX HO Tri eP adr
theorem Tri_srcI {P : Program} {g : Nat} {args : List Value} {ro src rw : List SL} {α : Type} {φ : α → Prop} {val : α → Value} {es : α → List SL}
  (h : Tri P g args ro rw φ val es) (hs : ∀ e ∈ ro, Ent (inn src) e) : Tri P g args src rw φ val es := by
 have key : ∀ l : List SL, (∀ e ∈ l, Ent (inn src) e) → AllSrc [inn src] l := fun l => by
  induction l with
  | nil => exact fun _ => trivial
  | cons e l ih => exact fun hl => AllSrc.via 0 rfl (hl e (List.mem_cons_self ..)) (ih fun f hf => hl f (List.mem_cons_of_mem _ hf))
 have h1 : Tri P g args [inn src] rw φ val es := Tri_ro h (key ro hs)
 have h2 := Tri_inn (L := src) (ro := []) h1
 rwa [List.append_nil] at h2
theorem inn_row {α : Type} {enc : α → List Value} {sz : Nat} {A : Option Addr} {l : List α} {xs : List (List Value)} {src : List SL} [EncOk enc sz] (h : arr idE sz A xs ∈ src) (hx : xs = l.map enc) : Ent (inn src) (arr enc sz A l) := fun S w hp => by
 subst hx
 exact arr_typed l S w (inn_arr h S w hp)
theorem inn_glb {g : Nat} {cs : Array Value} {src : List SL} (h : glbs g cs ∈ src) : Ent (inn src) (glbs g cs) := fun S w hp => by
 obtain ⟨F, hF, h1⟩ := hp _ h
 exact ⟨hF _ h1.1, h1.2⟩
def toB8 : Tr → UInt8
 | .int _ n => UInt8.ofNat n.toNat
 | _ => 0
theorem byte8_of {t : Tr} (h : Tr.of (.int .u8) t) : t.cells = bE (toB8 t) := by
 simp only [Tr.of] at h
 obtain ⟨n, rfl, hw⟩ := h
 have h1 : 0 ≤ n ∧ n ≤ 255 := wf_u8 hw
 have : ((n.toNat % 256 : Nat) : Int) = n := by omega
 simp [Tr.cells, bE, toB8, this]
theorem bytes8_of {l : List Tr} (h : ∀ x ∈ l, Tr.of (.int .u8) x) : l.map Tr.cells = (l.map toB8).map bE := by
 rw [List.map_map]
 exact List.map_congr_left fun x hx => byte8_of (h x hx)
theorem byt_of {t : Tr} (h : Tr.of (.sl (.int .u8)) t) : ∃ (A : Option Addr) (c : Nat) (b : List UInt8), t.cells = [.slice A b.length c] ∧ t.val = .slice A b.length c ∧ b.length ≤ c ∧ ∀ src : List SL, (∀ f ∈ pcs (.sl (.int .u8)) t, f ∈ src) → Ent (inn src) (arr bE 1 A b) := by
 rw [Tr.of] at h
 obtain ⟨A, c, x, rfl, q1, q2, q3, hx⟩ := h
 have e := bytes8_of hx
 refine ⟨A, c, x.map toB8, by simp [Tr.cells], by simp [Tr.val], by rw [List.length_map]; exact q2, fun src hs => inn_row (hs _ ?_) e⟩
 simp [pcs, Shp.sz]
theorem rowPieces {f : Nat} {l : List Tr} (hl : ofAll [.sl (.int .u8), .int .i64] l) (h : ∀ (A : Option Addr) (c : Nat) (b : List UInt8), b.length ≤ c → ∀ n : Int, Tri Tryz.prog f [.slice A b.length c, .int .i64 n] [leW, arr bE 1 A b] [] (fun _ : Unit => True) (fun _ => .bool true) (fun _ => [])) :
  Tri Tryz.prog f (l.map Tr.val) ([leW] ++ pcsAll [.sl (.int .u8), .int .i64] l) [] (fun _ : Unit => True) (fun _ => .bool true) (fun _ => []) := by
 rw [ofAll] at hl
 obtain ⟨t1, l1, rfl, h1, hl⟩ := hl
 rw [ofAll] at hl
 obtain ⟨t2, l2, rfl, h2, hl⟩ := hl
 rw [ofAll] at hl
 subst hl
 obtain ⟨A, c, b, -, b1, b2, b3⟩ := byt_of h1
 unfold Tr.of at h2
 obtain ⟨n, rfl, -⟩ := h2
 simp only [List.map_cons, List.map_nil, b1]
 refine Tri_srcI (h A c b b2 n) fun e he => ?_
 rcases List.mem_cons.1 he with rfl | he
 ·exact inn_glb (List.mem_cons_self ..)
 ·rw [List.mem_singleton.1 he]
  exact b3 _ fun f hf => by simp only [pcsAll]; exact List.mem_append.2 (.inr (List.mem_append.2 (.inl hf)))
def peLaid : List (String × DataW Unit) := [("bypath/frame.least", Rows.laid_bypath_frame_least)]
theorem least_laid : (Rows.laid_bypath_frame_least : DataW Unit) = Lib.tabData .i64 [0, 29, 23, 21, 19] := by kernel_rfl
theorem gLeast : Tryz.prog.globalNamed "bypath/frame.least" = some 0 := by kernel_rfl
theorem glbs_of {W : World} {name : String} {g : Nat} {cs : Array Value} (hg : Tryz.prog.globalNamed name = some g) (hv : W.var? Tryz.prog name = some cs) : (glbs g cs).p (fun b => b < W.heap.size) W := by
 have hv' := hv
 unfold World.var? at hv'
 rw [hg] at hv'
 dsimp only [Option.bind_some] at hv'
 split at hv'
 ·rename_i cs' T fz hh1
  injection hv' with hv'
  subst hv'
  refine ⟨?_, T, fz, hh1⟩
  rcases Nat.lt_or_ge g W.heap.size with h | h
  ·exact h
  ·rw [Array.getElem?_eq_none h] at hh1
   cases hh1
 ·cases hv'
theorem pe_laid (W : World) (hs : W.ShapedOpen Tryz.prog) (h : laidMetH Tryz.prog peLaid W) : ∃ m : Int, ∀ e ∈ [leW], e.p (fun b => b < W.heap.size) W := by
 rw [MakeChecks.laidMetH_plain _ _ _ (by kernel_rfl)] at h
 obtain ⟨ps, ⟨g, t, cs, fuel, p, q, hg, ht, hv, hd, _⟩, _, _⟩ := h
 obtain rfl := Option.some.inj (gLeast.symm.trans hg)
 obtain rfl := Option.some.inj ((show (Tryz.prog.globals[0]?).map (·.type) = some 248 by kernel_rfl).symm.trans ht)
 rw [least_laid] at hd
 have hcs := Lib.cells_of_tab (P := Tryz.prog) (t := 248) (e := 3) (n := 5) (by kernel_rfl) (by kernel_rfl) (by kernel_rfl) (by kernel_rfl) hd
 refine ⟨0, fun e he => ?_⟩
 obtain rfl := List.mem_singleton.1 he
 have := glbs_of gLeast hv
 have e1 : cs = leastC := by
  have e2 : cs = (([0, 29, 23, 21, 19] : List Int).map fun z => Value.int .i64 z).toArray := by rw [← hcs]
  rw [e2]
  rfl
 rw [e1] at this
 exact this
theorem pe_of_heap (w w' : World) (h : w.heap = w'.heap) (hx : laidMetH Tryz.prog peLaid w) : laidMetH Tryz.prog peLaid w' := hx.of_heap h
theorem pe_world (os : Os) (args : Array Value) : laidMetH Tryz.prog peLaid ((World.laidAll Tryz.prog os peLaid).forCall (fun _ _ => 0) ⟨#[], args, []⟩).memory := by
 rw [MakeChecks.laidMetH_plain _ _ _ (by kernel_rfl)]
 exact laidMet_laidAll _ (by kernel_rfl) (by kernel_rfl)
end Go.Proofs.YteeogabkkblkgaaGreatDoor
