/- Part of a proof of many texts: what the theorem at its end leans on. -/
import Derived.Test.YtbhiojedmkcfoaaGreatDoorRRow
import Derived.Handed
namespace Go.Proofs.YtbhiojedmkcfoaaGreatDoor
set_option linter.unusedVariables false
set_option linter.unusedSimpArgs false
open Go.RowKit Go.ChangeShapes Go.WideShapes Go.Deep
mutual
def rel {H : Type} : Tr → DataW H → Prop
 | .sl _ _ l, d => (match d with | .slice es _ => es.length = l.length | .nil => l = [] | _ => False)
 | .agg l, d => (match d with | .agg ds => relAll l ds | _ => False)
 | .int _ _, _ => True
 | .bool _, _ => True
 | .str _, _ => True
def relAll {H : Type} : List Tr → List (DataW H) → Prop
 | [], ds => ds = []
 | t :: l, ds => (match ds with | [] => False | d :: ds => rel t d ∧ relAll l ds)
end
section
variable {H : Type} {enc : TypeId × Value → H} {P : Program} {w : World} {base : Nat} {spare : Nat → Bool} {held : Bool}
mutual
theorem open_shpM : ∀ (s : Shp) (t : TypeId) (fuel : Nat) (cs : List Value) (x : DataW H × List MemPlace), shpB P t s = true → DataW.trod enc P w base spare held fuel t cs = some x →
  ∃ tr, Tr.of s tr ∧ cs = tr.cells ∧ cs.length = s.sz ∧ rel tr x.1 ∧ ∀ e ∈ pcs s tr, e.p (fun b => b < w.heap.size) w
 | .int k, t, fuel, cs, x, hb, h => by
  cases hu : P.underlying t with
  | none => simp [shpB, hu] at hb
  | some D =>
   cases D <;> simp [shpB, hu] at hb
   have := sameK_eq hb
   subst this
   obtain ⟨n, hc, _, hw⟩ := DataW.trod_int hu h
   subst hc
   refine ⟨.int _ n, by unfold Tr.of; exact ⟨n, rfl, hw⟩, rfl, rfl, trivial, fun e he => by simp [pcs] at he⟩
 | .bool, t, fuel, cs, x, hb, h => by
  cases hu : P.underlying t with
  | none => simp [shpB, hu] at hb
  | some D =>
   cases D <;> simp [shpB, hu] at hb
   obtain ⟨b, hc, _⟩ := DataW.trod_bool hu h
   subst hc
   exact ⟨.bool b, by unfold Tr.of; exact ⟨b, rfl⟩, rfl, rfl, trivial, fun e he => by simp [pcs] at he⟩
 | .str, t, fuel, cs, x, hb, h => by
  cases hu : P.underlying t with
  | none => simp [shpB, hu] at hb
  | some D =>
   cases D <;> simp [shpB, hu] at hb
   obtain ⟨s, hc, _, hs⟩ := DataW.trod_string hu h
   subst hc
   exact ⟨.str s, by unfold Tr.of; exact ⟨s, rfl, hs⟩, rfl, rfl, trivial, fun e he => by simp [pcs] at he⟩
 | .sl e, t, fuel, cs, x, hb, h => by
  cases hu : P.underlying t with
  | none => simp [shpB, hu] at hb
  | some D =>
   cases D <;> simp [shpB, hu] at hb
   rename_i te
   obtain ⟨⟨hs, hsz⟩, hpos⟩ := hb
   rcases open_slice hu h with ⟨hc, hx0⟩ | ⟨a, len, cap, m, n, D, Pl, hc, _, hl, hm, hmm, hx0, hi⟩
   ·subst hc
    refine ⟨.sl none 0 [], by unfold Tr.of; exact ⟨none, 0, [], rfl, fun _ => rfl, Nat.le_refl _, Nat.zero_le _, fun x hx => by cases hx⟩, rfl, rfl, by rw [hx0]; exact rfl, fun f hf => ?_⟩
    simp [pcs] at hf
    subst hf
    exact fun hne => absurd rfl hne
   ·have hlm : len ≤ m := by rw [hmm]; split <;> omega
    obtain ⟨l, hll, hlp⟩ := exists_list (fun i (tr : Tr) => Tr.of e tr ∧ tr.cells.length = e.sz ∧ (∀ k u, tr.cells[k]? = some u → w.cell? (a.add (i * e.sz + k)) = some u) ∧ ∀ f ∈ pcs e tr, f.p (fun b => b < w.heap.size) w) len (fun i hil => by
     obtain ⟨cs', hcs', ht'⟩ := hi i (by omega)
     obtain ⟨tr, h1, h2, h3, _, h4⟩ := open_shpM e te n cs' _ hs ht'
     obtain ⟨_, hlen, hat⟩ := World.cells?_some hcs'
     refine ⟨tr, h1, by rw [← h2]; exact h3, fun k u hk => ?_, h4⟩
     rw [← h2] at hk
     have hkl : k < cs'.length := (List.getElem?_eq_some_iff.1 hk).1
     have := hat k (by omega)
     rw [hk, add_of_add, hsz] at this
     exact this)
    subst hc
    have hall : ∀ x ∈ l, Tr.of e x ∧ x.cells.length = e.sz ∧ ∀ f ∈ pcs e x, f.p (fun b => b < w.heap.size) w := fun x hx => by
     obtain ⟨i, hi'⟩ := List.getElem?_of_mem hx
     have := hlp i x hi'
     exact ⟨this.1, this.2.1, this.2.2.2⟩
    refine ⟨.sl (some a) cap l, by unfold Tr.of; exact ⟨some a, cap, l, rfl, fun h => by (cases h), by omega, hm, fun x hx => (hall x hx).1⟩, by simp [Tr.cells, hll], rfl, by rw [hx0]; simp [rel, hll], fun f hf => ?_⟩
    rw [pcs, List.mem_cons] at hf
    rcases hf with rfl | hf
    ·intro hne
     have hlp' : ∀ q x, (l.map Tr.cells)[q]? = some x → ∀ k u, x[k]? = some u → w.cell? (a.add (q * e.sz + k)) = some u := fun q x hq k u hk => by
      rw [List.getElem?_map] at hq
      cases hlq : l[q]? with
      | none => simp [hlq] at hq
      | some tr =>
       simp [hlq] at hq
       subst hq
       exact (hlp q tr hlq).2.2.1 k u hk
     refine ⟨a, rfl, ?_, hlp'⟩
     have h0 : l ≠ [] := fun h => hne (by simp [h])
     obtain ⟨x0, hx0⟩ : ∃ x0, l[0]? = some x0 := ⟨l[0]'(List.length_pos_iff.2 h0), List.getElem?_eq_getElem _⟩
     have hx := hlp 0 x0 hx0
     have hx1 : 0 < x0.cells.length := by rw [hx.2.1]; exact hpos
     have := cell_lt (hx.2.2.1 0 _ (List.getElem?_eq_getElem hx1))
     rwa [block_of_add] at this
    ·rw [List.mem_flatMap] at hf
     obtain ⟨x, hx, hf⟩ := hf
     exact (hall x hx).2.2 f hf
 | .agg fs, t, fuel, cs, x, hb, h => by
  cases hu : P.underlying t with
  | none => simp [shpB, hu] at hb
  | some D =>
   cases D <;> simp [shpB, hu] at hb
   rename_i fl
   obtain ⟨hf, hsz⟩ := hb
   obtain ⟨xs, n, _, hx0, hcl, hxl, hat⟩ := DataW.trod_struct hu h
   obtain ⟨l, h1, h2, hr, h3⟩ := open_fieldsM fs 0 fl.toList xs n cs hf (fun i f hif => hat i f (by simpa using hif)) (by simpa using hxl) (by rw [hcl, hsz]; simp)
   exact ⟨.agg l, by unfold Tr.of; exact ⟨l, rfl, h1⟩, by simpa [Tr.cells] using h2, by rw [hcl, hsz]; rfl, by rw [hx0]; exact hr, fun e he => h3 e (by simpa [pcs] using he)⟩
theorem open_fieldsM : ∀ (fs : List Shp) (off : Nat) (fl : List Field) (xs : List (DataW H × List MemPlace)) (n : Nat) (cs : List Value), fieldsB P off fl fs = true →
  (∀ (i : Nat) (f : Field), fl[i]? = some f → DataW.trod enc P w base spare held n f.type ((cs.drop f.offset).take (P.cellsOf f.type)) = xs[i]?) → xs.length = fl.length → cs.length = off + szAll fs →
  ∃ l, ofAll fs l ∧ cs.drop off = cellsAll l ∧ relAll l (xs.map (·.1)) ∧ ∀ e ∈ pcsAll fs l, e.p (fun b => b < w.heap.size) w
 | [], off, fl, xs, n, cs, hb, _, hxl, hl => ⟨[], by unfold ofAll; rfl, by simp [szAll] at hl; simp [cellsAll, hl], by
   have : fl = [] := by simpa [fieldsB] using hb
   subst this
   have : xs = [] := by simpa using hxl
   subst this
   exact (show relAll [] [] from rfl), fun e he => by simp [pcsAll] at he⟩
 | s :: ss, off, fl, xs, n, cs, hb, hat, hxl, hl => by
  cases fl with
  | nil => simp [fieldsB] at hb
  | cons f fl =>
   simp only [fieldsB, Bool.and_eq_true] at hb
   obtain ⟨⟨⟨h1, h2⟩, h3⟩, h4⟩ := hb
   have h1 := Nat.eq_of_beq_eq_true h1
   have h2 := Nat.eq_of_beq_eq_true h2
   cases xs with
   | nil => simp at hxl
   | cons y ys =>
    have h0 := hat 0 f rfl
    simp at h0
    obtain ⟨tr, a1, a2, a3, a5, a4⟩ := open_shpM s f.type n _ y h3 h0
    obtain ⟨l, b1, b2, b5, b3⟩ := open_fieldsM ss (off + s.sz) fl ys n cs h4 (fun i g hi => by have := hat (i + 1) g (by simpa using hi); simpa using this) (by simpa using hxl) (by rw [hl]; simp only [szAll]; omega)
    refine ⟨tr :: l, by unfold ofAll; exact ⟨tr, l, rfl, a1, b1⟩, ?_, ⟨a5, b5⟩, fun e he => ?_⟩
    ·rw [cellsAll, ← a2, ← b2, h1, h2, ← List.drop_drop]
     exact (List.take_append_drop _ _).symm
    ·rw [pcsAll, List.mem_append] at he
     exact he.elim (a4 e) (b3 e)
end
theorem open_argsM {r : Reach} {b0 : Nat} : ∀ (ss : List Shp) (ts : List TypeId) (vs : List Value) (ds : List (DataW H)) (ps : List MemPlace), argsB P ts ss = true →
  (∀ (j : Nat) t v, ts[j]? = some t → vs[j]? = some v → Value.okWide P w r b0 t v) → DataW.TrodAll enc P w base spare held ts vs ds ps →
  ∃ l, ofAll ss l ∧ vs = l.map Tr.val ∧ ds.length = ss.length ∧ relAll l ds ∧ ∀ e ∈ pcsAll ss l, e.p (fun b => b < w.heap.size) w
 | [], ts, vs, ds, ps, hb, hv, h => by
  cases ts with
  | cons _ _ => simp [argsB] at hb
  | nil =>
   obtain ⟨rfl, rfl, rfl⟩ := trodAll_nil h
   exact ⟨[], by unfold ofAll; rfl, rfl, rfl, rfl, fun e he => by simp [pcsAll] at he⟩
 | s :: ss, ts, vs, ds, ps, hb, hv, h => by
  cases ts with
  | nil => simp [argsB] at hb
  | cons t ts =>
   simp only [argsB, Bool.and_eq_true] at hb
   obtain ⟨v, vs', d, ds', p, q, rfl, rfl, rfl, ⟨fuel, h1⟩, h2⟩ := trodAll_cons h
   obtain ⟨tr, a1, a2, _, a5, a4⟩ := open_shpM s t fuel _ _ hb.1 h1
   obtain ⟨l, b1, b2, b3, b5, b4⟩ := open_argsM ss ts vs' ds' q hb.2 (fun j t v ht hv' => hv (j + 1) t v (by simpa using ht) (by simpa using hv')) h2
   have hval := val_of hb.1 (hv 0 t v rfl rfl) a1 a2
   refine ⟨tr :: l, by unfold ofAll; exact ⟨tr, l, rfl, a1, b1⟩, by simp [hval, b2], by simp [b3], ⟨a5, b5⟩, fun e he => ?_⟩
   rw [pcsAll, List.mem_append] at he
   exact he.elim (a4 e) (b4 e)
end
theorem law_laidM {C : Checked} {os : Os} {f : FuncId} {fn : Func} {s : ChangeSpec} {H : Type} {enc : TypeId × Value → H} (ss : List Shp) (tb : TypeId) (X : World → Prop) (hXh : ∀ w w' : World, w.heap = w'.heap → X w → X w')
  (own : ownKnob C.prog.godebug = none) (started : os.Started) (noInit : C.prog.inits.idxOf? f = none) (hfn : C.prog.funcs[f]? = some fn)
  (witness : ∃ (w : World) (tape : Tape) (i : Input), w.os = os ∧ (w.forCall tape i).Shaped C.prog ∧ i.vars = [] ∧ Input.okWide C.prog (w.forCall tape i) .any w.heap.size f i ∧
   ((s.pre enc C.prog fn [] false (w.forCall tape i).memory i.args ∧ X (w.forCall tape i).memory) ∧ sizedMet enc C.prog fn (OpenSpec.ofChange s) false (w.forCall tape i).memory i.args) ∧ ({} : Assume).holds C.prog (lone (Frame.enter C.prog f i.args .normal) [] (w.forCall tape i)))
  (hvars : s.vars = []) (hsp : ∀ ds : List (DataW H), ds.length = ss.length → s.fn H ds = { results := [.lit (.bool true)], args := ds })
  (hss : argsB C.prog fn.params.toList ss = true) (hres : fn.resultTypes = #[tb]) (htb : C.prog.underlying tb = some .bool)
  (hl : laidOutB C.prog = true) (hpar : fn.params.toList.all (fun t => C.prog.readableRec t && decide (t < C.prog.types.size)) = true)
  (Pcs : Int → List SL) (hP : ∀ W : World, W.ShapedOpen C.prog → X W → ∃ m, ∀ e ∈ Pcs m, e.p (fun b => b < W.heap.size) W)
  (walk : ∀ m l (ds : List (DataW H)), ofAll ss l → relAll l ds → (∃ X, (DataW.weightsEach C.prog (fn.params.toList ++ X) ds).all (· ≤ reachBytes) = true) → Tri C.prog f (l.map Tr.val) (Pcs m ++ pcsAll ss l) [] (fun _ : Unit => True) (fun _ => .bool true) (fun _ => [])) :
  ReturnsInHanded {} C os f .any (fun w args => (s.pre enc C.prog fn [] false w args ∧ X w) ∧ sizedMet enc C.prog fn (OpenSpec.ofChange s) false w args) (s.post enc C.prog fn false true false false) := by
 refine returnsInHanded_of_calls own started noInit witness ?_
 intro w tape i _ hsh _ hok hpre hholds
 obtain ⟨_, _, _, fn', hfn', _, _, _, _, hval⟩ := hok
 have e : fn' = fn := Option.some.inj (hfn'.symm.trans hfn)
 subst e
 obtain ⟨⟨⟨ds, gs, before, hw, hc⟩, hX⟩, hz⟩ := hpre
 have hW := DataW.Whole.of_heap (w' := w.forCall tape i) (by rfl) hw
 obtain ⟨m, hm⟩ := hP (w.forCall tape i) hsh (hXh _ _ (by rfl) hX)
 have hwt := hz.weights (show DataW.Whole enc C.prog fn'.params.toList (OpenSpec.ofChange s).vars false _ _ ds gs before from hw)
 generalize w.forCall tape i = W at *
 have key : Calls C.prog f i.args W fun e W' => ∃ v, e = .returned v ∧ s.post enc C.prog fn' false true false false W i.args v W' := by
  have hW' := hW
  obtain ⟨p, q, hA, hV, hpq, hfz, _⟩ := hW
  rw [hvars] at hV
  obtain ⟨rfl, rfl⟩ := trodVars_none hV
  simp only [List.append_nil] at hpq hwt
  subst hpq
  obtain ⟨l, h1, h2, h3, h5, h4⟩ := open_argsM ss _ _ _ _ hss (fun j t v ht hv => hval j t v (by simpa using ht) (by simpa using hv)) hA
  have hfit : Fits W (fun _ => False) (Pcs m ++ pcsAll ss l) [] (fun _ => False) W := ⟨Fr.refl _ _, fun _ h => h.elim, fun _ h => h.elim, trivial, fun e he => ⟨fun b => b < W.heap.size, fun b hb => ⟨hb, fun h => h⟩, (List.mem_append.1 he).elim (hm e) (h4 e)⟩⟩
  have hT := walk m l ds h1 h5 ⟨_, hwt⟩ W _ hfit
  rw [← h2, Array.toArray_toList] at hT
  refine hT.mono fun e W' ⟨_, T, _, he, hfx⟩ => ⟨.bool true, he, ?_⟩
  have hb := hfx.fr.toBelow
  refine post_of_below (pa := before) (pv := []) hW' (fun _ _ _ => ?_) (fun sp hsp' => ?_) (fun _ _ => ?_) (by simp) hb ?_
  ·rw [List.append_nil, hsp ds h3, hres]
   exact trodAll_mk1 (shut_bool htb true)
  ·rw [List.append_nil, hsp ds h3]
   exact trodAll_below hl hb hpar hA (fun x hx => hW'.lt x hx) sp hsp'
  ·rw [List.append_nil, hsp ds h3, hvars]
   exact rfl
  ·exact ok_one hres rfl (okWide_bool_mk htb true)
 refine key.mono fun e W' ⟨v, he, hp⟩ => ?_
 subst he
 exact ChangeSpec.post_blind hp
theorem sl_fits {H : Type} {P : Program} {t e : TypeId} {A : Option Addr} {c : Nat} {l : List Tr} {d : DataW H} (ht : P.underlying t = some (.slice e)) (hr : rel (.sl A c l) d) (hw : (d.weights P t).all (· ≤ reachBytes) = true) :
  l.length * P.bytesOf e ≤ reachBytes := by
 unfold rel at hr
 cases d with
 | slice es sp =>
  simp only at hr
  rw [DataW.weights, ht] at hw
  simp only [List.all_cons, Bool.and_eq_true, decide_eq_true_eq] at hw
  exact Nat.le_trans (Nat.mul_le_mul_right _ (by omega)) hw.1
 | nil =>
  simp only at hr
  subst hr
  simp
 | _ => exact hr.elim
end Go.Proofs.YtbhiojedmkcfoaaGreatDoor
