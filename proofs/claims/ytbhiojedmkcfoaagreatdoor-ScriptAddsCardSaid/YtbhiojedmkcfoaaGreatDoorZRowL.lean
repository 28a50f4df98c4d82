/- Part of a proof of many texts: what the theorem at its end leans on. -/
import Derived.Test.YtbhiojedmkcfoaaGreatDoorRows
import Derived.Test.YtbhiojedmkcfoaaGreatDoorZRow
import Derived.Test.YtbhiojedmkcfoaaGreatDoorZKc
import Derived.HandedShaped
import Derived.LaidLaws
import Derived.Lay
import Derived.MakeChecks
import Derived.Lib.LaidTab
import Derived.Shelf.Vars
namespace Go.Proofs.YtbhiojedmkcfoaaGreatDoor
set_option linter.unusedVariables false
set_option linter.unusedSimpArgs false
open Go.RowKit Go.ChangeShapes Go.WideShapes Go.Deep
theorem law_laid {C : Checked} {os : Os} {f : FuncId} {fn : Func} {s : ChangeSpec} {H : Type} {enc : TypeId × Value → H} (ss : List Shp) (tb : TypeId) (X : World → Prop) (hXh : ∀ w w' : World, w.heap = w'.heap → X w → X w')
  (own : ownKnob C.prog.godebug = none) (started : os.Started) (noInit : C.prog.inits.idxOf? f = none) (hfn : C.prog.funcs[f]? = some fn)
  (witness : ∃ (w : World) (tape : Tape) (i : Input), w.os = os ∧ (w.forCall tape i).Shaped C.prog ∧ i.vars = [] ∧ Input.okWide C.prog (w.forCall tape i) .any w.heap.size f i ∧
   ((s.pre enc C.prog fn [] false (w.forCall tape i).memory i.args ∧ X (w.forCall tape i).memory) ∧ sizedMet enc C.prog fn (OpenSpec.ofChange s) false (w.forCall tape i).memory i.args) ∧ ({} : Assume).holds C.prog (lone (Frame.enter C.prog f i.args .normal) [] (w.forCall tape i)))
  (hvars : s.vars = []) (hsp : ∀ ds : List (DataW H), ds.length = ss.length → s.fn H ds = { results := [.lit (.bool true)], args := ds })
  (hss : argsB C.prog fn.params.toList ss = true) (hres : fn.resultTypes = #[tb]) (htb : C.prog.underlying tb = some .bool)
  (hl : laidOutB C.prog = true) (hpar : fn.params.toList.all (fun t => C.prog.readableRec t && decide (t < C.prog.types.size)) = true)
  (Pcs : Int → List SL) (hP : ∀ W : World, W.ShapedOpen C.prog → X W → ∃ m, ∀ e ∈ Pcs m, e.p (fun b => b < W.heap.size) W)
  (walk : ∀ m l, ofAll ss l → Tri C.prog f (l.map Tr.val) (Pcs m ++ pcsAll ss l) [] (fun _ : Unit => True) (fun _ => .bool true) (fun _ => [])) :
  ReturnsInHanded {} C os f .any (fun w args => (s.pre enc C.prog fn [] false w args ∧ X w) ∧ sizedMet enc C.prog fn (OpenSpec.ofChange s) false w args) (s.post enc C.prog fn false true false false) := by
 refine returnsInHanded_of_calls own started noInit witness ?_
 intro w tape i _ hsh _ hok hpre hholds
 obtain ⟨_, _, _, fn', hfn', _, _, _, _, hval⟩ := hok
 have e : fn' = fn := Option.some.inj (hfn'.symm.trans hfn)
 subst e
 obtain ⟨⟨⟨ds, gs, before, hw, hc⟩, hX⟩, hz⟩ := hpre
 have hW := DataW.Whole.of_heap (w' := w.forCall tape i) (by rfl) hw
 obtain ⟨m, hm⟩ := hP (w.forCall tape i) hsh (hXh _ _ (by rfl) hX)
 generalize w.forCall tape i = W at *
 have key : Calls C.prog f i.args W fun e W' => ∃ v, e = .returned v ∧ s.post enc C.prog fn' false true false false W i.args v W' := by
  have hW' := hW
  obtain ⟨p, q, hA, hV, hpq, hfz, _⟩ := hW
  rw [hvars] at hV
  obtain ⟨rfl, rfl⟩ := trodVars_none hV
  simp only [List.append_nil] at hpq
  subst hpq
  obtain ⟨l, h1, h2, h3, h4⟩ := open_args ss _ _ _ _ hss (fun j t v ht hv => hval j t v (by simpa using ht) (by simpa using hv)) hA
  have hfit : Fits W (fun _ => False) (Pcs m ++ pcsAll ss l) [] (fun _ => False) W := ⟨Fr.refl _ _, fun _ h => h.elim, fun _ h => h.elim, trivial, fun e he => ⟨fun b => b < W.heap.size, fun b hb => ⟨hb, fun h => h⟩, (List.mem_append.1 he).elim (hm e) (h4 e)⟩⟩
  have hT := walk m l h1 W _ hfit
  rw [← h2, Array.toArray_toList] at hT
  refine hT.mono fun e W' ⟨_, T, _, he, hfx⟩ => ⟨.bool true, he, ?_⟩
  have hb := hfx.fr.toBelow
  refine post_of_below (pa := before) (pv := []) hW' (fun _ _ _ => ?_) (fun sp hsp' => ?_) (fun _ _ => ?_) (by simp) hb ?_
  ·rw [List.append_nil, hsp ds h3, hres]
   exact trodAll_mk1 (shut_bool htb true)
  ·rw [List.append_nil, hsp ds h3]
   exact trodAll_below hl hb hpar hA (fun x hx => hW'.lt x hx) sp hsp'
  ·rw [List.append_nil, hsp ds h3, hvars]
   exact rfl
  ·exact ok_one hres rfl (okWide_bool_mk htb true)
 refine key.mono fun e W' ⟨v, he, hp⟩ => ?_
 subst he
 exact ChangeSpec.post_blind hp
end Go.Proofs.YtbhiojedmkcfoaaGreatDoor
