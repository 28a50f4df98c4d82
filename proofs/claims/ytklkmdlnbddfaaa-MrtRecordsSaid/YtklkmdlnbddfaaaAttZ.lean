/- Attributes as they are handed to a law. -/
import Derived.Test.YtklkmdlnbddfaaaAttY
import Derived.Test.YtklkmdlnbddfaaaRow
namespace Go.Proofs.Ytklkmdlnbddfaaa
set_option linter.unusedVariables false
set_option linter.unusedSimpArgs false
open Go.RowKit
attribute [local irreducible] HC HX HO Tri eP adr

def SrcOk (src : List SL) (e : SL) : Prop := (∃ e0 ∈ src, Ent e0 e) ∨ ∃ L, e = inn L ∧ ∀ f ∈ L, ∃ e0 ∈ src, Ent e0 f
theorem Tri_src {P : Program} {g : Nat} {args : List Value} {ro src rw : List SL} {α : Type} {φ : α → Prop} {val : α → Value} {es : α → List SL}
    (h : Tri P g args ro rw φ val es) (hs : ∀ e ∈ ro, SrcOk src e) : Tri P g args src rw φ val es := by
  unfold Tri at h ⊢
  exact fun w S hf => (h w S ⟨hf.fr, hf.lt, hf.sub, hf.star, fun f hm => by
    rcases hs f hm with ⟨e0, he0, hent⟩ | ⟨L, rfl, hL⟩
    · obtain ⟨F, hF, hp⟩ := hf.ros e0 he0
      exact ⟨F, hF, hent _ _ hp⟩
    · exact ⟨fun b => b < w.heap.size ∧ ¬ S b, fun b hb => hb, fun e he => by
        obtain ⟨e0, he0, hent⟩ := hL e he
        obtain ⟨F, hF, hp⟩ := hf.ros e0 he0
        exact ⟨F, hF, hent _ _ hp⟩⟩⟩).mono fun _ w' ⟨x, T, hx, he', hfx⟩ => ⟨x, T, hx, he', hfx.fr, hfx.lt, hfx.sub, hfx.star, fun f hm => by
    obtain ⟨F, hF, hp⟩ := hf.ros f hm
    exact ⟨F, fun b hb => ⟨Nat.lt_of_lt_of_le (hF b hb).1 hfx.fr.size, fun hT => (hfx.sub b hT).elim (hF b hb).2 (fun hge => by have := (hF b hb).1; omega)⟩, f.st F w w' (fun b hb => hfx.fr.block b (hF b hb).1 (hF b hb).2) hp⟩⟩
def segShp : Shp := .agg [.bool, .sl (.int .i64)]
def attShp : Shp := .agg [.int .i64, .sl segShp, .int .u32, .int .i64, .int .i64, .sl (.int .i64)]
def toI : Tr → Int
  | .int _ n => n
  | _ => 0
def toSeg : Tr → SegS
  | .agg [.bool b, .sl A c l] => ⟨b, A, c, l.map toI⟩
  | _ => ⟨false, none, 0, []⟩
theorem int_of {t : Tr} (h : Tr.of (.int .i64) t) : t.cells = iE (toI t) := by
  simp only [Tr.of] at h
  obtain ⟨n, rfl, hw⟩ := h
  simp [Tr.cells, iE, toI]
theorem ints_of {l : List Tr} (h : ∀ x ∈ l, Tr.of (.int .i64) x) : l.map Tr.cells = (l.map toI).map iE := by
  rw [List.map_map]
  exact List.map_congr_left fun x hx => int_of (h x hx)
theorem seg_of {t : Tr} (h : Tr.of segShp t) : t.cells = (toSeg t).e ∧ pcs segShp t = [arr idE 1 (toSeg t).A ((toSeg t).ns.map iE)] := by
  simp only [segShp, Tr.of, ofAll] at h
  obtain ⟨_, rfl, ⟨_, _, rfl, ⟨b, rfl⟩, ⟨_, _, rfl, ⟨A, c, l, rfl, _, _, _, hl⟩, rfl⟩⟩⟩ := h
  have e2 : l.flatMap (pcs (.int .i64)) = [] := List.flatMap_eq_nil_iff.2 fun x _ => by simp [pcs]
  have e := ints_of (fun x hx => by simp only [Tr.of]; exact hl x hx)
  refine ⟨by simp [Tr.cells, cellsAll, toSeg, SegS.e], ?_⟩
  simp [segShp, pcs, pcsAll, toSeg, e, e2, Shp.sz]
/-- the attributes that are handed over -/
def mkA (org : Int) (pA : Option Addr) (pc : Nat) (path : List Tr) (nxt med pref : Int) (cA : Option Addr) (cc : Nat) (comms : List Tr) : AttS := ⟨org, pA, pc, path.map toSeg, nxt, med, pref, cA, cc, comms.map toI⟩
theorem mkA_e (org : Int) (pA : Option Addr) (pc : Nat) (path : List Tr) (nxt med pref : Int) (cA : Option Addr) (cc : Nat) (comms : List Tr) :
    (mkA org pA pc path nxt med pref cA cc comms).e = [.int .i64 org, .slice pA path.length pc, .int .u32 nxt, .int .i64 med, .int .i64 pref, .slice cA comms.length cc] := by simp [mkA, AttS.e]
theorem mkA_src {src : List SL} {org : Int} {pA : Option Addr} {pc : Nat} {path : List Tr} {nxt med pref : Int} {cA : Option Addr} {cc : Nat} {comms : List Tr} (hp : ∀ x ∈ path, Tr.of segShp x) (hc : ∀ x ∈ comms, Tr.of (.int .i64) x)
    (h1 : arr idE 2 pA (path.map Tr.cells) ∈ src) (h2 : ∀ e ∈ path.flatMap (pcs segShp), e ∈ src) (h3 : arr idE 1 cA (comms.map Tr.cells) ∈ src) : ∀ e ∈ (mkA org pA pc path nxt med pref cA cc comms).ro, SrcOk src e := fun e he => by
  have e1 : path.map Tr.cells = (path.map toSeg).map SegS.e := by
    rw [List.map_map]
    exact List.map_congr_left fun x hx => (seg_of (hp x hx)).1
  rw [e1] at h1
  rw [ints_of hc] at h3
  simp only [AttS.ro, mkA, List.mem_cons, List.not_mem_nil, or_false] at he
  rcases he with rfl | rfl | rfl
  · refine .inr ⟨_, rfl, fun f hf => ?_⟩
    obtain ⟨s, hs, rfl⟩ := List.mem_map.1 hf
    obtain ⟨t, ht, rfl⟩ := List.mem_map.1 hs
    exact ⟨_, h2 _ (List.mem_flatMap.2 ⟨t, ht, by rw [(seg_of (hp t ht)).2]; exact List.mem_singleton.2 rfl⟩), arr_typed _⟩
  · exact .inl ⟨_, h1, arr_typed _⟩
  · exact .inl ⟨_, h3, arr_typed _⟩
theorem SrcOk.mono {src src' : List SL} {e : SL} (h : SrcOk src e) (hs : ∀ f ∈ src, f ∈ src') : SrcOk src' e := by
  rcases h with ⟨e0, h0, he⟩ | ⟨L, rfl, hL⟩
  · exact .inl ⟨e0, hs _ h0, he⟩
  · exact .inr ⟨L, rfl, fun f hf => let ⟨e0, h0, he⟩ := hL f hf; ⟨e0, hs _ h0, he⟩⟩
/-- what is read of the attributes that are handed over -/
def attPcs (pA : Option Addr) (path : List Tr) (cA : Option Addr) (comms : List Tr) : List SL := arr idE 2 pA (path.map Tr.cells) :: (path.flatMap (pcs segShp) ++ (arr idE 1 cA (comms.map Tr.cells) :: (comms.flatMap (pcs (.int .i64)) ++ [])))
theorem mkA_ok (org : Int) (pA : Option Addr) (pc : Nat) (path : List Tr) (nxt med pref : Int) (cA : Option Addr) (cc : Nat) (comms : List Tr) (hp : ∀ x ∈ path, Tr.of segShp x) (hc : ∀ x ∈ comms, Tr.of (.int .i64) x) :
    ∀ e ∈ (mkA org pA pc path nxt med pref cA cc comms).ro, SrcOk (attPcs pA path cA comms) e :=
  mkA_src hp hc List.mem_cons_self (fun e he => List.mem_cons_of_mem _ (List.mem_append.2 (.inl he))) (List.mem_cons_of_mem _ (List.mem_append.2 (.inr List.mem_cons_self)))
end Go.Proofs.Ytklkmdlnbddfaaa
