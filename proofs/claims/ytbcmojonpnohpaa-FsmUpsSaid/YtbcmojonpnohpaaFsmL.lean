/- The events that the law FsmUps is handed, as they are read. -/
import Derived.Test.YtbcmojonpnohpaaFsmK
import Derived.Test.YtbcmojonpnohpaaRow
namespace Go.Proofs.Ytbcmojonpnohpaa
set_option linter.unusedVariables false
set_option linter.unusedSimpArgs false
open Go.RowKit
attribute [local irreducible] HC HX HO Tri eP

def evShp : Shp := .agg [.int .i64, .agg [.int .i64, .int .i64, .int .u32, .bool, .int .i64], .agg [.int .i64, .int .i64, .sl (.int .u8)]]
def toB : Tr → UInt8
  | .int _ n => UInt8.ofNat n.toNat
  | _ => 0
def toEv : Tr → EvS
  | .agg [.int _ k, .agg [.int _ a, .int _ h, .int _ i, .bool f, .int _ p], .agg [.int _ c, .int _ s, .sl A cap d]] => ⟨k, a, h, i, f, p, c, s, A, cap, d.map toB⟩
  | _ => ⟨0, 0, 0, 0, false, 0, 0, 0, none, 0, []⟩
theorem byte_of {t : Tr} (h : Tr.of (.int .u8) t) : t.cells = bE (toB t) := by
  simp only [Tr.of] at h
  obtain ⟨n, rfl, hw⟩ := h
  have h1 : 0 ≤ n ∧ n ≤ 255 := wf_u8 hw
  have : ((n.toNat % 256 : Nat) : Int) = n := by omega
  simp [Tr.cells, bE, toB, this]
theorem ev_of {t : Tr} (h : Tr.of evShp t) : t.cells = (toEv t).c ∧ pcs evShp t = [arr idE 1 (toEv t).dA ((toEv t).data.map bE)] := by
  simp only [evShp, Tr.of, ofAll] at h
  obtain ⟨_, rfl, ⟨_, _, rfl, ⟨k, rfl, _⟩, ⟨_, _, rfl, ⟨_, rfl, ⟨_, _, rfl, ⟨a, rfl, _⟩, ⟨_, _, rfl, ⟨hh, rfl, _⟩, ⟨_, _, rfl, ⟨i, rfl, _⟩, ⟨_, _, rfl, ⟨f, rfl⟩, ⟨_, _, rfl, ⟨p, rfl, _⟩, rfl⟩⟩⟩⟩⟩⟩,
    ⟨_, _, rfl, ⟨_, rfl, ⟨_, _, rfl, ⟨c, rfl, _⟩, ⟨_, _, rfl, ⟨s, rfl, _⟩, ⟨_, _, rfl, ⟨A, cap, d, rfl, _, _, _, hd⟩, rfl⟩⟩⟩⟩, rfl⟩⟩⟩⟩ := h
  have e : d.map Tr.cells = (d.map toB).map bE := by
    rw [List.map_map]
    refine List.map_congr_left fun x hx => ?_
    exact byte_of (by simp only [Tr.of]; exact hd x hx)
  have e2 : d.flatMap (pcs (.int .u8)) = [] := List.flatMap_eq_nil_iff.2 fun x _ => by simp [pcs]
  refine ⟨by simp [Tr.cells, cellsAll, toEv, EvS.c], ?_⟩
  simp [evShp, pcs, pcsAll, toEv, e, Shp.sz]
theorem AllSrc.of {src : List SL} : ∀ {l : List SL}, (∀ e ∈ l, ∃ e0 ∈ src, Ent e0 e) → AllSrc src l
  | [], _ => trivial
  | e :: l, h => ⟨.inl (h e (by simp)), AllSrc.of fun f hf => h f (by simp [hf])⟩
theorem ups_row (l : Loc) (A : Option Addr) (c : Nat) (evs : List Tr) (hm : evs.length ≤ maxLen) (hw : ∀ x ∈ evs, Tr.of evShp x) :
    Tri Try.prog 3 [.agg l.c.toArray, .slice A evs.length c] (arr idE 9 A (evs.map Tr.cells) :: (evs.flatMap (pcs evShp) ++ [])) [] (fun _ : Unit => True) (fun _ => .bool true) (fun _ => []) := by
  rw [List.append_nil]
  have h1 := Tri_inn (ups_t l A evs.length c (evs.map toEv) (by simp) (by simpa using hm))
  refine Tri_ro h1 (AllSrc.of fun e he => ?_)
  rcases List.mem_append.1 he with he | he
  · rw [List.map_map, List.mem_map] at he
    obtain ⟨x, hx, rfl⟩ := he
    exact ⟨_, List.mem_cons_of_mem _ (List.mem_flatMap.2 ⟨x, hx, by rw [(ev_of (hw x hx)).2]; exact List.mem_singleton.2 rfl⟩), arr_typed _⟩
  · have e1 : (evs.map toEv).map EvS.c = evs.map Tr.cells := by
      rw [List.map_map]
      exact List.map_congr_left fun x hx => ((ev_of (hw x hx)).1).symm
    rw [e1] at he
    rw [List.mem_singleton.1 he]
    exact ⟨_, List.mem_cons_self, Ent.rfl_⟩
end Go.Proofs.Ytbcmojonpnohpaa
