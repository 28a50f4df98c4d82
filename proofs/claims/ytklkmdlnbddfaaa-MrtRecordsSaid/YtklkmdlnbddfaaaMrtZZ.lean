/- Dumps as they are handed to the law MrtRecords -/
import Derived.Test.YtklkmdlnbddfaaaMrtW
import Derived.Test.YtklkmdlnbddfaaaAttZ
import Derived.Test.YtklkmdlnbddfaaaMrtU
namespace Go.Proofs.Ytklkmdlnbddfaaa
set_option linter.unusedVariables false
set_option linter.unusedSimpArgs false
open Go.RowKit
attribute [local irreducible] HC HX HO Tri eP adr

def toB35 : Tr → UInt8
  | .int _ n => UInt8.ofNat n.toNat
  | _ => 0
theorem byte_of35 {t : Tr} (h : Tr.of (.int .u8) t) : t.cells = bE (toB35 t) := by
  simp only [Tr.of] at h
  obtain ⟨n, rfl, hw⟩ := h
  have h1 : 0 ≤ n ∧ n ≤ 255 := wf_u8 hw
  have : ((n.toNat % 256 : Nat) : Int) = n := by omega
  simp [Tr.cells, bE, toB35, this]
theorem bytes_of35 {l : List Tr} (h : ∀ x ∈ l, Tr.of (.int .u8) x) : l.map Tr.cells = (l.map toB35).map bE := by
  rw [List.map_map]
  exact List.map_congr_left fun x hx => byte_of35 (h x hx)
def peShp : Shp := .agg [.int .u32, .int .u32, .int .i64]
def toPe : Tr → PeS
  | .agg [.int _ i, .int _ a, .int _ n] => ⟨i.toNat, a.toNat, n⟩
  | _ => ⟨0, 0, 0⟩
theorem pe_of {t : Tr} (h : Tr.of peShp t) : t.cells = (toPe t).e ∧ (toPe t).id < 4294967296 ∧ (toPe t).ad < 4294967296 := by
  simp only [peShp, Tr.of, ofAll] at h
  obtain ⟨_, rfl, ⟨_, _, rfl, ⟨i, rfl, wi⟩, ⟨_, _, rfl, ⟨a, rfl, wa⟩, ⟨_, _, rfl, ⟨n, rfl, wn⟩, rfl⟩⟩⟩⟩ := h
  have h1 := wf_u32 wi
  have h2 := wf_u32 wa
  obtain ⟨k, rfl⟩ : ∃ k : Nat, i = k := ⟨i.toNat, by omega⟩
  obtain ⟨m, rfl⟩ : ∃ k : Nat, a = k := ⟨a.toNat, by omega⟩
  refine ⟨by simp [Tr.cells, cellsAll, toPe, PeS.e], ?_, ?_⟩
  · show ((k : Int)).toNat < 4294967296
    omega
  · show ((m : Int)).toNat < 4294967296
    omega
theorem pes_of {l : List Tr} (h : ∀ x ∈ l, Tr.of peShp x) : l.map Tr.cells = (l.map toPe).map PeS.e := by
  rw [List.map_map]
  exact List.map_congr_left fun x hx => (pe_of (h x hx)).1
def rtShp : Shp := .agg [.agg [.int .i64, .agg [.int .u32, .int .i64], .int .i64], attShp]
def toAt : Tr → AttS
  | .agg [.int _ o, .sl pA pc p, .int _ nx, .int _ m, .int _ pf, .sl cA cc cs] => mkA o pA pc p nx m pf cA cc cs
  | _ => mkA 0 none 0 [] 0 0 0 none 0 []
def toRt : Tr → RtS
  | .agg [.agg [.int _ r, .agg [.int _ a, .int _ n], .int _ i], t] => ⟨r, a.toNat, n, i, toAt t⟩
  | _ => ⟨0, 0, 0, 0, toAt (.bool false)⟩
theorem rt_of {t : Tr} (h : Tr.of rtShp t) : t.cells = (toRt t).e ∧ ((toRt t).a < 4294967296 ∧ 0 ≤ (toRt t).at_.nxt ∧ (toRt t).at_.nxt ≤ 4294967295) ∧ ∀ f ∈ rtPs1 (toRt t), ∃ e0 ∈ pcs rtShp t, Ent e0 f := by
  simp only [rtShp, attShp, Tr.of, ofAll] at h
  obtain ⟨_, rfl, ⟨_, _, rfl, ⟨_, rfl, ⟨_, _, rfl, ⟨r, rfl, wr⟩, ⟨_, _, rfl, ⟨_, rfl, ⟨_, _, rfl, ⟨a, rfl, wa⟩, ⟨_, _, rfl, ⟨n, rfl, wn⟩, rfl⟩⟩⟩, ⟨_, _, rfl, ⟨i, rfl, wi⟩, rfl⟩⟩⟩⟩, ⟨_, _, rfl, ⟨_, rfl, ⟨_, _, rfl, ⟨o, rfl, wo⟩, ⟨_, _, rfl, ⟨pA, pc, p, rfl, _, _, _, hp⟩, ⟨_, _, rfl, ⟨nx, rfl, wx⟩, ⟨_, _, rfl, ⟨m, rfl, wm⟩, ⟨_, _, rfl, ⟨pf, rfl, wpf⟩, ⟨_, _, rfl, ⟨cA, cc, cs, rfl, _, _, _, hc⟩, rfl⟩⟩⟩⟩⟩⟩⟩, rfl⟩⟩⟩ := h
  have h1 := wf_u32 wa
  have h2 := wf_u32 wx
  obtain ⟨k, rfl⟩ : ∃ k : Nat, a = k := ⟨a.toNat, by omega⟩
  have hps : ∀ x ∈ p, Tr.of segShp x := fun x hx => by simp only [segShp, Tr.of, ofAll]; exact hp x hx
  have hcs : ∀ x ∈ cs, Tr.of (.int .i64) x := fun x hx => by simp only [Tr.of]; exact hc x hx
  refine ⟨by simp [Tr.cells, cellsAll, toRt, toAt, RtS.e, mkA], ⟨?_, ?_⟩, ?_⟩
  · show ((k : Int)).toNat < 4294967296
    omega
  · exact h2
  · have hok := mkA_ok o pA pc p nx m pf cA cc cs hps hcs
    have hsub : ∀ e ∈ attPcs pA p cA cs, e ∈ pcs rtShp (.agg [.agg [.int .i64 r, .agg [.int .u32 k, .int .i64 n], .int .i64 i], .agg [.int .i64 o, .sl pA pc p, .int .u32 nx, .int .i64 m, .int .i64 pf, .sl cA cc cs]]) := fun e he => by
      show e ∈ attPcs pA p cA cs ++ []
      exact List.mem_append.2 (.inl he)
    intro f hf
    have hf : f ∈ segPs (p.map toSeg) ++ [arr SegS.e 2 pA (p.map toSeg), arr iE 1 cA (cs.map toI)] := hf
    have e1 : p.map Tr.cells = (p.map toSeg).map SegS.e := by
      rw [List.map_map]
      exact List.map_congr_left fun x hx => (seg_of (hps x hx)).1
    rcases List.mem_append.1 hf with hf | hf
    · obtain ⟨s, hs, rfl⟩ := List.mem_map.1 hf
      obtain ⟨t, ht, rfl⟩ := List.mem_map.1 hs
      exact ⟨_, hsub _ (List.mem_cons_of_mem _ (List.mem_append.2 (.inl (List.mem_flatMap.2 ⟨t, ht, by rw [(seg_of (hps t ht)).2]; exact List.mem_singleton.2 rfl⟩)))), arr_typed _⟩
    rcases List.mem_cons.1 hf with rfl | hf
    · refine ⟨_, hsub _ List.mem_cons_self, ?_⟩
      rw [e1]
      exact arr_typed _
    · rw [List.mem_singleton.1 hf]
      refine ⟨_, hsub _ (List.mem_cons_of_mem _ (List.mem_append.2 (.inr List.mem_cons_self))), ?_⟩
      rw [ints_of hcs]
      exact arr_typed _
theorem rts_of {l : List Tr} (h : ∀ x ∈ l, Tr.of rtShp x) : l.map Tr.cells = (l.map toRt).map RtS.e := by
  rw [List.map_map]
  exact List.map_congr_left fun x hx => (rt_of (h x hx)).1
/-- the dump that is handed over -/
def mkD (t : Int) (id : Nat) (pA : Option Addr) (pc : Nat) (peers : List Tr) (rA : Option Addr) (rc : Nat) (routes : List Tr) : DuS := ⟨t, id, pA, pc, peers.map toPe, rA, rc, routes.map toRt⟩
theorem mkD_e (t : Int) (id : Nat) (pA : Option Addr) (pc : Nat) (peers : List Tr) (rA : Option Addr) (rc : Nat) (routes : List Tr) : (mkD t id pA pc peers rA rc routes).e = [.int .i64 t, .int .u32 id, .slice pA peers.length pc, .slice rA routes.length rc] := by simp [mkD, DuS.e]
@[reducible] def dumpPcs (pA : Option Addr) (peers : List Tr) (rA : Option Addr) (routes : List Tr) : List SL := (arr idE 3 pA (peers.map Tr.cells) :: peers.flatMap (pcs peShp)) ++ ((arr idE 10 rA (routes.map Tr.cells) :: routes.flatMap (pcs rtShp)) ++ [])
theorem mkD_ok (t : Int) (id : Nat) (pA : Option Addr) (pc : Nat) (peers : List Tr) (rA : Option Addr) (rc : Nat) (routes : List Tr) (hp : ∀ x ∈ peers, Tr.of peShp x) (hr : ∀ x ∈ routes, Tr.of rtShp x) :
    ∀ e ∈ (mkD t id pA pc peers rA rc routes).ro, SrcOk (dumpPcs pA peers rA routes) e := fun e he => by
  rcases List.mem_cons.1 he with rfl | he
  · refine .inl ⟨_, List.mem_append.2 (.inl List.mem_cons_self), ?_⟩
    rw [pes_of hp]
    exact arr_typed _
  rcases List.mem_cons.1 he with rfl | he
  · refine .inl ⟨_, List.mem_append.2 (.inr (List.mem_append.2 (.inl List.mem_cons_self))), ?_⟩
    rw [rts_of hr]
    exact arr_typed _
  · rw [List.mem_singleton.1 he]
    refine .inr ⟨_, rfl, fun f hf => ?_⟩
    obtain ⟨x, hx, hf⟩ := List.mem_flatMap.1 hf
    obtain ⟨u, hu, rfl⟩ := List.mem_map.1 hx
    obtain ⟨e0, h0, hent⟩ := (rt_of (hr u hu)).2.2 f hf
    exact ⟨e0, List.mem_append.2 (.inr (List.mem_append.2 (.inl (List.mem_cons_of_mem _ (List.mem_flatMap.2 ⟨u, hu, h0⟩))))), hent⟩
theorem mkD_v {t : Int} {id : Nat} {pA : Option Addr} {pc : Nat} {peers : List Tr} {rA : Option Addr} {rc : Nat} {routes : List Tr} (hp : ∀ x ∈ peers, Tr.of peShp x) (hr : ∀ x ∈ routes, Tr.of rtShp x) (hi : id < 4294967296) (hc : routes.length ≤ rc) : DuV (mkD t id pA pc peers rA rc routes) := by
  refine ⟨fun x hx => ?_, hi, fun x hx => ?_, ?_⟩
  · obtain ⟨u, hu, rfl⟩ := List.mem_map.1 hx
    exact (rt_of (hr u hu)).2.1
  · obtain ⟨u, hu, rfl⟩ := List.mem_map.1 hx
    exact (pe_of (hp u hu)).2
  · show (routes.map toRt).length ≤ rc
    rw [List.length_map]
    exact hc
theorem mrec_row (dA : Option Addr) (dc : Nat) (data : List Tr) (hdc : data.length ≤ dc) (hd : ∀ x ∈ data, Tr.of (.int .u8) x) (t id : Int) (hi : 0 ≤ id ∧ id ≤ 4294967295) (pA : Option Addr) (pc : Nat) (peers : List Tr) (rA : Option Addr) (rc : Nat) (routes : List Tr) (hp : ∀ x ∈ peers, Tr.of peShp x) (hr : ∀ x ∈ routes, Tr.of rtShp x) (hc : routes.length ≤ rc) :
    Tri Try.prog 12 [.slice dA data.length dc, .agg #[.int .i64 t, .int .u32 id, .slice pA peers.length pc, .slice rA routes.length rc]]
      ((arr idE 1 dA (data.map Tr.cells) :: data.flatMap (pcs (.int .u8))) ++ (dumpPcs pA peers rA routes ++ [])) [] (fun _ : Unit => True) (fun _ => .bool true) (fun _ => []) := by
  obtain ⟨k, rfl⟩ : ∃ k : Nat, id = k := ⟨id.toNat, by omega⟩
  have h := mlaw1_t dA dc (data.map toB35) (by rw [List.length_map]; exact hdc) (mkD t k pA pc peers rA rc routes) (mkD_v hp hr (by omega) hc)
  rw [mkD_e, List.length_map] at h
  refine Tri_src h fun e he => ?_
  rcases List.mem_cons.1 he with rfl | he
  · refine .inl ⟨_, List.mem_append.2 (.inl List.mem_cons_self), ?_⟩
    rw [bytes_of35 hd]
    exact arr_typed _
  · exact (mkD_ok t k pA pc peers rA rc routes hp hr e he).mono fun f hf => List.mem_append.2 (.inr (List.mem_append.2 (.inl hf)))
end Go.Proofs.Ytklkmdlnbddfaaa
