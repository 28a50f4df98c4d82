/- Updates as they are handed to a law. -/
import Derived.Test.YtklkmdlnbddfaaaUpdL1
import Derived.Test.YtklkmdlnbddfaaaAttZ
namespace Go.Proofs.Ytklkmdlnbddfaaa
set_option linter.unusedVariables false
set_option linter.unusedSimpArgs false
open Go.RowKit
attribute [local irreducible] HC HX HO Tri eP adr

def nlShp : Shp := .agg [.int .i64, .agg [.int .u32, .int .i64]]
def toNl : Tr → Nl
  | .agg [.int _ i, .agg [.int _ a, .int _ n]] => ⟨i, a.toNat, n⟩
  | _ => ⟨0, 0, 0⟩
theorem nl_of {t : Tr} (h : Tr.of nlShp t) : t.cells = (toNl t).e ∧ (toNl t).a < 4294967296 ∧ pcs nlShp t = [] := by
  simp only [nlShp, Tr.of, ofAll] at h
  obtain ⟨_, rfl, ⟨_, _, rfl, ⟨i, rfl, wi⟩, ⟨_, _, rfl, ⟨_, rfl, ⟨_, _, rfl, ⟨a, rfl, wa⟩, ⟨_, _, rfl, ⟨n, rfl, wn⟩, rfl⟩⟩⟩, rfl⟩⟩⟩ := h
  have hw := wf_u32 wa
  obtain ⟨k, rfl⟩ : ∃ k : Nat, a = k := ⟨a.toNat, by omega⟩
  refine ⟨by simp [Tr.cells, cellsAll, toNl, Nl.e], ?_, by simp [nlShp, pcs, pcsAll]⟩
  show ((k : Int)).toNat < 4294967296
  omega
theorem nls_of {l : List Tr} (h : ∀ x ∈ l, Tr.of nlShp x) : l.map Tr.cells = (l.map toNl).map Nl.e ∧ NlsOk (l.map toNl) := by
  constructor
  · rw [List.map_map]
    exact List.map_congr_left fun x hx => (nl_of (h x hx)).1
  · intro x hx
    obtain ⟨t, ht, rfl⟩ := List.mem_map.1 hx
    exact (nl_of (h t ht)).2.1
/-- the update that is handed over -/
def mkU (gA : Option Addr) (gc : Nat) (gone : List Tr) (rA : Option Addr) (rc : Nat) (routes : List Tr) (a : AttS) (soft : Bool) : UpS := ⟨gA, gc, gone.map toNl, rA, rc, routes.map toNl, a, soft⟩
theorem mkU_e (gA : Option Addr) (gc : Nat) (gone : List Tr) (rA : Option Addr) (rc : Nat) (routes : List Tr) (org : Int) (pA : Option Addr) (pc : Nat) (path : List Tr) (nxt med pref : Int) (cA : Option Addr) (cc : Nat) (comms : List Tr) (soft : Bool) :
    (mkU gA gc gone rA rc routes (mkA org pA pc path nxt med pref cA cc comms) soft).e = [.slice gA gone.length gc, .slice rA routes.length rc, .int .i64 org, .slice pA path.length pc, .int .u32 nxt, .int .i64 med, .int .i64 pref, .slice cA comms.length cc, .bool soft] := by simp [mkU, UpS.e, mkA]
@[reducible] def nlsPcs (A : Option Addr) (l : List Tr) : List SL := arr idE 3 A (l.map Tr.cells) :: l.flatMap (pcs nlShp)
@[reducible] def updPcs (gA : Option Addr) (gone : List Tr) (rA : Option Addr) (routes : List Tr) (pA : Option Addr) (path : List Tr) (cA : Option Addr) (comms : List Tr) : List SL := nlsPcs gA gone ++ (nlsPcs rA routes ++ (attPcs pA path cA comms ++ []))
theorem nls_src {src : List SL} {A : Option Addr} {l : List Tr} (h : ∀ x ∈ l, Tr.of nlShp x) (hs : arr idE 3 A (l.map Tr.cells) ∈ src) : SrcOk src (arr Nl.e 3 A (l.map toNl)) := by
  rw [(nls_of h).1] at hs
  exact .inl ⟨_, hs, arr_typed _⟩
theorem mkU_ok (gA : Option Addr) (gc : Nat) (gone : List Tr) (rA : Option Addr) (rc : Nat) (routes : List Tr) (org : Int) (pA : Option Addr) (pc : Nat) (path : List Tr) (nxt med pref : Int) (cA : Option Addr) (cc : Nat) (comms : List Tr) (soft : Bool)
    (hg : ∀ x ∈ gone, Tr.of nlShp x) (hr : ∀ x ∈ routes, Tr.of nlShp x) (hp : ∀ x ∈ path, Tr.of segShp x) (hc : ∀ x ∈ comms, Tr.of (.int .i64) x) :
    ∀ e ∈ (mkU gA gc gone rA rc routes (mkA org pA pc path nxt med pref cA cc comms) soft).ro, SrcOk (updPcs gA gone rA routes pA path cA comms) e := fun e he => by
  have hA := mkA_ok org pA pc path nxt med pref cA cc comms hp hc
  rcases List.mem_cons.1 he with rfl | he
  · exact nls_src hg (List.mem_append.2 (.inl List.mem_cons_self))
  rcases List.mem_cons.1 he with rfl | he
  · exact nls_src hr (List.mem_append.2 (.inr (List.mem_append.2 (.inl List.mem_cons_self))))
  · exact (hA e he).mono fun f hf => List.mem_append.2 (.inr (List.mem_append.2 (.inr (List.mem_append.2 (.inl hf)))))
theorem mkU_v {gA : Option Addr} {gc : Nat} {gone : List Tr} {rA : Option Addr} {rc : Nat} {routes : List Tr} {org : Int} {pA : Option Addr} {pc : Nat} {path : List Tr} {nxt med pref : Int} {cA : Option Addr} {cc : Nat} {comms : List Tr} {soft : Bool}
    (hg : ∀ x ∈ gone, Tr.of nlShp x) (hr : ∀ x ∈ routes, Tr.of nlShp x) (hn : 0 ≤ nxt ∧ nxt ≤ 4294967295) : UpV (mkU gA gc gone rA rc routes (mkA org pA pc path nxt med pref cA cc comms) soft) := ⟨(nls_of hg).2, (nls_of hr).2, hn⟩
theorem uputs_row (gA : Option Addr) (gc : Nat) (gone : List Tr) (rA : Option Addr) (rc : Nat) (routes : List Tr) (org : Int) (pA : Option Addr) (pc : Nat) (path : List Tr) (nxt med pref : Int) (cA : Option Addr) (cc : Nat) (comms : List Tr) (soft : Bool)
    (hg : ∀ x ∈ gone, Tr.of nlShp x) (hr : ∀ x ∈ routes, Tr.of nlShp x) (hp : ∀ x ∈ path, Tr.of segShp x) (hc : ∀ x ∈ comms, Tr.of (.int .i64) x) (hn : 0 ≤ nxt ∧ nxt ≤ 4294967295) (four paths : Bool) :
    Tri Try.prog 8 [.agg #[.slice gA gone.length gc, .slice rA routes.length rc, .int .i64 org, .slice pA path.length pc, .int .u32 nxt, .int .i64 med, .int .i64 pref, .slice cA comms.length cc, .bool soft], .bool four, .bool paths]
      (updPcs gA gone rA routes pA path cA comms ++ []) [] (fun _ : Unit => True) (fun _ => .bool true) (fun _ => []) := by
  have h := uputs_t (mkU gA gc gone rA rc routes (mkA org pA pc path nxt med pref cA cc comms) soft) (mkU_v hg hr hn) four paths
  rw [mkU_e] at h
  exact Tri_src h fun e he => (mkU_ok gA gc gone rA rc routes org pA pc path nxt med pref cA cc comms soft hg hr hp hc e he).mono fun f hf => List.mem_append.2 (.inl hf)
end Go.Proofs.Ytklkmdlnbddfaaa
