/- The law UpdateShort on what it is handed. -/
import Derived.Test.YtklkmdlnbddfaaaUpdZ
import Derived.Test.YtklkmdlnbddfaaaUpdL2
namespace Go.Proofs.Ytklkmdlnbddfaaa
set_option linter.unusedVariables false
set_option linter.unusedSimpArgs false
open Go.RowKit
attribute [local irreducible] HC HX HO Tri eP adr

theorem ushort_row (gA : Option Addr) (gc : Nat) (gone : List Tr) (rA : Option Addr) (rc : Nat) (routes : List Tr) (org : Int) (pA : Option Addr) (pc : Nat) (path : List Tr) (nxt med pref : Int) (cA : Option Addr) (cc : Nat) (comms : List Tr) (soft : Bool)
    (hg : ∀ x ∈ gone, Tr.of nlShp x) (hr : ∀ x ∈ routes, Tr.of nlShp x) (hp : ∀ x ∈ path, Tr.of segShp x) (hc : ∀ x ∈ comms, Tr.of (.int .i64) x) (hn : 0 ≤ nxt ∧ nxt ≤ 4294967295) (four paths : Bool) (n : Int) :
    Tri Try.prog 11 [.agg #[.slice gA gone.length gc, .slice rA routes.length rc, .int .i64 org, .slice pA path.length pc, .int .u32 nxt, .int .i64 med, .int .i64 pref, .slice cA comms.length cc, .bool soft], .bool four, .bool paths, .int .i64 n]
      (updPcs gA gone rA routes pA path cA comms ++ []) [] (fun _ : Unit => True) (fun _ => .bool true) (fun _ => []) := by
  have h := ushort_t (mkU gA gc gone rA rc routes (mkA org pA pc path nxt med pref cA cc comms) soft) (mkU_v hg hr hn) four paths n
  rw [mkU_e] at h
  exact Tri_src h fun e he => (mkU_ok gA gc gone rA rc routes org pA pc path nxt med pref cA cc comms soft hg hr hp hc e he).mono fun f hf => List.mem_append.2 (.inl hf)
end Go.Proofs.Ytklkmdlnbddfaaa
