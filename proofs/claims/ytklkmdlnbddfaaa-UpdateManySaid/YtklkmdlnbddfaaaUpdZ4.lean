/- The law UpdateMany on what it is handed. -/
import Derived.Test.YtklkmdlnbddfaaaUpdZ
import Derived.Test.YtklkmdlnbddfaaaUpdL4
namespace Go.Proofs.Ytklkmdlnbddfaaa
set_option linter.unusedVariables false
set_option linter.unusedSimpArgs false
open Go.RowKit
attribute [local irreducible] HC HX HO Tri eP adr

theorem umany_row (i a0 n : Int) (ha : 0 ≤ a0 ∧ a0 ≤ 4294967295) (times : Int) (org : Int) (pA : Option Addr) (pc : Nat) (path : List Tr) (nxt med pref : Int) (cA : Option Addr) (cc : Nat) (comms : List Tr) (hp : ∀ x ∈ path, Tr.of segShp x) (hc : ∀ x ∈ comms, Tr.of (.int .i64) x) (hn : 0 ≤ nxt ∧ nxt ≤ 4294967295) (four paths : Bool) :
    Tri Try.prog 10 [.agg #[.int .i64 i, .int .u32 a0, .int .i64 n], .int .i64 times, .agg #[.int .i64 org, .slice pA path.length pc, .int .u32 nxt, .int .i64 med, .int .i64 pref, .slice cA comms.length cc], .bool four, .bool paths]
      (attPcs pA path cA comms ++ []) [] (fun _ : Unit => True) (fun _ => .bool true) (fun _ => []) := by
  obtain ⟨k, rfl⟩ : ∃ k : Nat, a0 = k := ⟨a0.toNat, by omega⟩
  have h := umany_t i k (by omega) n times (mkA org pA pc path nxt med pref cA cc comms) hn four paths
  rw [mkA_e] at h
  exact Tri_src h fun e he => (mkA_ok org pA pc path nxt med pref cA cc comms hp hc e he).mono fun f hf => List.mem_append.2 (.inl hf)
end Go.Proofs.Ytklkmdlnbddfaaa
