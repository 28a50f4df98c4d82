/- The law AttrPuts on what it is handed. -/
import Derived.Test.YtklkmdlnbddfaaaAttZ
import Derived.Test.YtklkmdlnbddfaaaAttL3
namespace Go.Proofs.Ytklkmdlnbddfaaa
set_option linter.unusedVariables false
set_option linter.unusedSimpArgs false
open Go.RowKit
attribute [local irreducible] HC HX HO Tri eP adr

theorem puts_row (org : Int) (pA : Option Addr) (pc : Nat) (path : List Tr) (nxt med pref : Int) (cA : Option Addr) (cc : Nat) (comms : List Tr) (hp : ∀ x ∈ path, Tr.of segShp x) (hc : ∀ x ∈ comms, Tr.of (.int .i64) x) (hn : 0 ≤ nxt ∧ nxt ≤ 4294967295) (four : Bool) :
    Tri Try.prog 3 [.agg #[.int .i64 org, .slice pA path.length pc, .int .u32 nxt, .int .i64 med, .int .i64 pref, .slice cA comms.length cc], .bool four]
      (attPcs pA path cA comms ++ []) [] (fun _ : Unit => True) (fun _ => .bool true) (fun _ => []) := by
  have h := puts_t (mkA org pA pc path nxt med pref cA cc comms) four hn
  rw [mkA_e] at h
  exact Tri_src h fun e he => (mkA_ok org pA pc path nxt med pref cA cc comms hp hc e he).mono fun f hf => List.mem_append.2 (.inl hf)
end Go.Proofs.Ytklkmdlnbddfaaa
