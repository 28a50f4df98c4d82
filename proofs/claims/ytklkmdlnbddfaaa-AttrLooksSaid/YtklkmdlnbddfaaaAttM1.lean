/- The law AttrLooks on what it is handed. -/
import Derived.Test.YtklkmdlnbddfaaaAttL1
import Derived.Test.YtklkmdlnbddfaaaAttZ
namespace Go.Proofs.Ytklkmdlnbddfaaa
set_option linter.unusedVariables false
set_option linter.unusedSimpArgs false
open Go.RowKit
attribute [local irreducible] HC HX HO Tri eP adr

theorem looks_row (org : Int) (pA : Option Addr) (pc : Nat) (path : List Tr) (nxt med pref : Int) (cA : Option Addr) (cc : Nat) (comms : List Tr) (hp : ∀ x ∈ path, Tr.of segShp x) (hc : ∀ x ∈ comms, Tr.of (.int .i64) x)
    (org' : Int) (pA' : Option Addr) (pc' : Nat) (path' : List Tr) (nxt' med' pref' : Int) (cA' : Option Addr) (cc' : Nat) (comms' : List Tr) (hp' : ∀ x ∈ path', Tr.of segShp x) (hc' : ∀ x ∈ comms', Tr.of (.int .i64) x) (v : Int) :
    Tri Try.prog 5 [.agg #[.int .i64 org, .slice pA path.length pc, .int .u32 nxt, .int .i64 med, .int .i64 pref, .slice cA comms.length cc], .agg #[.int .i64 org', .slice pA' path'.length pc', .int .u32 nxt', .int .i64 med', .int .i64 pref', .slice cA' comms'.length cc'], .int .i64 v]
      (attPcs pA path cA comms ++ (attPcs pA' path' cA' comms' ++ [])) [] (fun _ : Unit => True) (fun _ => .bool true) (fun _ => []) := by
  have h := looks_t (mkA org pA pc path nxt med pref cA cc comms) (mkA org' pA' pc' path' nxt' med' pref' cA' cc' comms') v
  rw [mkA_e, mkA_e] at h
  refine Tri_src h fun e he => ?_
  rcases List.mem_append.1 he with he | he
  · exact (mkA_ok org pA pc path nxt med pref cA cc comms hp hc e he).mono fun f hf => List.mem_append.2 (.inl hf)
  · exact (mkA_ok org' pA' pc' path' nxt' med' pref' cA' cc' comms' hp' hc' e he).mono fun f hf => List.mem_append.2 (.inr (List.mem_append.2 (.inl hf)))
end Go.Proofs.Ytklkmdlnbddfaaa
