/- The law AttrTwice on what it is handed. -/
import Derived.Test.YtklkmdlnbddfaaaAttZ
import Derived.Test.YtklkmdlnbddfaaaAttL4
namespace Go.Proofs.Ytklkmdlnbddfaaa
set_option linter.unusedVariables false
set_option linter.unusedSimpArgs false
open Go.RowKit
attribute [local irreducible] HC HX HO Tri eP adr

def toB : Tr → UInt8
  | .int _ n => UInt8.ofNat n.toNat
  | _ => 0
theorem byte_of {t : Tr} (h : Tr.of (.int .u8) t) : t.cells = bE (toB t) := by
  simp only [Tr.of] at h
  obtain ⟨n, rfl, hw⟩ := h
  have h1 : 0 ≤ n ∧ n ≤ 255 := wf_u8 hw
  have : ((n.toNat % 256 : Nat) : Int) = n := by omega
  simp [Tr.cells, bE, toB, this]
theorem bytes_of {l : List Tr} (h : ∀ x ∈ l, Tr.of (.int .u8) x) : l.map Tr.cells = (l.map toB).map bE := by
  rw [List.map_map]
  exact List.map_congr_left fun x hx => byte_of (h x hx)
theorem twice_row (org : Int) (pA : Option Addr) (pc : Nat) (path : List Tr) (nxt med pref : Int) (cA : Option Addr) (cc : Nat) (comms : List Tr) (hp : ∀ x ∈ path, Tr.of segShp x) (hc : ∀ x ∈ comms, Tr.of (.int .i64) x) (hn : 0 ≤ nxt ∧ nxt ≤ 4294967295)
    (org' : Int) (pA' : Option Addr) (pc' : Nat) (path' : List Tr) (nxt' med' pref' : Int) (cA' : Option Addr) (cc' : Nat) (comms' : List Tr) (hp' : ∀ x ∈ path', Tr.of segShp x) (hc' : ∀ x ∈ comms', Tr.of (.int .i64) x) (hn' : 0 ≤ nxt' ∧ nxt' ≤ 4294967295)
    (kind : Int) (dA : Option Addr) (dc : Nat) (data : List Tr) (hd : ∀ x ∈ data, Tr.of (.int .u8) x) (four : Bool) :
    Tri Try.prog 6 [.agg #[.int .i64 org, .slice pA path.length pc, .int .u32 nxt, .int .i64 med, .int .i64 pref, .slice cA comms.length cc], .agg #[.int .i64 org', .slice pA' path'.length pc', .int .u32 nxt', .int .i64 med', .int .i64 pref', .slice cA' comms'.length cc'], .int .i64 kind, .slice dA data.length dc, .bool four]
      (attPcs pA path cA comms ++ (attPcs pA' path' cA' comms' ++ (arr idE 1 dA (data.map Tr.cells) :: (data.flatMap (pcs (.int .u8)) ++ [])))) [] (fun _ : Unit => True) (fun _ => .bool true) (fun _ => []) := by
  have h := twice_t (mkA org pA pc path nxt med pref cA cc comms) (mkA org' pA' pc' path' nxt' med' pref' cA' cc' comms') kind dA dc (data.map toB) four hn hn'
  rw [mkA_e, mkA_e, List.length_map] at h
  refine Tri_src h fun e he => ?_
  rcases List.mem_append.1 he with he | he
  · exact (mkA_ok org pA pc path nxt med pref cA cc comms hp hc e he).mono fun f hf => List.mem_append.2 (.inl hf)
  · rcases List.mem_append.1 he with he | he
    · exact (mkA_ok org' pA' pc' path' nxt' med' pref' cA' cc' comms' hp' hc' e he).mono fun f hf => List.mem_append.2 (.inr (List.mem_append.2 (.inl hf)))
    · rw [List.mem_singleton.1 he]
      refine .inl ⟨_, List.mem_append.2 (.inr (List.mem_append.2 (.inr List.mem_cons_self))), ?_⟩
      rw [bytes_of hd]
      exact arr_typed _
end Go.Proofs.Ytklkmdlnbddfaaa
