/- What the law of prefixes' bytes is handed. -/
import Derived.Test.YtdeeokkkcfkbjaaDoorAdQ
import Derived.Test.YtdeeokkkcfkbjaaDoorRow
namespace Go.Proofs.YtdeeokkkcfkbjaaDoor
set_option linter.unusedVariables false
set_option linter.unusedSimpArgs false
open Go.RowKit
attribute [local irreducible] HC HX HO Tri eP adr

def toBA : Tr → UInt8
  | .int _ n => UInt8.ofNat n.toNat
  | _ => 0
theorem byte_ofA {t : Tr} (h : Tr.of (.int .u8) t) : t.cells = bE (toBA t) := by
  simp only [Tr.of] at h
  obtain ⟨n, rfl, hw⟩ := h
  have h1 : 0 ≤ n ∧ n ≤ 255 := wf_u8 hw
  have : ((n.toNat % 256 : Nat) : Int) = n := by omega
  simp [Tr.cells, bE, toBA, this]
theorem bytes_ofA {l : List Tr} (h : ∀ x ∈ l, Tr.of (.int .u8) x) : l.map Tr.cells = (l.map toBA).map bE := by
  rw [List.map_map]
  exact List.map_congr_left fun x hx => byte_ofA (h x hx)
theorem codes_row (m : Int) (a : Nat) (ha : a < 4294967296) (n : Int) (bA : Option Addr) (bc : Nat) (data : List Tr) (hd : ∀ x ∈ data, Tr.of (.int .u8) x) (hc : data.length ≤ bc) :
    Tri Tryd.prog 7 [pfV a n, .slice bA data.length bc] ([tab1, maxLen0 m] ++ (arr idE 1 bA (data.map Tr.cells) :: (data.flatMap (pcs (.int .u8)) ++ []))) [] (fun _ : Unit => True) (fun _ => .bool true) (fun _ => []) := by
  have h : Tri Tryd.prog 7 [pfV a n, .slice bA (data.map toBA).length bc] [tab1, maxLen0 m, arr bE 1 bA (data.map toBA)] [] (fun _ : Unit => True) (fun _ => .bool true) (fun _ => []) := by
    cases hx : okX a n
    · exact lawCodes_bad m a ha n hx bA bc _ (by rw [List.length_map]; exact hc)
    · have hl := okX_len hx
      obtain ⟨k, rfl⟩ : ∃ k : Nat, n = k := ⟨n.toNat, by omega⟩
      exact lawCodes_ok m a ha k hx bA bc _ (by rw [List.length_map]; exact hc)
  rw [List.length_map] at h
  refine Tri_ro h (AllSrc.at_ 0 rfl (AllSrc.at_ 1 rfl (AllSrc.via 2 rfl ?_ trivial)))
  rw [bytes_ofA hd]
  exact arr_typed _
end Go.Proofs.YtdeeokkkcfkbjaaDoor
