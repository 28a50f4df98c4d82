/- The law AttrGets on what it is handed. -/
import Derived.Test.YtklkmdlnbddfaaaAttZ
import Derived.Test.YtklkmdlnbddfaaaAttL5
namespace Go.Proofs.Ytklkmdlnbddfaaa
set_option linter.unusedVariables false
set_option linter.unusedSimpArgs false
open Go.RowKit
attribute [local irreducible] HC HX HO Tri eP adr

def toB5 : Tr → UInt8
  | .int _ n => UInt8.ofNat n.toNat
  | _ => 0
theorem byte_of5 {t : Tr} (h : Tr.of (.int .u8) t) : t.cells = bE (toB5 t) := by
  simp only [Tr.of] at h
  obtain ⟨n, rfl, hw⟩ := h
  have h1 : 0 ≤ n ∧ n ≤ 255 := wf_u8 hw
  have : ((n.toNat % 256 : Nat) : Int) = n := by omega
  simp [Tr.cells, bE, toB5, this]
theorem bytes_of5 {l : List Tr} (h : ∀ x ∈ l, Tr.of (.int .u8) x) : l.map Tr.cells = (l.map toB5).map bE := by
  rw [List.map_map]
  exact List.map_congr_left fun x hx => byte_of5 (h x hx)
theorem gets_row (dA : Option Addr) (dc : Nat) (data : List Tr) (hd : ∀ x ∈ data, Tr.of (.int .u8) x) (four : Bool) :
    Tri Try.prog 4 [.slice dA data.length dc, .bool four] (arr idE 1 dA (data.map Tr.cells) :: (data.flatMap (pcs (.int .u8)) ++ [])) [] (fun _ : Unit => True) (fun _ => .bool true) (fun _ => []) := by
  have h := gets_t four dA dc (data.map toB5)
  rw [List.length_map] at h
  refine Tri_src h fun e he => ?_
  rw [List.mem_singleton.1 he]
  refine .inl ⟨_, List.mem_cons_self, ?_⟩
  rw [bytes_of5 hd]
  exact arr_typed _
end Go.Proofs.Ytklkmdlnbddfaaa
