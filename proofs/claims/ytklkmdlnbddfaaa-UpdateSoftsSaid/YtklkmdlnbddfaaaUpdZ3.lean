/- The law UpdateSofts on what it is handed. -/
import Derived.Test.YtklkmdlnbddfaaaUpdZ
import Derived.Test.YtklkmdlnbddfaaaUpdL3
namespace Go.Proofs.Ytklkmdlnbddfaaa
set_option linter.unusedVariables false
set_option linter.unusedSimpArgs false
open Go.RowKit
attribute [local irreducible] HC HX HO Tri eP adr

def toB7 : Tr → UInt8
  | .int _ n => UInt8.ofNat n.toNat
  | _ => 0
theorem byte_of7 {t : Tr} (h : Tr.of (.int .u8) t) : t.cells = bE (toB7 t) := by
  simp only [Tr.of] at h
  obtain ⟨n, rfl, hw⟩ := h
  have h1 : 0 ≤ n ∧ n ≤ 255 := wf_u8 hw
  have : ((n.toNat % 256 : Nat) : Int) = n := by omega
  simp [Tr.cells, bE, toB7, this]
theorem bytes_of7 {l : List Tr} (h : ∀ x ∈ l, Tr.of (.int .u8) x) : l.map Tr.cells = (l.map toB7).map bE := by
  rw [List.map_map]
  exact List.map_congr_left fun x hx => byte_of7 (h x hx)
theorem usofts_row (lA : Option Addr) (lc : Nat) (l : List Tr) (mA : Option Addr) (mc : Nat) (m : List Tr) (dA : Option Addr) (dc : Nat) (data : List Tr) (hl : ∀ x ∈ l, Tr.of nlShp x) (hm : ∀ x ∈ m, Tr.of nlShp x) (hd : ∀ x ∈ data, Tr.of (.int .u8) x) (h1 : l.length ≤ 9223372036854775807) (h2 : m.length ≤ 9223372036854775807) (four paths : Bool) :
    Tri Try.prog 9 [.slice lA l.length lc, .slice mA m.length mc, .slice dA data.length dc, .bool four, .bool paths]
      (nlsPcs lA l ++ (nlsPcs mA m ++ (arr idE 1 dA (data.map Tr.cells) :: (data.flatMap (pcs (.int .u8)) ++ [])))) [] (fun _ : Unit => True) (fun _ => .bool true) (fun _ => []) := by
  have h := usofts_t lA lc (l.map toNl) (nls_of hl).2 (by rw [List.length_map]; exact h1) mA mc (m.map toNl) (nls_of hm).2 (by rw [List.length_map]; exact h2) dA dc (data.map toB7) four paths
  rw [List.length_map, List.length_map, List.length_map] at h
  refine Tri_src h fun e he => ?_
  rcases List.mem_cons.1 he with rfl | he
  · exact nls_src hl (List.mem_append.2 (.inl List.mem_cons_self))
  rcases List.mem_cons.1 he with rfl | he
  · exact nls_src hm (List.mem_append.2 (.inr (List.mem_append.2 (.inl List.mem_cons_self))))
  · rw [List.mem_singleton.1 he]
    refine .inl ⟨_, List.mem_append.2 (.inr (List.mem_append.2 (.inr List.mem_cons_self))), ?_⟩
    rw [bytes_of7 hd]
    exact arr_typed _
end Go.Proofs.Ytklkmdlnbddfaaa
