/- Part of a proof of many texts: what the theorem at its end leans on. -/
import Derived.Test.YteeogabkkblkgaaGreatDoorVPgB
namespace Go.Proofs.YteeogabkkblkgaaGreatDoor
set_option maxHeartbeats 1000000000
set_option linter.unusedVariables false
set_option linter.unusedSimpArgs false
open Go.RowKit
attribute [local irreducible] HC HX HO Tri eP adr
theorem inn_inn {L M : List SL} (h : inn M ∈ L) : Ent (inn L) (inn M) := fun S w hp f hf => by
 obtain ⟨F, hF, hq⟩ := hp _ h
 obtain ⟨G, hG, hg⟩ := hq f hf
 exact ⟨G, fun b hb => hF b (hG b hb), hg⟩
theorem ups_mem {us : List UpS} {u : UpS} (h : u ∈ us) {e : SL} (he : e ∈ u.ro) : e ∈ upsL us := List.mem_flatMap.2 ⟨u, h, he⟩
theorem ups_src {us : List UpS} {u : UpS} (h : u ∈ us) {src l : List SL} (k : Nat) (hk : src[k]? = some (inn (upsL us))) (hl : AllSrc src l) : AllSrc src (u.ro ++ l) := by
 refine AllSrc.via k hk (inn_arr (ups_mem h (by simp [UpS.ro]))) ?_
 refine AllSrc.via k hk (inn_arr (ups_mem h (by simp [UpS.ro]))) ?_
 refine AllSrc.via k hk (inn_inn (ups_mem h (by simp [UpS.ro]))) ?_
 refine AllSrc.via k hk (inn_arr (ups_mem h (by simp [UpS.ro]))) ?_
 exact AllSrc.via k hk (inn_arr (ups_mem h (by simp [UpS.ro]))) hl
end Go.Proofs.YteeogabkkblkgaaGreatDoor
