/- Part of a proof of many texts: what the theorem at its end leans on. -/
import Derived.Test.YteeogabkkblkgaaGreatDoorVPgB
namespace Go.Proofs.YteeogabkkblkgaaGreatDoor
set_option maxHeartbeats 1000000000
set_option linter.unusedVariables false
set_option linter.unusedSimpArgs false
open Go.RowKit
attribute [local irreducible] HC HX HO Tri eP adr
theorem inn_inn {L M : List SL} (h : inn M ∈ L) : Ent (inn L) (inn M) := fun S w hp f hf => by
 obtain ⟨F, hF, hq⟩ := hp _ h
 obtain ⟨G, hG, hg⟩ := hq f hf
 exact ⟨G, fun b hb => hF b (hG b hb), hg⟩
theorem ups_mem {us : List UpS} {u : UpS} (h : u ∈ us) {e : SL} (he : e ∈ u.ro) : e ∈ upsL us := List.mem_flatMap.2 ⟨u, h, he⟩
theorem ups_src {us : List UpS} {u : UpS} (h : u ∈ us) {src l : List SL} (k : Nat) (hk : src[k]? = some (inn (upsL us))) (hl : AllSrc src l) : AllSrc src (u.ro ++ l) := by
 refine AllSrc.via k hk (inn_arr (ups_mem h (by simp [UpS.ro]))) ?_
 refine AllSrc.via k hk (inn_arr (ups_mem h (by simp [UpS.ro]))) ?_
 refine AllSrc.via k hk (inn_inn (ups_mem h (by simp [UpS.ro]))) ?_
 refine AllSrc.via k hk (inn_arr (ups_mem h (by simp [UpS.ro]))) ?_
 exact AllSrc.via k hk (inn_arr (ups_mem h (by simp [UpS.ro]))) hl
theorem rpsame_t (r : RsQ UpP) (z y : RsZ) (hz : RsOk r z) (hy : RsOk r y) (hu : r.ups.length ≤ 1000000) (hl : r.last.length ≤ 1000000) :
  Tri Tryz.prog 11 [rsV r z, rsV r y] [arr UpS.e 9 z.u.1 z.us, inn (upsL z.us), arr bE 1 z.l.1 r.last, arr UpS.e 9 y.u.1 y.us, inn (upsL y.us), arr bE 1 y.l.1 r.last] [] (fun _ : Unit => True) (fun _ => .bool true) (fun _ => []) := by
 have z1 : z.us.length = r.ups.length := by have := congrArg List.length hz.1; rwa [List.length_map] at this
 have y1 : y.us.length = r.ups.length := by have := congrArg List.length hy.1; rwa [List.length_map] at this
 have zy : (z.us.length : Int) = (y.us.length : Int) := by omega
 have hne : (!(ByteArray.toList ⟨r.last.toArray⟩ == ByteArray.toList ⟨r.last.toArray⟩)) = false := by rw [sba_eq]; simp
 have hmap : z.us.map UpS.p = y.us.map UpS.p := hz.1.trans hy.1.symm
 dsimp only [rsV, rsC]
 refine Tri_in Tryz.func11 rfl (fun w0 S0 => ?_)
 repeat' (first | refine SX ?_ | (refine HO_k 7 rfl ?_; (first | refine HO_b2s (l := r.last) rfl rfl ⟨_, seeL_ro (List.mem_of_getElem? (i := 0) rfl), arr_raw⟩ rfl rfl rfl rdA ?_ | refine HO_b2s (l := r.last) rfl rfl ⟨_, seeL_ro (List.mem_of_getElem? (i := 1) rfl), arr_raw⟩ rfl rfl rfl rdA ?_ | refine HO_b2s (l := r.last) rfl rfl ⟨_, seeL_ro (List.mem_of_getElem? (i := 2) rfl), arr_raw⟩ rfl rfl rfl rdA ?_ | refine HO_b2s (l := r.last) rfl rfl ⟨_, seeL_ro (List.mem_of_getElem? (i := 3) rfl), arr_raw⟩ rfl rfl rfl rdA ?_)) | (refine HO_k 7 rfl ?_; refine HO_b2s (l := r.last) rfl rfl ⟨_, seeL_ro (List.mem_of_getElem? (i := 5) rfl), arr_raw⟩ rfl rfl rfl rdA ?_) | (with_reducible refine HO_rw (congrArg Value.bool hne) ?_) | (with_reducible refine HO_rw (congrArg Value.bool (sba_eq _ _)) ?_) | refine SB ?_ | (refine S2 ?_; intro _) | fail)
 rename_i b2 b3
 refine HC_loop (α := Nat) (fun i => i ≤ z.us.length) (fun i => [(5, .int .i64 i), (3, pt b3), (2, pt b2)])
  (fun _ => [cel b3 29 (rsC r y), cel b2 29 (rsC r z)]) (fun i => z.us.length - i) rfl 0 (Nat.zero_le _) ⟨rfl, rfl, rfl, trivial⟩ rfl ?_
 intro i hi
 dsimp only [rsC]
 rcases Nat.lt_or_ge i z.us.length with hlt | hge
 ·obtain ⟨u, hu0⟩ : ∃ u, z.us[i]? = some u := ⟨z.us[i], List.getElem?_eq_getElem hlt⟩
  obtain ⟨v, hv0⟩ : ∃ v, y.us[i]? = some v := ⟨y.us[i]'(by omega), List.getElem?_eq_getElem (by omega)⟩
  have hp : u.p = v.p := by
   have := congrArg (fun l => l[i]?) hmap
   simp only [List.getElem?_map, hu0, hv0, Option.map_some] at this
   injection this
  have gu := hz.2 u (List.mem_of_getElem? hu0)
  have gv := hy.2 v (List.mem_of_getElem? hv0)
  have hgone : u.gone = v.gone := congrArg UpP.gone hp
  have hrou : u.routes = v.routes := congrArg UpP.routes hp
  have hpa : u.a.pa = v.a.pa := congrArg UpP.pa hp
  have hsf : u.soft = v.soft := congrArg UpP.soft hp
  have c1 := rusame_t u v hsf hgone hrou hpa gu.l gv.l gu.g gu.r
  have src : ∀ a b : SL, AllSrc [a, b, arr UpS.e 9 z.u.1 z.us, inn (upsL z.us), arr bE 1 z.l.1 r.last, arr UpS.e 9 y.u.1 y.us, inn (upsL y.us), arr bE 1 y.l.1 r.last] (u.ro ++ v.ro) := fun a b => ups_src (List.mem_of_getElem? hu0) 3 rfl (by
   have := ups_src (src := [a, b, arr UpS.e 9 z.u.1 z.us, inn (upsL z.us), arr bE 1 z.l.1 r.last, arr UpS.e 9 y.u.1 y.us, inn (upsL y.us), arr bE 1 y.l.1 r.last]) (l := []) (List.mem_of_getElem? hv0) 6 rfl trivial
   rwa [List.append_nil] at this)
  dsimp only [UpS.e] at c1
  have hltz : (i : Int) < (z.us.length : Int) := by omega
  have hlty : (i : Int) < (y.us.length : Int) := by omega
  repeat' (first | refine SX ?_ | (refine HC_lex rfl rfl (by decide +kernel) rfl rfl ?_) | (refine KC ?_; refine HO_callq rfl rfl rfl rfl (c1) (fun _ _ => rfl) (src _ _) rfl rfl sqA ?_) | refine SB ?_ | (refine S2 ?_; intro _) | fail)
  exact HX_at (i + 1) ⟨hlt, by omega⟩ ⟨rfl, rfl, rfl, trivial⟩ rfl
 ·obtain rfl : i = z.us.length := by omega
  repeat' (first | refine SX ?_ | refine SB ?_ | (refine S2 ?_; intro _) | fail)
  (refine SRt ?_; refine RU ?_)
  rfl
end Go.Proofs.YteeogabkkblkgaaGreatDoor
