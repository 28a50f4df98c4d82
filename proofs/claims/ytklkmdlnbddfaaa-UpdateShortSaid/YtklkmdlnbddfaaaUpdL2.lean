/- The law UpdateShort walked: it returns true. -/
import Derived.Test.YtklkmdlnbddfaaaUpdL1
namespace Go.Proofs.Ytklkmdlnbddfaaa
set_option linter.unusedVariables false
set_option linter.unusedSimpArgs false
open Go.RowKit
attribute [local irreducible] HC HX HO Tri eP adr

/-- what goes alone -/
def onlyG (u : UpS) : UpS := ⟨u.gA, u.gc, u.gone, none, 0, [], az, false⟩
theorem onlyG_w {u : UpS} (h : UpW u) : UpW (onlyG u) := ⟨h.g, fun x hx => (by cases hx), by show (0 : Int) ≤ 0 ∧ (0 : Int) ≤ 4294967295; decide, ⟨by show 0 ≤ 1000; decide, by show 0 ≤ 1000; decide, fun s hs => (by cases hs)⟩, h.gl, by show 0 ≤ 1000000; decide⟩
theorem onlyG_len (four paths : Bool) (u : UpS) : (upB four paths (onlyG u)).length = (nlsB paths u.gone).length + 4 := by
  show (pcB (nlsB paths u.gone) ++ (pcB [] ++ [])).length = _
  rw [List.length_append, List.length_append, pcB_len, pcB_len]
  simp only [List.length_nil]
set_option maxHeartbeats 32000000 in
set_option maxRecDepth 100000 in
theorem ushort_t (u : UpS) (hv : UpV u) (four paths : Bool) (n : Int) : Tri Try.prog 11 [.agg u.e.toArray, .bool four, .bool paths, .int .i64 n] u.ro [] (fun _ : Unit => True) (fun _ => .bool true) (fun _ => []) := by
  have hla := rlarge7_t u
  cases hb : bigU u
  rotate_left
  · rw [hb] at hla
    refine Tri_of (N := Try.f11.ntmps) (c := bodyOf Try.f11) Try.func11 rfl rfl rfl rfl (fun w0 S0 => ?_)
    dsimp only [UpS.ro, UpS.e] at hla ⊢
    repeat' (first | refine SW ?_ | refine SD ?_ | (refine HO_k 12 rfl ?_; refine HO_callq rfl rfl rfl rfl (hla) (fun _ _ => rfl) (srcsA) rfl rfl sqA ?_) | (refine HO_k 12 rfl ?_; refine HO_callq rfl rfl rfl rfl (ulives_t) (fun _ _ => rfl) (trivial) rfl rfl sqA ?_) | exact HO_seg rfl rfl | refine S1 ?_ | (refine S2 ?_; intro _) | (refine S3 ?_; intro _ _) | (refine S4 ?_; intro _ _ _) | (refine HO_g 2 rfl ?_; (first | apply HO_and rfl rfl rfl rfl rfl rfl rfl rfl rfl | apply HO_or rfl rfl rfl rfl rfl rfl rfl rfl rfl)) | refine S5 ?_ | (intro hb; try replace hb := simB hb; try exact kill hb))
    ((first | apply HX_ret | apply HX_retn); (repeat (first | exact Res_nil | apply Res_tmp rfl | apply Res_ce rfl rfl rfl)); unfold RetQ; refine ⟨(), trivial, ?_, Keeps.nil⟩)
    rfl
  rw [hb] at hla
  have hu := hv.w hb
  have hck := rcheck7_t u hu four paths
  cases hk : upOk four paths u
  · rw [hk] at hck
    refine Tri_of (N := Try.f11.ntmps) (c := bodyOf Try.f11) Try.func11 rfl rfl rfl rfl (fun w0 S0 => ?_)
    dsimp only [UpS.ro, UpS.e] at hla hck ⊢
    repeat' (first | refine SW ?_ | refine SD ?_ | (refine HO_k 12 rfl ?_; refine HO_callq rfl rfl rfl rfl (hla) (fun _ _ => rfl) (srcsA) rfl rfl sqA ?_) | (refine HO_k 12 rfl ?_; refine HO_callq rfl rfl rfl rfl (hck) (fun _ _ => rfl) (srcsA) rfl rfl sqA ?_) | (refine HO_k 12 rfl ?_; refine HO_callq rfl rfl rfl rfl (ulives_t) (fun _ _ => rfl) (trivial) rfl rfl sqA ?_) | exact HO_seg rfl rfl | refine S1 ?_ | (refine S2 ?_; intro _) | (refine S3 ?_; intro _ _) | (refine S4 ?_; intro _ _ _) | (refine HO_g 2 rfl ?_; (first | apply HO_and rfl rfl rfl rfl rfl rfl rfl rfl rfl | apply HO_or rfl rfl rfl rfl rfl rfl rfl rfl rfl)) | refine S5 ?_ | (intro hb; try replace hb := simB hb; try exact kill hb))
    ((first | apply HX_ret | apply HX_retn); (repeat (first | exact Res_nil | apply Res_tmp rfl | apply Res_ce rfl rfl rfl)); unfold RetQ; refine ⟨(), trivial, ?_, Keeps.nil⟩)
    rfl
  rw [hk] at hck
  have hput := uput_t u hu four paths hk
  obtain ⟨h1, hle⟩ := ok_parts hk
  obtain ⟨p1, p2, p3, p4⟩ := pre_parts h1
  have hrb := rbody_t (onlyG u) (onlyG_w hu) four paths p2 rfl (by unfold saidOk; rw [if_pos (show (onlyG u).routes.length = 0 from rfl)]; exact sameB_refl pz)
  rw [onlyG_len] at hrb
  have hg9 := nlsB_len p2
  have hcs := cutU_short (nlsB paths u.gone) (pcB (saidB four u) ++ nlsB paths u.routes) (by omega)
  have hblen : (nlsB paths u.gone).length + 4 ≤ (upB four paths u).length := by
    show _ ≤ (pcB (nlsB paths u.gone) ++ (pcB (saidB four u) ++ nlsB paths u.routes)).length
    rw [List.length_append, List.length_append, pcB_len, pcB_len]
    omega
  have hcs : ∀ k, k < (nlsB paths u.gone).length + 4 → cutU ((upB four paths u).take k) = none := hcs
  obtain ⟨G, hG⟩ : ∃ G, (nlsB paths u.gone).length + 4 = G := ⟨_, rfl⟩
  rw [hG] at hrb hcs hblen
  clear hG hg9
  obtain ⟨bs, hbs⟩ : ∃ bs, upB four paths u = bs := ⟨_, rfl⟩
  rw [hbs] at hput hle hblen
  simp only [hbs] at hcs
  have hr : (bs.length : Int) - ((bs.length : Int) - (G : Int)) = (G : Int) := by omega
  have hB : ((onlyG u).e, (onlyG u).ro) = ((onlyG u).e, (onlyG u).ro) := rfl
  by_cases hn : n < 0
  · refine Tri_of (N := Try.f11.ntmps) (c := bodyOf Try.f11) Try.func11 rfl rfl rfl rfl (fun w0 S0 => ?_)
    dsimp only [UpS.ro, UpS.e, onlyG] at hla hck hput hrb ⊢
    repeat' (first | refine SW ?_ | refine SD ?_ | refine HC_lex rfl rfl (by decide +kernel) rfl rfl ?_ | (with_reducible refine HO_rw (congrArg (Value.int .i64) hr) ?_) | (refine HO_k 12 rfl ?_; refine HO_callq rfl rfl rfl rfl (hla) (fun _ _ => rfl) (srcsA) rfl rfl sqA ?_) | (refine HO_k 12 rfl ?_; refine HO_callq rfl rfl rfl rfl (hck) (fun _ _ => rfl) (srcsA) rfl rfl sqA ?_) | (refine HO_k 12 rfl ?_; refine HO_callq rfl rfl rfl rfl (ulives_t) (fun _ _ => rfl) (trivial) rfl rfl sqA ?_) | (refine HO_k 12 rfl ?_; refine HO_call rfl rfl rfl rfl (hput) rfl (srcsA) rfl rfl soA ?_; intro ⟨x1, c1⟩ g1; dsimp only [List.cons_append, List.nil_append]) | (refine HO_k 12 rfl ?_; refine HO_call rfl rfl rfl rfl (hrb) rfl (srcsB) rfl rfl soA ?_; intro ⟨x2, c2⟩ g2; dsimp only [List.cons_append, List.nil_append]) | exact HO_seg rfl rfl | refine S1 ?_ | (refine S2 ?_; intro _) | (refine S3 ?_; intro _ _) | (refine S4 ?_; intro _ _ _) | (refine HO_g 2 rfl ?_; (first | apply HO_and rfl rfl rfl rfl rfl rfl rfl rfl rfl | apply HO_or rfl rfl rfl rfl rfl rfl rfl rfl rfl)) | refine S5 ?_ | (intro hb; try replace hb := simB hb; try exact kill hb))
    ((first | apply HX_ret | apply HX_retn); (repeat (first | exact Res_nil | apply Res_tmp rfl | apply Res_ce rfl rfl rfl)); unfold RetQ; refine ⟨(), trivial, ?_, Keeps.nil⟩)
    rfl
  by_cases hn2 : (G : Int) ≤ n
  · refine Tri_of (N := Try.f11.ntmps) (c := bodyOf Try.f11) Try.func11 rfl rfl rfl rfl (fun w0 S0 => ?_)
    dsimp only [UpS.ro, UpS.e, onlyG] at hla hck hput hrb ⊢
    repeat' (first | refine SW ?_ | refine SD ?_ | refine HC_lex rfl rfl (by decide +kernel) rfl rfl ?_ | (with_reducible refine HO_rw (congrArg (Value.int .i64) hr) ?_) | (refine HO_k 12 rfl ?_; refine HO_callq rfl rfl rfl rfl (hla) (fun _ _ => rfl) (srcsA) rfl rfl sqA ?_) | (refine HO_k 12 rfl ?_; refine HO_callq rfl rfl rfl rfl (hck) (fun _ _ => rfl) (srcsA) rfl rfl sqA ?_) | (refine HO_k 12 rfl ?_; refine HO_callq rfl rfl rfl rfl (ulives_t) (fun _ _ => rfl) (trivial) rfl rfl sqA ?_) | (refine HO_k 12 rfl ?_; refine HO_call rfl rfl rfl rfl (hput) rfl (srcsA) rfl rfl soA ?_; intro ⟨x1, c1⟩ g1; dsimp only [List.cons_append, List.nil_append]) | (refine HO_k 12 rfl ?_; refine HO_call rfl rfl rfl rfl (hrb) rfl (srcsB) rfl rfl soA ?_; intro ⟨x2, c2⟩ g2; dsimp only [List.cons_append, List.nil_append]) | exact HO_seg rfl rfl | refine S1 ?_ | (refine S2 ?_; intro _) | (refine S3 ?_; intro _ _) | (refine S4 ?_; intro _ _ _) | (refine HO_g 2 rfl ?_; (first | apply HO_and rfl rfl rfl rfl rfl rfl rfl rfl rfl | apply HO_or rfl rfl rfl rfl rfl rfl rfl rfl rfl)) | refine S5 ?_ | (intro hb; try replace hb := simB hb; try exact kill hb))
    ((first | apply HX_ret | apply HX_retn); (repeat (first | exact Res_nil | apply Res_tmp rfl | apply Res_ce rfl rfl rfl)); unfold RetQ; refine ⟨(), trivial, ?_, Keeps.nil⟩)
    rfl
  obtain ⟨k, rfl⟩ : ∃ k : Nat, n = k := ⟨n.toNat, by omega⟩
  have hkG : k < G := by omega
  have htl : (bs.take k).length = k := by rw [List.length_take]; omega
  have hget := fun A c => uget_cut A c (bs.take k) (by rw [htl]; omega) four paths (hcs k hkG)
  rw [htl] at hget
  have hz := rusame_t uz uz rfl rfl rfl rfl uz_w.l uz_w.l uz_w.gl uz_w.rl
  refine Tri_of (N := Try.f11.ntmps) (c := bodyOf Try.f11) Try.func11 rfl rfl rfl rfl (fun w0 S0 => ?_)
  dsimp only [UpS.ro, UpS.e, onlyG, ntV] at hla hck hput hrb hget hz ⊢
  repeat' (first | refine SW ?_ | refine SD ?_ | refine HC_lex rfl rfl (by decide +kernel) rfl rfl ?_ | (with_reducible refine HO_rw (congrArg (Value.int .i64) hr) ?_) | (refine HO_k 12 rfl ?_; refine HO_callq rfl rfl rfl rfl (hla) (fun _ _ => rfl) (srcsA) rfl rfl sqA ?_) | (refine HO_k 12 rfl ?_; refine HO_callq rfl rfl rfl rfl (hck) (fun _ _ => rfl) (srcsA) rfl rfl sqA ?_) | (refine HO_k 12 rfl ?_; refine HO_callq rfl rfl rfl rfl (ulives_t) (fun _ _ => rfl) (trivial) rfl rfl sqA ?_) | (refine HO_k 12 rfl ?_; refine HO_call rfl rfl rfl rfl (hput) rfl (srcsA) rfl rfl soA ?_; intro ⟨x1, c1⟩ g1; have g3 : bs.length ≤ c1 := g1; dsimp only [List.cons_append, List.nil_append]) | (refine HO_k 12 rfl ?_; refine HO_call rfl rfl rfl rfl (hrb) rfl (srcsB) rfl rfl soA ?_; intro ⟨x2, c2⟩ g2; dsimp only [List.cons_append, List.nil_append]) | (refine HO_k 12 rfl ?_; refine HO_callq rfl rfl rfl rfl (hget _ _) (fun _ _ => rfl) ((by first | exact AllSrc.via 5 rfl (fun S w h => arr_take _ S w (own_e S w h)) trivial | exact AllSrc.via 6 rfl (fun S w h => arr_take _ S w (own_e S w h)) trivial | exact AllSrc.via 7 rfl (fun S w h => arr_take _ S w (own_e S w h)) trivial | exact AllSrc.via 8 rfl (fun S w h => arr_take _ S w (own_e S w h)) trivial)) rfl rfl sqA ?_) | (refine HO_k 12 rfl ?_; refine HO_callq rfl rfl rfl rfl (hz) (fun _ _ => rfl) (srcsB) rfl rfl sqA ?_) | exact HO_seg rfl rfl | refine S1 ?_ | (refine S2 ?_; intro _) | (refine S3 ?_; intro _ _) | (refine S4 ?_; intro _ _ _) | (refine HO_g 2 rfl ?_; (first | apply HO_and rfl rfl rfl rfl rfl rfl rfl rfl rfl | apply HO_or rfl rfl rfl rfl rfl rfl rfl rfl rfl)) | refine S5 ?_ | (intro hb; try replace hb := simB hb; try exact kill hb))
  ((first | apply HX_ret | apply HX_retn); (repeat (first | exact Res_nil | apply Res_tmp rfl | apply Res_ce rfl rfl rfl)); unfold RetQ; refine ⟨(), trivial, ?_, Keeps.nil⟩)
  rfl
end Go.Proofs.Ytklkmdlnbddfaaa
