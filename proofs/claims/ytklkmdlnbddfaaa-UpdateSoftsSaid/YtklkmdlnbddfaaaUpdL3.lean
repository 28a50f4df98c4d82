/- The law UpdateSofts walked: it returns true. -/
import Derived.Test.YtklkmdlnbddfaaaUpdL1
import Derived.Test.YtklkmdlnbddfaaaAttRD
namespace Go.Proofs.Ytklkmdlnbddfaaa
set_option linter.unusedVariables false
set_option linter.unusedSimpArgs false
open Go.RowKit
attribute [local irreducible] HC HX HO Tri eP adr

set_option maxHeartbeats 64000000 in
set_option maxRecDepth 100000 in
theorem usofts_t (lA : Option Addr) (lc : Nat) (l : List Nl) (hl : NlsOk l) (h1 : l.length ≤ 9223372036854775807) (mA : Option Addr) (mc : Nat) (m : List Nl) (hm : NlsOk m) (h2 : m.length ≤ 9223372036854775807) (dA : Option Addr) (dc : Nat) (data : List UInt8) (four paths : Bool) :
    Tri Try.prog 9 [.slice lA l.length lc, .slice mA m.length mc, .slice dA data.length dc, .bool four, .bool paths] [arr Nl.e 3 lA l, arr Nl.e 3 mA m, arr bE 1 dA data] [] (fun _ : Unit => True) (fun _ => .bool true) (fun _ => []) := by
  have hkl := rnlsL_t lA lc l hl h1 paths
  have hkm := rnlsL_t mA mc m hm h2 paths
  by_cases hX : allX paths l = true ∧ allX paths m = true ∧ data.length ≤ 2000 ∧ 0 < m.length
  rotate_left
  · refine Tri_of (N := Try.f9.ntmps) (c := bodyOf Try.f9) Try.func9 rfl rfl rfl rfl (fun w0 S0 => ?_)
    repeat' (first | refine SW ?_ | (refine HO_k 12 rfl ?_; refine HO_callq rfl rfl rfl rfl (hkl) (fun _ _ => rfl) (srcsA) rfl rfl sqA ?_) | (refine HO_k 12 rfl ?_; refine HO_callq rfl rfl rfl rfl (hkm) (fun _ _ => rfl) (srcsA) rfl rfl sqA ?_) | (refine HO_k 12 rfl ?_; refine HO_callq rfl rfl rfl rfl (ulives_t) (fun _ _ => rfl) (trivial) rfl rfl sqA ?_) | (refine HC_cond rfl rfl (fun hb => ?_) (fun hb => by exfalso; simp only [Bool.or_eq_false_iff, decide_eq_false_iff_not, Bool.not_eq_false'] at hb; exact hX ⟨by simp [hb], by simp [hb], by omega, by omega⟩)) | exact HO_seg rfl rfl | refine S1 ?_ | (refine S2 ?_; intro _) | (refine S3 ?_; intro _ _) | (refine S4 ?_; intro _ _ _) | (refine HO_g 2 rfl ?_; (first | apply HO_and rfl rfl rfl rfl rfl rfl rfl rfl rfl | apply HO_or rfl rfl rfl rfl rfl rfl rfl rfl rfl)) | refine S5 ?_ | (intro hb; try replace hb := simB hb; try exact kill hb))
    ((first | apply HX_ret | apply HX_retn); (repeat (first | exact Res_nil | apply Res_tmp rfl | apply Res_ce rfl rfl rfl)); unfold RetQ; refine ⟨(), trivial, ?_, Keeps.nil⟩)
    rfl
  obtain ⟨k1, k2, h3, h4⟩ := hX
  rw [k1] at hkl
  rw [k2] at hkm
  obtain ⟨a1, a2⟩ := allX_spec k1
  obtain ⟨b1, b2⟩ := allX_spec k2
  have hpl := rnlsput_t lA lc l hl paths a1 a2
  have hpm := rnlsput_t mA mc m hm paths b1 b2
  have lgl := nlsB_len k1
  have lgm := nlsB_len k2
  have hgl := getR_nlsB paths l [] hl a1 (by simpa using a2)
  have hgm := getR_nlsB paths m [] hm b1 (by simpa using b2)
  rw [List.nil_append] at hgl hgm
  have hrg := rget5_t four dA dc data (by omega)
  obtain ⟨g, hg⟩ : ∃ b, nlsB paths l = b := ⟨_, rfl⟩
  obtain ⟨k, hk⟩ : ∃ b, nlsB paths m = b := ⟨_, rfl⟩
  rw [hg] at hpl lgl hgl
  rw [hk] at hpm lgm hgm
  have hq1 := rput_quo g.length (by omega)
  have hq3 := rput_quo data.length (by omega)
  obtain ⟨out, hout⟩ : ∃ out, bodyB g data k = out := ⟨_, rfl⟩
  have hcut : cutU out = some (g, data, k) := by rw [← hout]; exact cutU_body _ _ _ (by omega) (by omega)
  have hol : out.length = 2 + g.length + 2 + data.length + k.length := by
    rw [← hout]
    unfold bodyB pcB
    simp only [List.length_append, be_length]
    omega
  have u1 : (UInt8.ofNat (g.length / 256)).toNat = g.length / 256 := by simp; omega
  have u3 : (UInt8.ofNat (data.length / 256)).toNat = data.length / 256 := by simp; omega
  have hoe : [Value.int .u8 ((g.length / 256 : Nat) : Int)] :: [Value.int .u8 ((UInt8.ofNat g.length).toNat : Int)] :: (List.map bE g ++ ([Value.int .u8 ((data.length / 256 : Nat) : Int)] :: [Value.int .u8 ((UInt8.ofNat data.length).toNat : Int)] :: (List.map bE data ++ List.map bE k))) = List.map bE out := by
    rw [← u1, ← u3, ← hout]
    unfold bodyB pcB
    rw [be2, be2]
    simp only [List.map_append, List.map_cons, List.map_nil, List.append_assoc]
    rfl
  have hent : ∀ (T : Nat) (A : Option Addr) (n c : Nat), Ent (own idE T 1 A n c ([[Value.int .u8 ((g.length / 256 : Nat) : Int)], [Value.int .u8 ((UInt8.ofNat g.length).toNat : Int)]] ++ List.map bE g ++ [[Value.int .u8 ((data.length / 256 : Nat) : Int)], [Value.int .u8 ((UInt8.ofNat data.length).toNat : Int)]] ++ List.map bE data ++ List.map bE k)) (arr bE 1 A out) := fun T A n c => by
    have e : [[Value.int .u8 ((g.length / 256 : Nat) : Int)], [Value.int .u8 ((UInt8.ofNat g.length).toNat : Int)]] ++ List.map bE g ++ [[Value.int .u8 ((data.length / 256 : Nat) : Int)], [Value.int .u8 ((UInt8.ofNat data.length).toNat : Int)]] ++ List.map bE data ++ List.map bE k = List.map bE out := by rw [← hoe]; simp
    rw [e]
    exact own_e
  have hlen9 : ((g.length : Nat) : Int) ≤ 65535 := by omega
  rcases getG_casesU (szF four) data with hc | hc | ⟨p, hc, hok⟩
  all_goals rw [hc] at hrg
  rotate_left 2
  · have hget := fun A c => uget_fine A c out g data k (by omega) four paths hcut l m hgl hgm h4 p hc
    rw [hol] at hget
    have hs1 : ∀ x : UpS, x.gone = l → Tri Try.prog 39 [.slice x.gA x.gone.length x.gc, .slice lA l.length lc] [arr Nl.e 3 x.gA x.gone, arr Nl.e 3 lA l] [] (fun _ : Unit => True) (fun _ => .bool true) (fun _ => []) := fun x hx => by
      rw [hx]
      exact rnlsame_t x.gA lA x.gc lc l (by omega)
    have hs2 : ∀ x : UpS, x.routes = m → Tri Try.prog 39 [.slice x.rA x.routes.length x.rc, .slice mA m.length mc] [arr Nl.e 3 x.rA x.routes, arr Nl.e 3 mA m] [] (fun _ : Unit => True) (fun _ => .bool true) (fun _ => []) := fun x hx => by
      rw [hx]
      exact rnlsame_t x.rA mA x.rc mc m (by omega)
    have hs3 := fun (a c : AttS) (ha : a.pa = p) (hcc : c.pa = p) => same_paU (fun c hc => lim_paU hc hok) a c ha hcc
    refine Tri_of (N := Try.f9.ntmps) (c := bodyOf Try.f9) Try.func9 rfl rfl rfl rfl (fun w0 S0 => ?_)
    repeat' (first | refine SW ?_ | refine SD ?_ | refine HC_lex rfl rfl (by decide +kernel) rfl rfl ?_ | (with_reducible refine HO_rw (congrArg (Value.int .i64) hq1) ?_) | (with_reducible refine HO_rw (congrArg (Value.int .i64) hq3) ?_) | (with_reducible refine HO_u8n ?_) | (refine HO_k 12 rfl ?_; refine HO_callq rfl rfl rfl rfl (hkl) (fun _ _ => rfl) (srcsA) rfl rfl sqA ?_) | (refine HO_k 12 rfl ?_; refine HO_callq rfl rfl rfl rfl (hkm) (fun _ _ => rfl) (srcsA) rfl rfl sqA ?_) | (refine HO_k 12 rfl ?_; refine HO_callq rfl rfl rfl rfl (ulives_t) (fun _ _ => rfl) (trivial) rfl rfl sqA ?_) | (refine HO_k 12 rfl ?_; refine HO_call rfl rfl rfl rfl (hpl) rfl (srcsA) rfl rfl soA ?_; intro ⟨x1, c1⟩ g1; dsimp only [List.cons_append, List.nil_append]) | (refine HO_k 12 rfl ?_; refine HO_call rfl rfl rfl rfl (hpm) rfl (srcsA) rfl rfl soA ?_; intro ⟨x2, c2⟩ g2; dsimp only [List.cons_append, List.nil_append]) | (refine HO_k 12 rfl ?_; refine HO_call rfl rfl rfl rfl (hget _ _) rfl ((by first | exact AllSrc.via 3 rfl (hent _ _ _ _) trivial | exact AllSrc.via 4 rfl (hent _ _ _ _) trivial)) rfl rfl soA ?_; intro x hx; dsimp only [UpS.ro, UpS.e, ntV, List.cons_append, List.nil_append]) | (with_reducible refine HO_rw (congrArg Value.bool hx.2.2.2) ?_) | (refine HO_k 12 rfl ?_; refine HO_call rfl rfl rfl rfl (hrg) rfl (srcsA) rfl rfl soA ?_; intro a ha; dsimp only [AttS.ro, List.cons_append, List.nil_append]) | (refine HO_k 12 rfl ?_; refine HO_callq rfl rfl rfl rfl (hs1 x hx.1) (fun _ _ => rfl) (srcsB) rfl rfl sqA ?_) | (refine HO_k 12 rfl ?_; refine HO_callq rfl rfl rfl rfl (hs2 x hx.2.1) (fun _ _ => rfl) (srcsB) rfl rfl sqA ?_) | (refine HO_k 12 rfl ?_; refine HO_callq rfl rfl rfl rfl (hs3 x.a a hx.2.2.1 ha) (fun _ _ => rfl) (srcsB) rfl rfl sqA ?_) | exact HO_seg rfl rfl | refine S1 ?_ | (refine S2 ?_; intro _) | (refine S3 ?_; intro _ _) | (refine S4 ?_; intro _ _ _) | (refine HO_g 2 rfl ?_; (first | apply HO_and rfl rfl rfl rfl rfl rfl rfl rfl rfl | apply HO_or rfl rfl rfl rfl rfl rfl rfl rfl rfl)) | refine S5 ?_ | (intro hb; try replace hb := simB hb; try exact kill hb))
    ((first | apply HX_ret | apply HX_retn); (repeat (first | exact Res_nil | apply Res_tmp rfl | apply Res_ce rfl rfl rfl)); unfold RetQ; refine ⟨(), trivial, ?_, Keeps.nil⟩)
    rfl
  all_goals
    have hget := fun A c => uget_soft A c out g data k (by omega) four paths hcut l m hgl hgm h4 _ (by decide) pz hc
    rw [hol] at hget
    have hs0 : ∀ x : UpS, x.a = az → Tri Try.prog 20 [.agg x.a.e.toArray, .agg az.e.toArray] (x.a.ro ++ az.ro) [] (fun _ : Unit => True) (fun _ => .bool true) (fun _ => []) := fun x hx => by
      rw [hx]
      have := rsame_t az az uz_w.l uz_w.l
      rw [sameB_refl] at this
      exact this
    have hlm : 0 + l.length + m.length = (l ++ m).length := by rw [List.length_append]; omega
    have hs1 : ∀ (x : UpS) (B : Option Addr) (c : Nat), x.gone = l ++ m → Tri Try.prog 39 [.slice x.gA x.gone.length x.gc, .slice B (0 + l.length + m.length) c] [arr Nl.e 3 x.gA x.gone, arr Nl.e 3 B (l ++ m)] [] (fun _ : Unit => True) (fun _ => .bool true) (fun _ => []) := fun x B c hx => by
      rw [hx, hlm]
      exact rnlsame_t x.gA B x.gc c (l ++ m) (by rw [List.length_append]; omega)
    have hent2 : ∀ (T : Nat) (A : Option Addr) (n c : Nat), Ent (own idE T 3 A n c ([] ++ List.map Nl.e l ++ List.map Nl.e m)) (arr Nl.e 3 A (l ++ m)) := fun T A n c => by
      rw [List.nil_append, ← List.map_append]
      exact own_e
    have hsr : ∀ x : UpS, x.routes = [] → ((x.routes.length : Nat) : Int) = 0 := fun x hx => by rw [hx]; rfl
    refine Tri_of (N := Try.f9.ntmps) (c := bodyOf Try.f9) Try.func9 rfl rfl rfl rfl (fun w0 S0 => ?_)
    repeat' (first | refine SW ?_ | refine SD ?_ | refine HC_lex rfl rfl (by decide +kernel) rfl rfl ?_ | (with_reducible refine HO_rw (congrArg (Value.int .i64) hq1) ?_) | (with_reducible refine HO_rw (congrArg (Value.int .i64) hq3) ?_) | (with_reducible refine HO_u8n ?_) | (refine HO_k 12 rfl ?_; refine HO_callq rfl rfl rfl rfl (hkl) (fun _ _ => rfl) (srcsA) rfl rfl sqA ?_) | (refine HO_k 12 rfl ?_; refine HO_callq rfl rfl rfl rfl (hkm) (fun _ _ => rfl) (srcsA) rfl rfl sqA ?_) | (refine HO_k 12 rfl ?_; refine HO_callq rfl rfl rfl rfl (ulives_t) (fun _ _ => rfl) (trivial) rfl rfl sqA ?_) | (refine HO_k 12 rfl ?_; refine HO_call rfl rfl rfl rfl (hpl) rfl (srcsA) rfl rfl soA ?_; intro ⟨x1, c1⟩ g1; dsimp only [List.cons_append, List.nil_append]) | (refine HO_k 12 rfl ?_; refine HO_call rfl rfl rfl rfl (hpm) rfl (srcsA) rfl rfl soA ?_; intro ⟨x2, c2⟩ g2; dsimp only [List.cons_append, List.nil_append]) | (refine HO_k 12 rfl ?_; refine HO_call rfl rfl rfl rfl (hget _ _) rfl ((by first | exact AllSrc.via 3 rfl (hent _ _ _ _) trivial | exact AllSrc.via 4 rfl (hent _ _ _ _) trivial)) rfl rfl soA ?_; intro x hx; dsimp only [UpS.ro, UpS.e, ntV, List.cons_append, List.nil_append]) | (with_reducible refine HO_rw (congrArg Value.bool hx.2.2.2) ?_) | (with_reducible refine HO_rw (congrArg (Value.int .i64) (hsr x hx.2.1)) ?_) | (refine HO_k 12 rfl ?_; refine HO_call rfl rfl rfl rfl (hrg) rfl (srcsA) rfl rfl soA ?_; intro a ha; dsimp only [AttS.ro, List.cons_append, List.nil_append]) | (refine HO_k 12 rfl ?_; refine HO_callq rfl rfl rfl rfl (hs0 x hx.2.2.1) (fun _ _ => rfl) (srcsB) rfl rfl sqA ?_) | (refine HO_k 12 rfl ?_; refine HO_callq rfl rfl rfl rfl (hs1 x _ _ hx.1) (fun _ _ => rfl) ((by first | exact AllSrc.at_ 5 rfl (AllSrc.via 4 rfl (hent2 _ _ _ _) trivial) | exact AllSrc.at_ 6 rfl (AllSrc.via 4 rfl (hent2 _ _ _ _) trivial) | exact AllSrc.at_ 7 rfl (AllSrc.via 4 rfl (hent2 _ _ _ _) trivial) | exact AllSrc.at_ 8 rfl (AllSrc.via 4 rfl (hent2 _ _ _ _) trivial) | exact AllSrc.at_ 9 rfl (AllSrc.via 4 rfl (hent2 _ _ _ _) trivial) | exact AllSrc.at_ 10 rfl (AllSrc.via 4 rfl (hent2 _ _ _ _) trivial) | exact AllSrc.at_ 11 rfl (AllSrc.via 4 rfl (hent2 _ _ _ _) trivial) | exact AllSrc.at_ 12 rfl (AllSrc.via 4 rfl (hent2 _ _ _ _) trivial) | exact AllSrc.at_ 13 rfl (AllSrc.via 4 rfl (hent2 _ _ _ _) trivial) | exact AllSrc.at_ 14 rfl (AllSrc.via 4 rfl (hent2 _ _ _ _) trivial) | exact AllSrc.at_ 15 rfl (AllSrc.via 4 rfl (hent2 _ _ _ _) trivial) | exact AllSrc.at_ 16 rfl (AllSrc.via 4 rfl (hent2 _ _ _ _) trivial) | exact AllSrc.at_ 17 rfl (AllSrc.via 4 rfl (hent2 _ _ _ _) trivial) | exact AllSrc.at_ 18 rfl (AllSrc.via 4 rfl (hent2 _ _ _ _) trivial) | exact AllSrc.at_ 19 rfl (AllSrc.via 4 rfl (hent2 _ _ _ _) trivial) | exact AllSrc.at_ 20 rfl (AllSrc.via 4 rfl (hent2 _ _ _ _) trivial) | exact AllSrc.at_ 21 rfl (AllSrc.via 4 rfl (hent2 _ _ _ _) trivial))) rfl rfl sqA ?_) | exact HO_seg rfl rfl | refine S1 ?_ | (refine S2 ?_; intro _) | (refine S3 ?_; intro _ _) | (refine S4 ?_; intro _ _ _) | (refine HO_g 2 rfl ?_; (first | apply HO_and rfl rfl rfl rfl rfl rfl rfl rfl rfl | apply HO_or rfl rfl rfl rfl rfl rfl rfl rfl rfl)) | refine S5 ?_ | (intro hb; try replace hb := simB hb; try exact kill hb))
    ((first | apply HX_ret | apply HX_retn); (repeat (first | exact Res_nil | apply Res_tmp rfl | apply Res_ce rfl rfl rfl)); unfold RetQ; refine ⟨(), trivial, ?_, Keeps.nil⟩)
    rfl
end Go.Proofs.Ytklkmdlnbddfaaa
