/- Part of a proof of many texts: what the theorem at its end leans on. -/
import Derived.Test.YteeogabkkblkgaaGreatDoorVUpd
import Derived.Test.YteeogabkkblkgaaGreatDoorVPeQ
import Derived.Test.YteeogabkkblkgaaGreatDoorVKc
namespace Go.Proofs.YteeogabkkblkgaaGreatDoor
set_option maxHeartbeats 1000000000
set_option linter.unusedVariables false
set_option linter.unusedSimpArgs false
open Go.RowKit
attribute [local irreducible] HC HX HO Tri eP adr
set_option maxRecDepth 100000 in
theorem uget_nlri2 (A : Option Addr) (c : Nat) (b g s k : List UInt8) (hb : b.length ≤ 100000) (four paths : Bool) (hcut : cutU b = some (g, s, k)) (m : List Nl) (hl : getR paths [] g = some m) (hm : getR paths [] k = none) :
  Tri Tryz.prog 144 [.slice A b.length c, .bool four, .bool paths] [arr bE 1 A b] [] (fun _ : Unit => True) (fun _ => .tuple #[.agg uz.e.toArray, ntV 3 10]) (fun _ => []) := by
 have hfrom := nfrom_t A b.length c b rfl (by omega)
 obtain ⟨n1, n2, d1, d2, d3, hU⟩ := cutU_some hcut
 obtain ⟨h1, e1, e2, h2, e3, e4, h3, e5, e6, h4, e7, e8⟩ := hU
 have hd1 : d1.length ≤ 100000 := by rw [← e2, List.length_drop]; omega
 have hd2 : d2.length ≤ 100000 := by rw [← e4, List.length_drop]; omega
 have hd3 : d3.length ≤ 100000 := by rw [← e6, List.length_drop]; omega
 have hgl : g.length ≤ 100000 := by rw [← e3, List.length_take]; omega
 have hsl : s.length ≤ 100000 := by rw [← e7, List.length_take]; omega
 have hcl : k.length ≤ 100000 := by rw [← e8, List.length_drop]; omega
 have hn1 := fun rb rA rc hc => numL_t rb rA rc b 2 (by decide) h1 hb hc
 have hb1 := fun rb rA rc hc => bytesL_t rb rA rc d1 n1 h2 hd1 hc
 have hn2 := fun rb rA rc hc => numL_t rb rA rc d2 2 (by decide) h3 hd2 hc
 have hb2 := fun rb rA rc hc => bytesL_t rb rA rc d3 n2 h4 hd3 hc
 have hb3 := fun rb rA rc hc => bytesAll_t rb rA rc k hcl hc
 simp only [e1, e2] at hn1
 simp only [e3, e4] at hb1
 simp only [e5, e6] at hn2
 simp only [e7, e8] at hb2
 clear e1 e2 e3 e4 e5 e6 e7 e8
 have hg1 := fun A c hc => nlgO_t A c g hgl hc paths m hl
 have hg2 := fun A c hc => nlgB_t A c k hcl hc paths hm
 have hre := refuse_t 10
 dsimp only [ntV] at hre ⊢
 refine Tri_in Tryz.func144 rfl (fun w0 S0 => ?_)
 repeat' (first | refine SD ?_ | (refine KC ?_; refine HO_call rfl rfl rfl rfl (hfrom) rfl (srcsA) rfl rfl soA ?_; intro ⟨rb, ⟨rA, rc⟩⟩ hr; dsimp only [rdP, pt, lca, lna]) | (refine KC ?_; refine HO_call rfl rfl rfl rfl (hn1 rb rA rc hr) rfl (trivial) rfl rfl soA ?_; intro ⟨xA, xc⟩ hx; dsimp only [rdP, pt, lca, lna]) | (refine KC ?_; refine HO_call rfl rfl rfl rfl (hb1 rb xA xc hx) rfl (trivial) rfl rfl soA ?_; intro ⟨⟨uA, uc⟩, ⟨vA, vc⟩⟩ hu; dsimp only [rdP, pt, lca, lna]) | (refine KC ?_; refine HO_mv 2 rfl rfl ?_; refine HO_mv 2 rfl rfl ?_; refine HO_call rfl rfl rfl rfl (hn2 rb vA vc hu.2) rfl (trivial) rfl rfl soA ?_; intro ⟨yA, yc⟩ hy; dsimp only [rdP, pt, lca, lna]) | (refine KC ?_; refine HO_call rfl rfl rfl rfl (hb2 rb yA yc hy) rfl (trivial) rfl rfl soA ?_; intro ⟨⟨sA, sc⟩, ⟨tA, tc⟩⟩ ht; dsimp only [rdP, pt, lca, lna]) | (refine KC ?_; refine HO_callq rfl rfl rfl rfl (nbad_t _ _ _ _ _) (fun _ _ => rfl) (srcsA) rfl rfl sqA ?_) | (refine KC ?_; refine HO_callq rfl rfl rfl rfl (nleftF_t _ _ _ _) (fun _ _ => rfl) (srcsA) rfl rfl sqA ?_) | (refine KC ?_; refine HO_mv 3 rfl rfl ?_; refine HO_call rfl rfl rfl rfl (hg1 uA uc hu.1) rfl (trivial) rfl rfl soA ?_; intro ⟨lA, lc⟩ hl1; dsimp only [lca, lna]) | (refine KC ?_; refine HO_mv 3 rfl rfl ?_; refine HO_mv 3 rfl rfl ?_; refine HO_call rfl rfl rfl rfl (hb3 rb tA tc ht.2) rfl (trivial) rfl rfl soA ?_; intro ⟨⟨kA, kc⟩, ⟨wA, wc⟩⟩ hk; dsimp only [rdP, pt, lca, lna]) | (refine KC ?_; refine HO_call rfl rfl rfl rfl (hg2 kA kc hk.1) rfl (trivial) rfl rfl soA ?_; intro q hq; dsimp only [lca, lna]) | (refine KC ?_; refine HO_callq rfl rfl rfl rfl (hre) (fun _ _ => rfl) (trivial) rfl rfl sqA ?_) | refine SB ?_ | (refine S2 ?_; intro _) | fail)
 (refine SRt ?_; refine RU ?_)
 rfl
set_option maxRecDepth 100000 in
theorem uget_nlri3 (A : Option Addr) (c : Nat) (b g s k : List UInt8) (hb : b.length ≤ 100000) (four paths : Bool) (hcut : cutU b = some (g, s, k)) (hl : getR paths [] g = none) (hm : getR paths [] k = none) :
  Tri Tryz.prog 144 [.slice A b.length c, .bool four, .bool paths] [arr bE 1 A b] [] (fun _ : Unit => True) (fun _ => .tuple #[.agg uz.e.toArray, ntV 3 10]) (fun _ => []) := by
 have hfrom := nfrom_t A b.length c b rfl (by omega)
 obtain ⟨n1, n2, d1, d2, d3, hU⟩ := cutU_some hcut
 obtain ⟨h1, e1, e2, h2, e3, e4, h3, e5, e6, h4, e7, e8⟩ := hU
 have hd1 : d1.length ≤ 100000 := by rw [← e2, List.length_drop]; omega
 have hd2 : d2.length ≤ 100000 := by rw [← e4, List.length_drop]; omega
 have hd3 : d3.length ≤ 100000 := by rw [← e6, List.length_drop]; omega
 have hgl : g.length ≤ 100000 := by rw [← e3, List.length_take]; omega
 have hsl : s.length ≤ 100000 := by rw [← e7, List.length_take]; omega
 have hcl : k.length ≤ 100000 := by rw [← e8, List.length_drop]; omega
 have hn1 := fun rb rA rc hc => numL_t rb rA rc b 2 (by decide) h1 hb hc
 have hb1 := fun rb rA rc hc => bytesL_t rb rA rc d1 n1 h2 hd1 hc
 have hn2 := fun rb rA rc hc => numL_t rb rA rc d2 2 (by decide) h3 hd2 hc
 have hb2 := fun rb rA rc hc => bytesL_t rb rA rc d3 n2 h4 hd3 hc
 have hb3 := fun rb rA rc hc => bytesAll_t rb rA rc k hcl hc
 simp only [e1, e2] at hn1
 simp only [e3, e4] at hb1
 simp only [e5, e6] at hn2
 simp only [e7, e8] at hb2
 clear e1 e2 e3 e4 e5 e6 e7 e8
 have hg1 := fun A c hc => nlgB_t A c g hgl hc paths hl
 have hg2 := fun A c hc => nlgB_t A c k hcl hc paths hm
 have hre := refuse_t 10
 dsimp only [ntV] at hre ⊢
 refine Tri_in Tryz.func144 rfl (fun w0 S0 => ?_)
 repeat' (first | refine SD ?_ | (refine KC ?_; refine HO_call rfl rfl rfl rfl (hfrom) rfl (srcsA) rfl rfl soA ?_; intro ⟨rb, ⟨rA, rc⟩⟩ hr; dsimp only [rdP, pt, lca, lna]) | (refine KC ?_; refine HO_call rfl rfl rfl rfl (hn1 rb rA rc hr) rfl (trivial) rfl rfl soA ?_; intro ⟨xA, xc⟩ hx; dsimp only [rdP, pt, lca, lna]) | (refine KC ?_; refine HO_call rfl rfl rfl rfl (hb1 rb xA xc hx) rfl (trivial) rfl rfl soA ?_; intro ⟨⟨uA, uc⟩, ⟨vA, vc⟩⟩ hu; dsimp only [rdP, pt, lca, lna]) | (refine KC ?_; refine HO_mv 2 rfl rfl ?_; refine HO_mv 2 rfl rfl ?_; refine HO_call rfl rfl rfl rfl (hn2 rb vA vc hu.2) rfl (trivial) rfl rfl soA ?_; intro ⟨yA, yc⟩ hy; dsimp only [rdP, pt, lca, lna]) | (refine KC ?_; refine HO_call rfl rfl rfl rfl (hb2 rb yA yc hy) rfl (trivial) rfl rfl soA ?_; intro ⟨⟨sA, sc⟩, ⟨tA, tc⟩⟩ ht; dsimp only [rdP, pt, lca, lna]) | (refine KC ?_; refine HO_callq rfl rfl rfl rfl (nbad_t _ _ _ _ _) (fun _ _ => rfl) (srcsA) rfl rfl sqA ?_) | (refine KC ?_; refine HO_callq rfl rfl rfl rfl (nleftF_t _ _ _ _) (fun _ _ => rfl) (srcsA) rfl rfl sqA ?_) | (refine KC ?_; refine HO_mv 3 rfl rfl ?_; refine HO_call rfl rfl rfl rfl (hg1 uA uc hu.1) rfl (trivial) rfl rfl soA ?_; intro q hq; dsimp only [lca, lna]) | (refine KC ?_; refine HO_mv 2 rfl rfl ?_; refine HO_mv 2 rfl rfl ?_; refine HO_call rfl rfl rfl rfl (hb3 rb tA tc ht.2) rfl (trivial) rfl rfl soA ?_; intro ⟨⟨kA, kc⟩, ⟨wA, wc⟩⟩ hk; dsimp only [rdP, pt, lca, lna]) | (refine KC ?_; refine HO_call rfl rfl rfl rfl (hg2 kA kc hk.1) rfl (trivial) rfl rfl soA ?_; intro q2 hq2; dsimp only [lca, lna]) | (refine KC ?_; refine HO_callq rfl rfl rfl rfl (hre) (fun _ _ => rfl) (trivial) rfl rfl sqA ?_) | refine SB ?_ | (refine S2 ?_; intro _) | fail)
 (refine SRt ?_; refine RU ?_)
 rfl
structure UpP where
 gone : List Nl
 routes : List Nl
 pa : PA
 soft : Bool
def UpS.p (u : UpS) : UpP := ⟨u.gone, u.routes, u.a.pa, u.soft⟩
structure UpG (u : UpS) : Prop where
 l : Lim u.a
 g : u.gone.length ≤ 1000000
 r : u.routes.length ≤ 1000000
def updM (four paths : Bool) (b : List UInt8) : Option UpP × NtQ := match cutU b with
 | none => (none, ⟨3, 1, []⟩)
 | some (g, s, k) => match getR paths [] g, getR paths [] k with
  | some l, some m => if m.length = 0 then (some ⟨l, [], az.pa, false⟩, nt0) else if (getG (szF four) s).2 = 1 then (some ⟨l, m, (getG (szF four) s).1, false⟩, nt0) else (some ⟨l ++ m, [], az.pa, true⟩, nt0)
  | _, _ => (none, ⟨3, 10, []⟩)
def upIs (o : Option UpP) (u : UpS) : Prop := UpG u ∧ match o with
 | none => u = uz
 | some p => u.p = p
theorem uz_g : UpG uz := ⟨⟨by decide, by decide, fun s hs => (by cases hs)⟩, by decide, by decide⟩
theorem uz_keeps {rw : List SL} : Keeps rw uz.ro := Keeps.add (fun w => arr_nil _ w) (Keeps.add (fun w => arr_nil _ w) (Keeps.add (fun w => inn_nil w) (Keeps.add (fun w => arr_nil _ w) (Keeps.add (fun w => arr_nil _ w) Keeps.nil))))
theorem az_lim : Lim az := ⟨by decide, by decide, fun s hs => (by cases hs)⟩
theorem inn_all {L : List SL} {rw : List SL} (h : Keeps rw L) : Keeps rw [inn L] := fun S w hs => by
 obtain ⟨T, h1, h2⟩ := h S w hs
 refine ⟨T, h1, T, fun _ => False, fun _ h => h, fun _ h => h.elim, fun _ _ h => h, ?_, trivial⟩
 have : ∀ (l : List SL) (T : Foot), Star l T w → ∀ e ∈ l, ∃ F : Foot, (∀ b, F b → T b) ∧ e.p F w := fun l => by
  induction l with
  | nil => intro T _ e he; cases he
  | cons x l ih =>
   intro T ⟨A, B, hA, hB, hd, hp, hs⟩ e he
   cases he with
   | head => exact ⟨A, hA, hp⟩
   | tail _ he =>
    obtain ⟨F, hF, hp⟩ := ih B hs e he
    exact ⟨F, fun b hb => hB b (hF b hb), hp⟩
 exact this L T h2
theorem Tri_map {P : Program} {g : Nat} {args : List Value} {ro rw : List SL} {α β : Type} {φ : α → Prop} {val : α → Value} {es : α → List SL} {ψ : β → Prop} {val' : β → Value} {es' : β → List SL}
  (h : Tri P g args ro rw φ val es) (f : α → β) (h1 : ∀ x, φ x → ψ (f x)) (h2 : ∀ x, φ x → val x = val' (f x)) (h3 : ∀ x, φ x → Keeps (es x) (es' (f x))) : Tri P g args ro rw ψ val' es' := by
 unfold Tri at h ⊢
 exact fun w S hf => (h w S hf).mono fun e w' ⟨x, T, hx, he, hfx⟩ => by
  obtain ⟨U, hU⟩ := hfx.keeps (h3 x hx)
  exact ⟨f x, U, h1 x hx, by rw [he, h2 x hx], hU⟩
theorem uget_t (A : Option Addr) (c : Nat) (b : List UInt8) (hb : b.length ≤ 100000) (four paths : Bool) :
  Tri Tryz.prog 144 [.slice A b.length c, .bool four, .bool paths] [arr bE 1 A b] [] (upIs (updM four paths b).1)
   (fun u => .tuple #[.agg u.e.toArray, .agg #[.int .i64 (updM four paths b).2.c, .int .i64 (updM four paths b).2.s, .slice none 0 0]]) (fun u => [inn u.ro]) := by
 unfold updM
 cases hcut : cutU b with
 | none => exact Tri_map (uget_cut A c b hb four paths hcut) (fun _ => uz) (fun _ _ => ⟨uz_g, rfl⟩) (fun _ _ => rfl) (fun _ _ => inn_all uz_keeps)
 | some x =>
  obtain ⟨g, s, k⟩ := x
  dsimp only
  cases hl : getR paths [] g with
  | none =>
   cases hm : getR paths [] k with
   | none => exact Tri_map (uget_nlri3 A c b g s k hb four paths hcut hl hm) (fun _ => uz) (fun _ _ => ⟨uz_g, rfl⟩) (fun _ _ => rfl) (fun _ _ => inn_all uz_keeps)
   | some m => exact Tri_map (uget_nlri A c b g s k hb four paths hcut m hl hm) (fun _ => uz) (fun _ _ => ⟨uz_g, rfl⟩) (fun _ _ => rfl) (fun _ _ => inn_all uz_keeps)
  | some l =>
   cases hm : getR paths [] k with
   | none => exact Tri_map (uget_nlri2 A c b g s k hb four paths hcut l hl hm) (fun _ => uz) (fun _ _ => ⟨uz_g, rfl⟩) (fun _ _ => rfl) (fun _ _ => inn_all uz_keeps)
   | some m =>
    have hll := getR_le hl
    have hml := getR_le hm
    dsimp only
    by_cases hm0 : m.length = 0
    ·rw [if_pos hm0]
     have hme : m = [] := List.eq_nil_of_length_eq_zero hm0
     exact Tri_map (uget_gone A c b g s k hb four paths hcut l m hl hme hm) (fun u => u) (fun u ⟨h1, h2, h3, h4⟩ => ⟨⟨h3 ▸ az_lim, by rw [h1]; omega, by rw [h2]; exact Nat.zero_le _⟩, by
      show UpS.p u = _
      unfold UpS.p
      rw [h1, h2, h3, h4]⟩) (fun _ _ => rfl) (fun _ _ => inn_all Keeps.refl)
    rw [if_neg hm0]
    have hgl : getG (szF four) s = ((getG (szF four) s).1, (getG (szF four) s).2) := rfl
    by_cases hv : (getG (szF four) s).2 = 1
    ·rw [if_pos hv]
     rw [hv] at hgl
     have hok : OkP (szF four) (getG (szF four) s).1 := get_ok hgl
     exact Tri_map (uget_fine A c b g s k hb four paths hcut l m hl hm (by omega) _ hgl) (fun u => u) (fun u ⟨h1, h2, h3, h4⟩ => ⟨⟨lim_paU h3 hok, by rw [h1]; omega, by rw [h2]; omega⟩, by
      show UpS.p u = _
      unfold UpS.p
      rw [h1, h2, h3, h4]⟩) (fun _ _ => rfl) (fun _ _ => inn_all Keeps.refl)
    ·rw [if_neg hv]
     exact Tri_map (uget_soft A c b g s k hb four paths hcut l m hl hm (by omega) _ hv _ hgl) (fun u => u) (fun u ⟨h1, h2, h3, h4⟩ => ⟨⟨h3 ▸ az_lim, by rw [h1, List.length_append]; omega, by rw [h2]; exact Nat.zero_le _⟩, by
      show UpS.p u = _
      unfold UpS.p
      rw [h1, h2, h3, h4]⟩) (fun _ _ => rfl) (fun _ _ => inn_all Keeps.refl)
end Go.Proofs.YteeogabkkblkgaaGreatDoor
