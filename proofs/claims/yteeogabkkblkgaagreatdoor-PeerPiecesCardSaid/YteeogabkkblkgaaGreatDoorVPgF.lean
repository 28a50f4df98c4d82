/- Part of a proof of many texts: what the theorem at its end leans on. -/
import Derived.Test.YteeogabkkblkgaaGreatDoorVPgB
import Derived.Test.YteeogabkkblkgaaGreatDoorVPfA
namespace Go.Proofs.YteeogabkkblkgaaGreatDoor
set_option maxHeartbeats 1000000000
set_option linter.unusedVariables false
set_option linter.unusedSimpArgs false
open Go.RowKit
attribute [local irreducible] HC HX HO Tri eP adr
theorem updM_cases (four paths : Bool) (b : List UInt8) : (∃ n, updM four paths b = (none, n) ∧ n.c ≠ 0 ∧ n.d = []) ∨ ∃ u, updM four paths b = (some u, nt0) := by
 unfold updM
 split
 ·exact .inl ⟨_, rfl, by decide, rfl⟩
 ·split
  ·split
   ·exact .inr ⟨_, rfl⟩
   ·split <;> exact .inr ⟨_, rfl⟩
  ·exact .inl ⟨_, rfl, by decide, rfl⟩
theorem rs_snoc {r : RsQ UpP} {z : RsZ} {u : UpS} {p : UpP} (hz : RsOk r z) (hu : UpG u) (hp : u.p = p) (A : OA) : RsOk { r with ups := r.ups ++ [p] } ⟨z.us ++ [u], A, z.l⟩ := by
 refine ⟨?_, ?_⟩
 ·show (z.us ++ [u]).map UpS.p = r.ups ++ [p]
  rw [List.map_append, hz.1, ← hp]
  rfl
 ·intro v hv
  rcases List.mem_append.1 hv with h | h
  ·exact hz.2 v h
  ·rw [List.mem_singleton.1 h]
   exact hu
theorem inn_flat {L M : List SL} {rw rw' : List SL} (h : Keeps (inn (L ++ M) :: rw) rw') : Keeps (inn L :: inn M :: rw) rw' := fun S w ⟨A, B, hA, hB, hd, hp, A2, B2, hA2, hB2, hd2, hp2, hs⟩ => by
 refine h S w ⟨fun b => A b ∨ A2 b, B2, fun b hb => hb.elim (hA b) (fun h => hB b (hA2 b h)), fun b hb => hB b (hB2 b hb), fun b hb hb2 => hb.elim (fun h => hd b h (hB2 b hb2)) (fun h => hd2 b h hb2), ?_, hs⟩
 intro e he
 rcases List.mem_append.1 he with h1 | h1
 ·obtain ⟨F, hF, hq⟩ := hp e h1
  exact ⟨F, fun b hb => .inl (hF b hb), hq⟩
 ·obtain ⟨F, hF, hq⟩ := hp2 e h1
  exact ⟨F, fun b hb => .inr (hF b hb), hq⟩
theorem pupdated_t (h p t : Nat) (now : Int) (r : RsQ UpP) (hr : r.ups.length ≤ 70000) (x : PrQ) (A : Option Addr) (c : Nat) (b : List UInt8) (hb : b.length ≤ 100000) :
  Tri Tryz.prog 99 [pt h, mgV 2 A b.length c] [arr bE 1 A b] [haP h p now r, peP p t x] (fun _ : Unit => True) (fun _ => evV (msgM updM x r 2 b).2 none 0) (fun _ => [haP h p now (msgM updM x r 2 b).1, peP p t x]) := by
 unfold msgM
 rw [if_neg (by decide), if_neg (by decide), if_pos rfl]
 refine Tri_open (fun z hz => ?_)
 have hzl : z.us.length ≤ 70000 := by
  have := congrArg List.length hz.1
  rw [List.length_map] at this
  omega
 refine Tri_keeps (rw' := peP p t x :: haF h p now r z) (Keeps.pick 4 rfl rfl Keeps.refl) ?_
 refine Tri_open (fun y hy => ?_)
 dsimp only [haF, rsC, rsP, peF, peC, mgV, lca, lna]
 by_cases h5 : x.st.ph = 5
 ·rw [if_pos h5]
  have c1 := uget_t A c b hb x.st.four x.st.paths
  rcases updM_cases x.st.four x.st.paths b with ⟨⟨nc, ns, nd⟩, hM, hnc, hnd⟩ | ⟨u0, hM⟩
  ·rw [hM] at c1 ⊢
   dsimp only at hnc hnd
   subst hnd
   have k2 := pbad_t ⟨nc, ns, []⟩ none 0
   dsimp only [noV, List.length_nil] at k2 c1 ⊢
   refine Tri_in Tryz.func99 rfl (fun w0 S0 => ?_)
   repeat' (first | refine SD ?_ | (refine HC_lex rfl rfl (by decide +kernel) rfl rfl ?_; refine HO_names (l' := [0, 1, 2, 3, 4, 5, 6, 7, 8, 9, 10, 11, 12, 13, 14, 15, 16, 17, 18, 19, 20, 21, 22, 23, 24, 25]) (by decide +kernel) ?_) | (refine HO_3p 18 22 23 (by decide +kernel) rfl rfl rfl (by decide +kernel) ?_ ?_ ?_) | (refine HO_2p 18 22 (by decide +kernel) rfl rfl (by decide +kernel) ?_ ?_) | (refine HO_2p 18 23 (by decide +kernel) rfl rfl (by decide +kernel) ?_ ?_) | (refine HO_2p 22 23 (by decide +kernel) rfl rfl (by decide +kernel) ?_ ?_) | (refine KC ?_; refine HO_callP rfl rfl rfl rfl (c1) findA (srcsA) rfl rfl soA ?_; intro u hu; dsimp only [lca, lna]) | (refine KC ?_; refine HO_callq rfl rfl rfl rfl (k2) (fun _ _ => rfl) (trivial) rfl rfl sqA ?_) | refine SB ?_ | (refine T2 ?_; intros) | fail)
   all_goals (refine SRt ?_; unfold RetQ; refine ⟨(), trivial, rfl, (Keeps.comp (Keeps.close (φ := fun _ : Nat × Nat => True) (f := peF p t x) y trivial findA) (Keeps.close (φ := RsOk r) (f := haF h p now r) z hz permA))⟩)
  ·rw [hM] at c1 ⊢
   dsimp only at c1 ⊢
   have hnn : ¬ (nt0.c ≠ 0) := by decide
   refine Tri_in Tryz.func99 rfl (fun w0 S0 => ?_)
   repeat' (first | refine SD ?_ | (refine HC_lex rfl rfl (by decide +kernel) rfl rfl ?_; refine HO_names (l' := [0, 1, 2, 3, 4, 5, 6, 7, 8, 9, 10, 11, 12, 13, 14, 15, 16, 17, 18, 19, 20, 21, 22, 23, 24, 25]) (by decide +kernel) ?_) | (refine HO_3p 18 22 23 (by decide +kernel) rfl rfl rfl (by decide +kernel) ?_ ?_ ?_) | (refine HO_2p 18 22 (by decide +kernel) rfl rfl (by decide +kernel) ?_ ?_) | (refine HO_2p 18 23 (by decide +kernel) rfl rfl (by decide +kernel) ?_ ?_) | (refine HO_2p 22 23 (by decide +kernel) rfl rfl (by decide +kernel) ?_ ?_) | (refine KC ?_; refine HO_callP rfl rfl rfl rfl (c1) findA (srcsA) rfl rfl soA ?_; intro u hu; dsimp only [lca, lna]) | refine SB ?_ | (refine T2 ?_; intros) | fail)
   all_goals
    rename_i A' c'
    have e1 : z.us.length + 1 = (z.us ++ [u]).length := by simp
    have e2 : z.us.map UpS.e ++ [[Value.slice u.gA u.gone.length u.gc, .slice u.rA u.routes.length u.rc, .int .i64 u.a.org, .slice u.a.pA u.a.path.length u.a.pc, .int .u32 u.a.nxt, .int .i64 u.a.med, .int .i64 u.a.pref, .slice u.a.cA u.a.comms.length u.a.cc, .bool u.soft]] = (z.us ++ [u]).map UpS.e := by rw [List.map_append]; rfl
    rw [e1, e2]
    have hz2 := rs_snoc hz hu.1 hu.2 (A', c')
    have e3 : upsL z.us ++ u.ro = upsL (z.us ++ [u]) := by simp [upsL]
    (refine SRt ?_; unfold RetQ; refine ⟨(), trivial, rfl, (by
     refine Keeps.comp (Keeps.close (φ := fun _ : Nat × Nat => True) (f := peF p t x) y trivial findA) ?_
     refine Keeps.comp (b := [inn (upsL z.us), inn u.ro, cel h 104 (pt p :: .int .i64 now :: rsC { r with ups := r.ups ++ [u0] } ⟨z.us ++ [u], (A', c'), z.l⟩), own idE 55 9 A' (z.us ++ [u]).length c' ((z.us ++ [u]).map UpS.e), ownB z.l r.last, peP p t x]) permA ?_
     refine Keeps.comp (inn_flat Keeps.refl) ?_
     rw [e3]
     exact Keeps.close (φ := RsOk { r with ups := r.ups ++ [u0] }) (f := haF h p now { r with ups := r.ups ++ [u0] }) ⟨z.us ++ [u], (A', c'), z.l⟩ hz2 permA)⟩)
 ·rw [if_neg h5]
  refine Tri_in Tryz.func99 rfl (fun w0 S0 => ?_)
  repeat' (first | refine SD ?_ | refine SB ?_ | (refine T2 ?_; intros) | fail)
  (refine SRt ?_; unfold RetQ; refine ⟨(), trivial, rfl, (Keeps.comp (Keeps.close (φ := fun _ : Nat × Nat => True) (f := peF p t x) y trivial findA) (Keeps.close (φ := RsOk r) (f := haF h p now r) z hz permA))⟩)
theorem pevent_t (h p t : Nat) (now : Int) (r : RsQ UpP) (hr : r.ups.length ≤ 70000) (x : PrQ) (k : Int) (A : Option Addr) (c : Nat) (b : List UInt8) (hb : b.length ≤ 100000) (hc : b.length ≤ c) :
  Tri Tryz.prog 66 [pt h, mgV k A b.length c] [arr bE 1 A b] [haP h p now r, peP p t x] (fun _ : OA => True) (fun z => evV (msgM updM x r k b).2 z.1 z.2)
   (fun z => [ownB z (msgM updM x r k b).2.nt.d, haP h p now (msgM updM x r k b).1, peP p t x]) := by
 by_cases h2 : k = 2
 ·subst h2
  have c1 := pupdated_t h p t now r hr x A c b hb
  have hd : (msgM updM x r 2 b).2.nt.d = [] := by
   unfold msgM
   rw [if_neg (by decide), if_neg (by decide), if_pos rfl]
   split
   ·rcases updM_cases x.st.four x.st.paths b with ⟨n, hM, _, hn⟩ | ⟨u, hM⟩
    ·rw [hM]
     exact hn
    ·rw [hM]
     rfl
   ·rfl
  obtain ⟨⟨r2, ⟨ek, eo, ⟨nc, ns, nd⟩⟩⟩, hM⟩ : ∃ M, msgM updM x r 2 b = M := ⟨_, rfl⟩
  rw [hM] at c1 hd ⊢
  dsimp only at hd
  subst hd
  dsimp only [mgV, List.length_nil] at c1 ⊢
  refine Tri_in Tryz.func66 rfl (fun w0 S0 => ?_)
  repeat' (first | refine SD ?_ | (refine KC ?_; refine HO_callP rfl rfl rfl rfl (c1) findA (srcsA) rfl rfl soA ?_; intro u hu; dsimp only [lca, lna]) | refine SB ?_ | (refine S2 ?_; intro _) | fail)
  (refine SRt ?_; unfold RetQ; refine ⟨(none, 0), trivial, rfl, (Keeps.add (fun w => own_nil w) permA)⟩)
 unfold msgM
 by_cases h1 : k = 1
 ·subst h1
  rw [if_pos rfl]
  have c1 := oget_t A c b hb hc
  obtain ⟨⟨o, n⟩, hM⟩ : ∃ M, opM b = M := ⟨_, rfl⟩
  rw [hM] at c1 ⊢
  dsimp only [noV, opV, mgV] at c1 ⊢
  have k2 := fun A c => pbad_t n A c
  dsimp only [noV] at k2
  by_cases hn : n.c ≠ 0
  ·rw [if_pos hn]
   dsimp only [badQ]
   refine Tri_in Tryz.func66 rfl (fun w0 S0 => ?_)
   repeat' (first | refine SD ?_ | (refine KC ?_; refine HO_callP rfl rfl rfl rfl (c1) findA (srcsA) rfl rfl soA ?_; intro ⟨y1, y2⟩ hu; dsimp only [lca, lna]) | (refine KC ?_; refine HO_callq rfl rfl rfl rfl (k2 _ _) (fun _ _ => rfl) (trivial) rfl rfl sqA ?_) | refine SB ?_ | (refine S2 ?_; intro _) | fail)
   (refine SRt ?_; unfold RetQ; refine ⟨(y1, y2), trivial, rfl, permA⟩)
  ·rw [if_neg hn]
   refine Tri_in Tryz.func66 rfl (fun w0 S0 => ?_)
   repeat' (first | refine SD ?_ | (refine KC ?_; refine HO_callP rfl rfl rfl rfl (c1) findA (srcsA) rfl rfl soA ?_; intro ⟨y1, y2⟩ hu; dsimp only [lca, lna]) | refine SB ?_ | (refine S2 ?_; intro _) | fail)
   (refine SRt ?_; unfold RetQ; refine ⟨(none, 0), trivial, rfl, (Keeps.add (fun w => own_nil w) permA)⟩)
 rw [if_neg h1]
 by_cases h3 : k = 3
 ·subst h3
  rw [if_pos rfl]
  dsimp only [mgV]
  refine Tri_in Tryz.func66 rfl (fun w0 S0 => ?_)
  repeat' (first | refine SD ?_ | refine SB ?_ | (refine S2 ?_; intro _) | fail)
  (refine SRt ?_; unfold RetQ; refine ⟨(none, 0), trivial, rfl, (Keeps.add (fun w => own_nil w) permA)⟩)
 ·rw [if_neg h3, if_neg h2]
  dsimp only [mgV]
  refine Tri_in Tryz.func66 rfl (fun w0 S0 => ?_)
  repeat' (first | refine SD ?_ | refine SB ?_ | (refine S2 ?_; intro _) | fail)
  (refine SRt ?_; unfold RetQ; refine ⟨(none, 0), trivial, rfl, (Keeps.add (fun w => own_nil w) permA)⟩)
end Go.Proofs.YteeogabkkblkgaaGreatDoor
