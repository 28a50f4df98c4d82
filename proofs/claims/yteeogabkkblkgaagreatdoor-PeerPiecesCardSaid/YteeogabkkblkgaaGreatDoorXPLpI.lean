/- Part of a proof of many texts: what the theorem at its end leans on. -/
import Derived.Test.YteeogabkkblkgaaGreatDoorXPLpF
import Derived.Test.YteeogabkkblkgaaGreatDoorXPLpE
namespace Go.Proofs.YteeogabkkblkgaaGreatDoor
set_option maxHeartbeats 1000000000
set_option linter.unusedVariables false
set_option linter.unusedSimpArgs false
open Go.RowKit
attribute [local irreducible] HC HX HO Tri eP adr
structure PcZ where
 i : Nat
 A : Option Addr
 m : Nat
 z : RsZ
structure PcI (A : Option Addr) (b : List UInt8) (y : PcZ) : Prop where
 i : y.i ≤ b.length
 m : b.length - y.i ≤ y.m
 e : Ent (arr bE 1 A b) (arr bE 1 y.A (b.drop y.i))
 z : RsOk (pcM b y.i).2 y.z
theorem radd_ok {a b : RsQ UpP} {z w : RsZ} (hz : RsOk a z) (hw : RsOk b w) (U L : OA) : RsOk (radd a b) ⟨z.us ++ w.us, U, L⟩ := by
 refine ⟨?_, fun u hu => ?_⟩
 ·show (z.us ++ w.us).map UpS.p = a.ups ++ b.ups
  rw [List.map_append, hz.1, hw.1]
 ·exact (List.mem_append.1 hu).elim (hz.2 u) (hw.2 u)
theorem HO_or3 {P : Program} {N : Nat} {w0 : World} {S0 : Foot} {ops : List Oper} {lq : List Nat} {env : Env} {ro rw : List SL} {K : Act → World → Prop} {ro0 : List SL} {b v : Bool} {i0 i1 i2 d : Nat}
  (hT : ∀ K', HO (.lex ro0) P N w0 S0 ops lq ((d, .bool true) :: env) ro rw K' → b = true → HO (.lex ro0) P N w0 S0 ops (i0 :: i1 :: i2 :: lq) env ro rw K')
  (hF : ∀ K', HO (.lex ro0) P N w0 S0 ops lq ((d, .bool v) :: env) ro rw K' → b = false → HO (.lex ro0) P N w0 S0 ops (i0 :: i1 :: i2 :: lq) env ro rw K')
  (h : HO (.lex ro0) P N w0 S0 ops lq ((d, .bool (b || v)) :: env) ro rw K) : HO (.lex ro0) P N w0 S0 ops (i0 :: i1 :: i2 :: lq) env ro rw K := by
 cases hb : b with
 | true =>
  rw [hb] at h
  exact hT K h hb
 | false =>
  rw [hb] at h
  exact hF K h hb
def freshB (d : Nat) (env : Env) : Bool := env.all fun p => !Nat.beq p.1 d
theorem get_fresh {d : Nat} {v : Value} {env : Env} (h : freshB d env = true) : ∀ t u, Env.get env t = some u → Env.get ((d, v) :: env) t = some u := fun t u hu => by
 have hne : d ≠ t := fun e => by
  subst e
  have hmem : ∃ p ∈ env, p.1 = d := by
   clear h
   induction env with
   | nil => simp [Env.get] at hu
   | cons p env ih =>
    obtain ⟨t', v'⟩ := p
    by_cases he : t' = d
    ·exact ⟨_, List.mem_cons_self .., he⟩
    ·have hb : Nat.beq t' d = false := by
      cases hb : Nat.beq t' d with
      | false => rfl
      | true => exact absurd (Nat.eq_of_beq_eq_true hb) he
     simp only [Env.get, hb] at hu
     obtain ⟨q, hq, hq2⟩ := ih hu
     exact ⟨q, List.mem_cons_of_mem _ hq, hq2⟩
  obtain ⟨p, hp, hp2⟩ := hmem
  have := List.all_eq_true.1 h p hp
  rw [hp2] at this
  simp at this
 have hb : Nat.beq d t = false := by
  cases hb : Nat.beq d t with
  | false => rfl
  | true => exact absurd (Nat.eq_of_beq_eq_true hb) hne
 simp only [Env.get, hb]
 exact hu
theorem HO_drop2 {P : Program} {N : Nat} {w0 : World} {S0 : Foot} {ops : List Oper} {l : List Nat} {env : Env} {ro rw : List SL} {K : Act → World → Prop} {ro0 : List SL} {d d1 d0 : Nat} {x u1 u0 : Value} (h0 : freshB d0 env = true) (h1 : freshB d1 ((d0, u0) :: env) = true)
  (h : HO (.lex ro0) P N w0 S0 ops l ((d, x) :: env) ro rw K) : HO (.lex ro0) P N w0 S0 ops l ((d, x) :: (d1, u1) :: (d0, u0) :: env) ro rw K := by
 unfold HO at h ⊢
 refine fun held hro a S w ha hf => h held hro a S w ⟨ha.size, ha.defers, fun t v ht => ha.at_ t v ?_⟩ hf
 cases hb : Nat.beq d t with
 | true =>
  simp only [Env.get, hb] at ht ⊢
  exact ht
 | false =>
  have h2 : Env.get ((d, x) :: (d1, u1) :: (d0, u0) :: env) t = Env.get ((d1, u1) :: (d0, u0) :: env) t := by
   rw [Env.get, hb]
  rw [h2]
  rw [Env.get, hb] at ht
  exact get_fresh h1 t v (get_fresh h0 t v ht)
theorem HX_atK {N : Nat} {w0 : World} {S0 : Foot} {env : Env} {ro rw : List SL} {Q : Exit → Act → World → Prop} {α : Type} {φ : α → Prop} {E : α → Env} {R : α → List SL} (x : α) (hφ : φ x) (hE : SubE (E x) env) (hk : Keeps rw (R x)) : HX N w0 S0 .normal env ro rw (Exit.then (At N w0 S0 ro φ E R) Q) :=
 HX_keeps hk (HX_at x hφ hE rfl)
theorem Tri_phi {P : Program} {g : Nat} {args : List Value} {ro rw : List SL} {α : Type} {φ ψ : α → Prop} {val : α → Value} {es : α → List SL} (h : Tri P g args ro rw φ val es) (hp : ∀ x, φ x → ψ x) : Tri P g args ro rw ψ val es := Tri_map h id hp (fun _ _ => rfl) (fun _ _ => Keeps.refl)
theorem rs_len {r : RsQ UpP} {z : RsZ} (hz : RsOk r z) : z.us.length = r.ups.length := by
 have := congrArg List.length hz.1
 rwa [List.length_map] at this
@[reducible] def pcE (n : Nat) (piece : Int) (p q b9 b10 : Nat) (y : PcZ) : Env := [(0, .slice y.A (n - y.i) y.m), (1, .int .i64 piece), (5, pt p), (7, pt q), (9, pt b9), (10, pt b10)]
@[reducible] def pcP (p t b9 q u b10 : Nat) (b : List UInt8) (z : RsZ) (y : PcZ) : List SL := cel b9 29 (rsC (pcM b b.length).2 z) :: (rsP (pcM b b.length).2 z ++ (peP p t (pcM b b.length).1 :: peP q u (pcM b y.i).1 :: cel b10 29 (rsC (pcM b y.i).2 y.z) :: rsP (pcM b y.i).2 y.z))
set_option maxRecDepth 100000 in
theorem pieces_t (A : Option Addr) (c : Nat) (b : List UInt8) (hbc : b.length ≤ c) (piece : Int) :
  Tri Tryz.prog 3 [.slice A b.length c, .int .i64 piece] [leW, arr bE 1 A b] [] (fun _ : Unit => True) (fun _ => .bool true) (fun _ => []) := by
 have cl := lives_t
 by_cases g1 : (b.length : Int) > 5000
 ·refine Tri_in Tryz.func3 rfl (fun w0 S0 => ?_)
  repeat' (first | refine SK ?_ | refine SD ?_ | (refine KC ?_; refine HO_callq rfl rfl rfl rfl (cl) (fun _ _ => rfl) (srcsA) rfl rfl sqA ?_) | refine SB ?_ | (refine T2 ?_; intros) | fail)
  (refine SRt ?_; refine RU ?_)
  rfl
 by_cases g2 : piece < 1
 ·refine Tri_in Tryz.func3 rfl (fun w0 S0 => ?_)
  repeat' (first | refine SK ?_ | refine SD ?_ | (refine KC ?_; refine HO_callq rfl rfl rfl rfl (cl) (fun _ _ => rfl) (srcsA) rfl rfl sqA ?_) | refine SB ?_ | (refine T2 ?_; intros) | fail)
  (refine SRt ?_; refine RU ?_)
  rfl
 have c0 := begun_t
 have c1 := fun p t => pfeed_t p t 5 bg2.1 ok_bg2 (by decide +kernel) (by kernel_rfl) A c b (by omega)
 have z0 := pc_0 b
 have hall := pc_all b
 obtain ⟨B, hB⟩ : ∃ B, bg2.1 = B := ⟨_, rfl⟩
 rw [hB] at c0 c1 z0 hall
 rw [← hall] at c1
 clear hB hall
 have hI := pc_i b
 have hst := pc_step b (by omega)
 dsimp only [rsV, rsC, rsP, lca, lna] at c1
 refine Tri_in Tryz.func3 rfl (fun w0 S0 => ?_)
 repeat' (first | refine SK ?_ | refine SD ?_ | (refine KC ?_; refine HO_callP rfl rfl rfl rfl (c0) findA (srcsA) rfl rfl soA ?_; intro ⟨p, t⟩ hp; dsimp only [lca, lna]) | (refine KC ?_; refine HO_callq rfl rfl rfl rfl (cl) (fun _ _ => rfl) (srcsA) rfl rfl sqA ?_) | (refine KC ?_; refine HO_callP rfl rfl rfl rfl (c1 _ _) findA (srcsA) rfl rfl soA ?_; intro z1 hz1; dsimp only [lca, lna]) | refine S1 ?_ | (refine T2 ?_; intros) | refine S5n ?_ | fail)
 rename_i p1 t1 hp1 b9 b10
 refine HC_keeps (rw' := pcP p1 t1 b9 p t b10 b z1 ⟨0, A, c, zz⟩) ?_ ?_
 ·dsimp only [pcP, rsP, rsC]
  rw [z0]
  refine Keeps.comp (b := [cel b9 29 (rsC (pcM b b.length).2 z1), own idE 55 9 z1.u.fst z1.us.length z1.u.snd (List.map UpS.e z1.us), inn (upsL z1.us), ownB z1.l (pcM b b.length).snd.last, peP p1 t1 (pcM b b.length).fst, peP p t B,
   cel b10 29 [.slice none 0 0, .bool false, .bool false, .slice none 0 0, .bool false, .bool false]]) permA ?_
  exact Keeps.pick 0 rfl rfl (Keeps.pick 0 rfl rfl (Keeps.pick 0 rfl rfl (Keeps.pick 0 rfl rfl (Keeps.pick 0 rfl rfl (Keeps.pick 0 rfl rfl (Keeps.pick 0 rfl rfl (Keeps.add (fun w => own_nil w) (Keeps.add (fun w => inn_nil w) (Keeps.add (fun w => own_nil w) Keeps.nil)))))))))
 refine HC_loop (α := PcZ) (PcI A b) (pcE b.length piece p1 p b9 b10) (pcP p1 t1 b9 p t b10 b z1) (fun y => b.length - y.i) rfl ⟨0, A, c, zz⟩ ⟨Nat.zero_le _, hbc, fun _ _ h => h, by rw [z0]; exact zz_ok⟩ ⟨rfl, rfl, rfl, rfl, rfl, rfl, trivial⟩ rfl ?_
 rintro ⟨i, B2, m, z⟩ ⟨hi, hm, hE, hz⟩
 have hIi := hI i
 dsimp only [pcE, pcP, rsP, rsC, lca, lna] at hi hm hE hz ⊢
 have hidi : 0 ≤ (pcM b i).1.lo.id ∧ (pcM b i).1.lo.id ≤ 4294967295 := by rw [hIi.1.lo]; decide
 rcases Nat.lt_or_ge i b.length with hlt | hge
 ·have hr : ((b.length - i : Nat) : Int) > 0 := by omega
  by_cases hpc : piece > ((b.length - i : Nat) : Int)
  ·obtain ⟨k, hk⟩ : ∃ k, b.length - i = k := ⟨_, rfl⟩
   have hki : k ≤ b.length - i := by omega
   have hk1 : 1 ≤ k := by omega
   have hlen : k - k = b.length - (i + k) := by omega
   rw [hk] at hm hr hpc ⊢
   have h1 := hst i k (by omega)
   have hl : ((b.drop i).take k).length = k := by rw [List.length_take, List.length_drop]; omega
   have hR := (hIi.1.in 5 ((b.drop i).take k)).2
   have c3 := fun A' c' => Tri_phi (ψ := fun z => RsOk (inM updM 5 (pcM b i).1 ((b.drop i).take k)).2 z ∧ z.us.length ≤ 1000000) (pfeed_t p t 5 (pcM b i).1 hIi.1.ok hidi hIi.1.s A' c' ((b.drop i).take k) (by omega)) (fun x hx => ⟨hx, by rw [rs_len hx]; exact hR.u⟩)
   have hz0 := rs_len hz
   have hR0 := hIi.2
   simp only [hl] at c3
   have hsrc : Ent (arr bE 1 A b) (arr bE 1 B2 ((b.drop i).take k)) := fun S w h => arr_take k S w (hE S w h)
   obtain ⟨CH, hCH⟩ : ∃ CH, (b.drop i).take k = CH := ⟨_, rfl⟩
   rw [hCH] at c3 h1 hl hsrc hR
   obtain ⟨⟨x1, ⟨ups1, con1, clo1, last1, up1, dn1⟩⟩, hX⟩ : ∃ X, inM updM 5 (pcM b i).1 CH = X := ⟨_, rfl⟩
   rw [hX] at c3 h1 hR
   obtain ⟨⟨x0, ⟨ups0, con0, clo0, last0, up0, dn0⟩⟩, h0⟩ : ∃ X, pcM b i = X := ⟨_, rfl⟩
   rw [h0] at h1 c3 hz hz0 hR0 ⊢
   obtain ⟨u0, l0⟩ := hR0
   obtain ⟨u1, l1⟩ := hR
   dsimp only [radd, rsV, rsC, rsP, lca, lna] at h1 c3 hz hz0 u0 l0 u1 l1 ⊢
   have hz0w : z.us.length ≤ 1000000 := by omega
   repeat' (first | refine SK ?_ | refine SD ?_ | (refine KC ?_; refine HO_callP rfl rfl rfl rfl (c3 _ _) findA ((AllSrc.via 1 rfl hsrc (AllSrc.at_ 0 rfl trivial))) rfl rfl soA ?_; intro y ⟨hy, hyl⟩; dsimp only [lca, lna]) | refine S1 ?_ | (refine T2 ?_; intros) | refine S5n ?_ | fail)
   rename_i b12 A1 c1'
   refine HC_cutP (α := Unit) (fun _ => True) (fun _ => [(0, .slice (cutA B2 1 m k) (k - k) (m - k)), (12, pt b12), (1, .int .i64 piece), (5, pt p1), (7, pt p), (9, pt b9), (10, pt b10)])
    (fun _ => [cel b10 29 [.slice A1 (z.us.length + y.us.length) c1', .bool (con0 || con1), .bool (clo0 || clo1), .slice z.l.1 last0.length z.l.2, .bool (up0 || up1), .bool (dn0 || dn1)],
     own idE 55 9 A1 (z.us.length + y.us.length) c1' (List.map UpS.e z.us ++ List.map UpS.e y.us),
     cel b12 29 [.slice y.u.1 y.us.length y.u.2, .bool con1, .bool clo1, .slice y.l.1 last1.length y.l.2, .bool up1, .bool dn1],
     inn (upsL z.us), inn (upsL y.us), ownB z.l last0, ownB y.l last1, peP p t x1,
     cel b9 29 [.slice z1.u.1 z1.us.length z1.u.2, .bool (pcM b b.length).2.con, .bool (pcM b b.length).2.clo, .slice z1.l.1 (pcM b b.length).2.last.length z1.l.2, .bool (pcM b b.length).2.up, .bool (pcM b b.length).2.dn],
     own idE 55 9 z1.u.1 z1.us.length z1.u.2 (List.map UpS.e z1.us), inn (upsL z1.us), ownB z1.l (pcM b b.length).2.last, peP p1 t1 (pcM b b.length).1]) ?_ ?_
   ·refine HC_lex rfl rfl (by decide +kernel) rfl rfl ?_
    refine HO_names (l' := [0, 6, 12, 18, 1, 2, 3, 4, 5, 7, 8, 9, 10, 11, 13, 14, 15, 16, 17, 19, 20, 21, 22, 23, 24, 25, 26, 27, 28, 29, 30, 31]) (by decide +kernel) ?_
    refine HO_holdA 1 rfl rfl ?_
    iterate 4 (first | refine SK ?_ | exact HO_seg rfl rfl | refine S1 ?_ | (refine T2 ?_; intros) | (refine HO_g 2 rfl ?_; first | apply HO_a1 rfl | apply HO_o1 rfl))
    (refine HO_4p 1 7 13 19 (by decide +kernel) rfl rfl rfl rfl (by decide +kernel) ?_ ?_ ?_ ?_)
    ·(refine HO_k 2 rfl ?_; refine HO_loT rfl rfl rfl rfl rfl rfl soA ?_)
     first | refine SK ?_ | exact HO_seg rfl rfl | refine S1 ?_ | (refine T2 ?_; intros) | (refine HO_g 2 rfl ?_; first | apply HO_a1 rfl | apply HO_o1 rfl)
     refine HO_or3 (b := clo0) (v := clo1) (i0 := 3) (i1 := 4) (i2 := 5) (d := 71) (fun K' hk hb => by subst hb; (iterate 3 (first | refine SK ?_ | exact HO_seg rfl rfl | refine S1 ?_ | (refine T2 ?_; intros) | (refine HO_g 2 rfl ?_; first | apply HO_a1 rfl | apply HO_o1 rfl))); exact HO_drop2 rfl rfl hk) (fun K' hk hb => by subst hb; (iterate 3 (first | refine SK ?_ | exact HO_seg rfl rfl | refine S1 ?_ | (refine T2 ?_; intros) | (refine HO_g 2 rfl ?_; first | apply HO_a1 rfl | apply HO_o1 rfl))); exact HO_drop2 rfl rfl hk) ?_
     (refine HO_3p 7 13 19 (by decide +kernel) rfl rfl rfl (by decide +kernel) ?_ ?_ ?_)
     ·(refine HO_k 2 rfl ?_; refine HO_loT rfl rfl rfl rfl rfl rfl soA ?_)
      first | refine SK ?_ | exact HO_seg rfl rfl | refine S1 ?_ | (refine T2 ?_; intros) | (refine HO_g 2 rfl ?_; first | apply HO_a1 rfl | apply HO_o1 rfl)
      refine HO_or3 (b := up0) (v := up1) (i0 := 9) (i1 := 10) (i2 := 11) (d := 77) (fun K' hk hb => by subst hb; (iterate 3 (first | refine SK ?_ | exact HO_seg rfl rfl | refine S1 ?_ | (refine T2 ?_; intros) | (refine HO_g 2 rfl ?_; first | apply HO_a1 rfl | apply HO_o1 rfl))); exact HO_drop2 rfl rfl hk) (fun K' hk hb => by subst hb; (iterate 3 (first | refine SK ?_ | exact HO_seg rfl rfl | refine S1 ?_ | (refine T2 ?_; intros) | (refine HO_g 2 rfl ?_; first | apply HO_a1 rfl | apply HO_o1 rfl))); exact HO_drop2 rfl rfl hk) ?_
      (refine HO_2p 13 19 (by decide +kernel) rfl rfl (by decide +kernel) ?_ ?_)
      ·(refine HO_k 2 rfl ?_; refine HO_loT rfl rfl rfl rfl rfl rfl soA ?_)
       first | refine SK ?_ | exact HO_seg rfl rfl | refine S1 ?_ | (refine T2 ?_; intros) | (refine HO_g 2 rfl ?_; first | apply HO_a1 rfl | apply HO_o1 rfl)
       refine HO_or3 (b := dn0) (v := dn1) (i0 := 15) (i1 := 16) (i2 := 17) (d := 83) (fun K' hk hb => by subst hb; (iterate 3 (first | refine SK ?_ | exact HO_seg rfl rfl | refine S1 ?_ | (refine T2 ?_; intros) | (refine HO_g 2 rfl ?_; first | apply HO_a1 rfl | apply HO_o1 rfl))); exact HO_drop2 rfl rfl hk) (fun K' hk hb => by subst hb; (iterate 3 (first | refine SK ?_ | exact HO_seg rfl rfl | refine S1 ?_ | (refine T2 ?_; intros) | (refine HO_g 2 rfl ?_; first | apply HO_a1 rfl | apply HO_o1 rfl))); exact HO_drop2 rfl rfl hk) ?_
       (refine HO_k 2 rfl ?_; refine HO_loT rfl rfl rfl rfl rfl rfl soA ?_)
       first | refine SK ?_ | exact HO_seg rfl rfl | refine S1 ?_ | (refine T2 ?_; intros) | (refine HO_g 2 rfl ?_; first | apply HO_a1 rfl | apply HO_o1 rfl)
       refine HO_or3 (b := con0) (v := con1) (i0 := 21) (i1 := 22) (i2 := 23) (d := 89) (fun K' hk hb => by subst hb; (iterate 3 (first | refine SK ?_ | exact HO_seg rfl rfl | refine S1 ?_ | (refine T2 ?_; intros) | (refine HO_g 2 rfl ?_; first | apply HO_a1 rfl | apply HO_o1 rfl))); exact HO_drop2 rfl rfl hk) (fun K' hk hb => by subst hb; (iterate 3 (first | refine SK ?_ | exact HO_seg rfl rfl | refine S1 ?_ | (refine T2 ?_; intros) | (refine HO_g 2 rfl ?_; first | apply HO_a1 rfl | apply HO_o1 rfl))); exact HO_drop2 rfl rfl hk) ?_
       repeat' (first | (exact HX_atK () trivial ⟨rfl, rfl, rfl, rfl, rfl, rfl, rfl, trivial⟩ permA) | refine S1 ?_ | (refine T2 ?_; intros) | fail)
      ·(refine HO_k 2 rfl ?_; refine HO_loT rfl rfl rfl rfl rfl rfl soA ?_)
       (refine HO_k 2 rfl ?_; refine HO_loT rfl rfl rfl rfl rfl rfl soA ?_)
       first | refine SK ?_ | exact HO_seg rfl rfl | refine S1 ?_ | (refine T2 ?_; intros) | (refine HO_g 2 rfl ?_; first | apply HO_a1 rfl | apply HO_o1 rfl)
       refine HO_or3 (b := dn0) (v := dn1) (i0 := 15) (i1 := 16) (i2 := 17) (d := 83) (fun K' hk hb => by subst hb; (iterate 3 (first | refine SK ?_ | exact HO_seg rfl rfl | refine S1 ?_ | (refine T2 ?_; intros) | (refine HO_g 2 rfl ?_; first | apply HO_a1 rfl | apply HO_o1 rfl))); exact HO_drop2 rfl rfl hk) (fun K' hk hb => by subst hb; (iterate 3 (first | refine SK ?_ | exact HO_seg rfl rfl | refine S1 ?_ | (refine T2 ?_; intros) | (refine HO_g 2 rfl ?_; first | apply HO_a1 rfl | apply HO_o1 rfl))); exact HO_drop2 rfl rfl hk) ?_
       first | refine SK ?_ | exact HO_seg rfl rfl | refine S1 ?_ | (refine T2 ?_; intros) | (refine HO_g 2 rfl ?_; first | apply HO_a1 rfl | apply HO_o1 rfl)
       refine HO_or3 (b := con0) (v := con1) (i0 := 21) (i1 := 22) (i2 := 23) (d := 89) (fun K' hk hb => by subst hb; (iterate 3 (first | refine SK ?_ | exact HO_seg rfl rfl | refine S1 ?_ | (refine T2 ?_; intros) | (refine HO_g 2 rfl ?_; first | apply HO_a1 rfl | apply HO_o1 rfl))); exact HO_drop2 rfl rfl hk) (fun K' hk hb => by subst hb; (iterate 3 (first | refine SK ?_ | exact HO_seg rfl rfl | refine S1 ?_ | (refine T2 ?_; intros) | (refine HO_g 2 rfl ?_; first | apply HO_a1 rfl | apply HO_o1 rfl))); exact HO_drop2 rfl rfl hk) ?_
       repeat' (first | (exact HX_atK () trivial ⟨rfl, rfl, rfl, rfl, rfl, rfl, rfl, trivial⟩ permA) | refine S1 ?_ | (refine T2 ?_; intros) | fail)
     ·(refine HO_k 2 rfl ?_; refine HO_loT rfl rfl rfl rfl rfl rfl soA ?_)
      (refine HO_2p 7 19 (by decide +kernel) rfl rfl (by decide +kernel) ?_ ?_)
      ·(refine HO_k 2 rfl ?_; refine HO_loT rfl rfl rfl rfl rfl rfl soA ?_)
       first | refine SK ?_ | exact HO_seg rfl rfl | refine S1 ?_ | (refine T2 ?_; intros) | (refine HO_g 2 rfl ?_; first | apply HO_a1 rfl | apply HO_o1 rfl)
       refine HO_or3 (b := up0) (v := up1) (i0 := 9) (i1 := 10) (i2 := 11) (d := 77) (fun K' hk hb => by subst hb; (iterate 3 (first | refine SK ?_ | exact HO_seg rfl rfl | refine S1 ?_ | (refine T2 ?_; intros) | (refine HO_g 2 rfl ?_; first | apply HO_a1 rfl | apply HO_o1 rfl))); exact HO_drop2 rfl rfl hk) (fun K' hk hb => by subst hb; (iterate 3 (first | refine SK ?_ | exact HO_seg rfl rfl | refine S1 ?_ | (refine T2 ?_; intros) | (refine HO_g 2 rfl ?_; first | apply HO_a1 rfl | apply HO_o1 rfl))); exact HO_drop2 rfl rfl hk) ?_
       first | refine SK ?_ | exact HO_seg rfl rfl | refine S1 ?_ | (refine T2 ?_; intros) | (refine HO_g 2 rfl ?_; first | apply HO_a1 rfl | apply HO_o1 rfl)
       refine HO_or3 (b := dn0) (v := dn1) (i0 := 15) (i1 := 16) (i2 := 17) (d := 83) (fun K' hk hb => by subst hb; (iterate 3 (first | refine SK ?_ | exact HO_seg rfl rfl | refine S1 ?_ | (refine T2 ?_; intros) | (refine HO_g 2 rfl ?_; first | apply HO_a1 rfl | apply HO_o1 rfl))); exact HO_drop2 rfl rfl hk) (fun K' hk hb => by subst hb; (iterate 3 (first | refine SK ?_ | exact HO_seg rfl rfl | refine S1 ?_ | (refine T2 ?_; intros) | (refine HO_g 2 rfl ?_; first | apply HO_a1 rfl | apply HO_o1 rfl))); exact HO_drop2 rfl rfl hk) ?_
       (refine HO_k 2 rfl ?_; refine HO_loT rfl rfl rfl rfl rfl rfl soA ?_)
       first | refine SK ?_ | exact HO_seg rfl rfl | refine S1 ?_ | (refine T2 ?_; intros) | (refine HO_g 2 rfl ?_; first | apply HO_a1 rfl | apply HO_o1 rfl)
       refine HO_or3 (b := con0) (v := con1) (i0 := 21) (i1 := 22) (i2 := 23) (d := 89) (fun K' hk hb => by subst hb; (iterate 3 (first | refine SK ?_ | exact HO_seg rfl rfl | refine S1 ?_ | (refine T2 ?_; intros) | (refine HO_g 2 rfl ?_; first | apply HO_a1 rfl | apply HO_o1 rfl))); exact HO_drop2 rfl rfl hk) (fun K' hk hb => by subst hb; (iterate 3 (first | refine SK ?_ | exact HO_seg rfl rfl | refine S1 ?_ | (refine T2 ?_; intros) | (refine HO_g 2 rfl ?_; first | apply HO_a1 rfl | apply HO_o1 rfl))); exact HO_drop2 rfl rfl hk) ?_
       repeat' (first | (exact HX_atK () trivial ⟨rfl, rfl, rfl, rfl, rfl, rfl, rfl, trivial⟩ permA) | refine S1 ?_ | (refine T2 ?_; intros) | fail)
      ·(refine HO_k 2 rfl ?_; refine HO_loT rfl rfl rfl rfl rfl rfl soA ?_)
       (refine HO_k 2 rfl ?_; refine HO_loT rfl rfl rfl rfl rfl rfl soA ?_)
       first | refine SK ?_ | exact HO_seg rfl rfl | refine S1 ?_ | (refine T2 ?_; intros) | (refine HO_g 2 rfl ?_; first | apply HO_a1 rfl | apply HO_o1 rfl)
       refine HO_or3 (b := up0) (v := up1) (i0 := 9) (i1 := 10) (i2 := 11) (d := 77) (fun K' hk hb => by subst hb; (iterate 3 (first | refine SK ?_ | exact HO_seg rfl rfl | refine S1 ?_ | (refine T2 ?_; intros) | (refine HO_g 2 rfl ?_; first | apply HO_a1 rfl | apply HO_o1 rfl))); exact HO_drop2 rfl rfl hk) (fun K' hk hb => by subst hb; (iterate 3 (first | refine SK ?_ | exact HO_seg rfl rfl | refine S1 ?_ | (refine T2 ?_; intros) | (refine HO_g 2 rfl ?_; first | apply HO_a1 rfl | apply HO_o1 rfl))); exact HO_drop2 rfl rfl hk) ?_
       first | refine SK ?_ | exact HO_seg rfl rfl | refine S1 ?_ | (refine T2 ?_; intros) | (refine HO_g 2 rfl ?_; first | apply HO_a1 rfl | apply HO_o1 rfl)
       refine HO_or3 (b := dn0) (v := dn1) (i0 := 15) (i1 := 16) (i2 := 17) (d := 83) (fun K' hk hb => by subst hb; (iterate 3 (first | refine SK ?_ | exact HO_seg rfl rfl | refine S1 ?_ | (refine T2 ?_; intros) | (refine HO_g 2 rfl ?_; first | apply HO_a1 rfl | apply HO_o1 rfl))); exact HO_drop2 rfl rfl hk) (fun K' hk hb => by subst hb; (iterate 3 (first | refine SK ?_ | exact HO_seg rfl rfl | refine S1 ?_ | (refine T2 ?_; intros) | (refine HO_g 2 rfl ?_; first | apply HO_a1 rfl | apply HO_o1 rfl))); exact HO_drop2 rfl rfl hk) ?_
       first | refine SK ?_ | exact HO_seg rfl rfl | refine S1 ?_ | (refine T2 ?_; intros) | (refine HO_g 2 rfl ?_; first | apply HO_a1 rfl | apply HO_o1 rfl)
       refine HO_or3 (b := con0) (v := con1) (i0 := 21) (i1 := 22) (i2 := 23) (d := 89) (fun K' hk hb => by subst hb; (iterate 3 (first | refine SK ?_ | exact HO_seg rfl rfl | refine S1 ?_ | (refine T2 ?_; intros) | (refine HO_g 2 rfl ?_; first | apply HO_a1 rfl | apply HO_o1 rfl))); exact HO_drop2 rfl rfl hk) (fun K' hk hb => by subst hb; (iterate 3 (first | refine SK ?_ | exact HO_seg rfl rfl | refine S1 ?_ | (refine T2 ?_; intros) | (refine HO_g 2 rfl ?_; first | apply HO_a1 rfl | apply HO_o1 rfl))); exact HO_drop2 rfl rfl hk) ?_
       repeat' (first | (exact HX_atK () trivial ⟨rfl, rfl, rfl, rfl, rfl, rfl, rfl, trivial⟩ permA) | refine S1 ?_ | (refine T2 ?_; intros) | fail)
     ·(refine HO_k 2 rfl ?_; refine HO_loT rfl rfl rfl rfl rfl rfl soA ?_)
      (refine HO_2p 7 13 (by decide +kernel) rfl rfl (by decide +kernel) ?_ ?_)
      ·(refine HO_k 2 rfl ?_; refine HO_loT rfl rfl rfl rfl rfl rfl soA ?_)
       first | refine SK ?_ | exact HO_seg rfl rfl | refine S1 ?_ | (refine T2 ?_; intros) | (refine HO_g 2 rfl ?_; first | apply HO_a1 rfl | apply HO_o1 rfl)
       refine HO_or3 (b := up0) (v := up1) (i0 := 9) (i1 := 10) (i2 := 11) (d := 77) (fun K' hk hb => by subst hb; (iterate 3 (first | refine SK ?_ | exact HO_seg rfl rfl | refine S1 ?_ | (refine T2 ?_; intros) | (refine HO_g 2 rfl ?_; first | apply HO_a1 rfl | apply HO_o1 rfl))); exact HO_drop2 rfl rfl hk) (fun K' hk hb => by subst hb; (iterate 3 (first | refine SK ?_ | exact HO_seg rfl rfl | refine S1 ?_ | (refine T2 ?_; intros) | (refine HO_g 2 rfl ?_; first | apply HO_a1 rfl | apply HO_o1 rfl))); exact HO_drop2 rfl rfl hk) ?_
       (refine HO_k 2 rfl ?_; refine HO_loT rfl rfl rfl rfl rfl rfl soA ?_)
       first | refine SK ?_ | exact HO_seg rfl rfl | refine S1 ?_ | (refine T2 ?_; intros) | (refine HO_g 2 rfl ?_; first | apply HO_a1 rfl | apply HO_o1 rfl)
       refine HO_or3 (b := dn0) (v := dn1) (i0 := 15) (i1 := 16) (i2 := 17) (d := 83) (fun K' hk hb => by subst hb; (iterate 3 (first | refine SK ?_ | exact HO_seg rfl rfl | refine S1 ?_ | (refine T2 ?_; intros) | (refine HO_g 2 rfl ?_; first | apply HO_a1 rfl | apply HO_o1 rfl))); exact HO_drop2 rfl rfl hk) (fun K' hk hb => by subst hb; (iterate 3 (first | refine SK ?_ | exact HO_seg rfl rfl | refine S1 ?_ | (refine T2 ?_; intros) | (refine HO_g 2 rfl ?_; first | apply HO_a1 rfl | apply HO_o1 rfl))); exact HO_drop2 rfl rfl hk) ?_
       first | refine SK ?_ | exact HO_seg rfl rfl | refine S1 ?_ | (refine T2 ?_; intros) | (refine HO_g 2 rfl ?_; first | apply HO_a1 rfl | apply HO_o1 rfl)
       refine HO_or3 (b := con0) (v := con1) (i0 := 21) (i1 := 22) (i2 := 23) (d := 89) (fun K' hk hb => by subst hb; (iterate 3 (first | refine SK ?_ | exact HO_seg rfl rfl | refine S1 ?_ | (refine T2 ?_; intros) | (refine HO_g 2 rfl ?_; first | apply HO_a1 rfl | apply HO_o1 rfl))); exact HO_drop2 rfl rfl hk) (fun K' hk hb => by subst hb; (iterate 3 (first | refine SK ?_ | exact HO_seg rfl rfl | refine S1 ?_ | (refine T2 ?_; intros) | (refine HO_g 2 rfl ?_; first | apply HO_a1 rfl | apply HO_o1 rfl))); exact HO_drop2 rfl rfl hk) ?_
       repeat' (first | (exact HX_atK () trivial ⟨rfl, rfl, rfl, rfl, rfl, rfl, rfl, trivial⟩ permA) | refine S1 ?_ | (refine T2 ?_; intros) | fail)
      ·(refine HO_k 2 rfl ?_; refine HO_loT rfl rfl rfl rfl rfl rfl soA ?_)
       (refine HO_k 2 rfl ?_; refine HO_loT rfl rfl rfl rfl rfl rfl soA ?_)
       first | refine SK ?_ | exact HO_seg rfl rfl | refine S1 ?_ | (refine T2 ?_; intros) | (refine HO_g 2 rfl ?_; first | apply HO_a1 rfl | apply HO_o1 rfl)
       refine HO_or3 (b := up0) (v := up1) (i0 := 9) (i1 := 10) (i2 := 11) (d := 77) (fun K' hk hb => by subst hb; (iterate 3 (first | refine SK ?_ | exact HO_seg rfl rfl | refine S1 ?_ | (refine T2 ?_; intros) | (refine HO_g 2 rfl ?_; first | apply HO_a1 rfl | apply HO_o1 rfl))); exact HO_drop2 rfl rfl hk) (fun K' hk hb => by subst hb; (iterate 3 (first | refine SK ?_ | exact HO_seg rfl rfl | refine S1 ?_ | (refine T2 ?_; intros) | (refine HO_g 2 rfl ?_; first | apply HO_a1 rfl | apply HO_o1 rfl))); exact HO_drop2 rfl rfl hk) ?_
       first | refine SK ?_ | exact HO_seg rfl rfl | refine S1 ?_ | (refine T2 ?_; intros) | (refine HO_g 2 rfl ?_; first | apply HO_a1 rfl | apply HO_o1 rfl)
       refine HO_or3 (b := dn0) (v := dn1) (i0 := 15) (i1 := 16) (i2 := 17) (d := 83) (fun K' hk hb => by subst hb; (iterate 3 (first | refine SK ?_ | exact HO_seg rfl rfl | refine S1 ?_ | (refine T2 ?_; intros) | (refine HO_g 2 rfl ?_; first | apply HO_a1 rfl | apply HO_o1 rfl))); exact HO_drop2 rfl rfl hk) (fun K' hk hb => by subst hb; (iterate 3 (first | refine SK ?_ | exact HO_seg rfl rfl | refine S1 ?_ | (refine T2 ?_; intros) | (refine HO_g 2 rfl ?_; first | apply HO_a1 rfl | apply HO_o1 rfl))); exact HO_drop2 rfl rfl hk) ?_
       first | refine SK ?_ | exact HO_seg rfl rfl | refine S1 ?_ | (refine T2 ?_; intros) | (refine HO_g 2 rfl ?_; first | apply HO_a1 rfl | apply HO_o1 rfl)
       refine HO_or3 (b := con0) (v := con1) (i0 := 21) (i1 := 22) (i2 := 23) (d := 89) (fun K' hk hb => by subst hb; (iterate 3 (first | refine SK ?_ | exact HO_seg rfl rfl | refine S1 ?_ | (refine T2 ?_; intros) | (refine HO_g 2 rfl ?_; first | apply HO_a1 rfl | apply HO_o1 rfl))); exact HO_drop2 rfl rfl hk) (fun K' hk hb => by subst hb; (iterate 3 (first | refine SK ?_ | exact HO_seg rfl rfl | refine S1 ?_ | (refine T2 ?_; intros) | (refine HO_g 2 rfl ?_; first | apply HO_a1 rfl | apply HO_o1 rfl))); exact HO_drop2 rfl rfl hk) ?_
       repeat' (first | (exact HX_atK () trivial ⟨rfl, rfl, rfl, rfl, rfl, rfl, rfl, trivial⟩ permA) | refine S1 ?_ | (refine T2 ?_; intros) | fail)
    ·(refine HO_k 2 rfl ?_; refine HO_loT rfl rfl rfl rfl rfl rfl soA ?_)
     (refine HO_3p 1 13 19 (by decide +kernel) rfl rfl rfl (by decide +kernel) ?_ ?_ ?_)
     ·(refine HO_k 2 rfl ?_; refine HO_loT rfl rfl rfl rfl rfl rfl soA ?_)
      first | refine SK ?_ | exact HO_seg rfl rfl | refine S1 ?_ | (refine T2 ?_; intros) | (refine HO_g 2 rfl ?_; first | apply HO_a1 rfl | apply HO_o1 rfl)
      refine HO_or3 (b := clo0) (v := clo1) (i0 := 3) (i1 := 4) (i2 := 5) (d := 71) (fun K' hk hb => by subst hb; (iterate 3 (first | refine SK ?_ | exact HO_seg rfl rfl | refine S1 ?_ | (refine T2 ?_; intros) | (refine HO_g 2 rfl ?_; first | apply HO_a1 rfl | apply HO_o1 rfl))); exact HO_drop2 rfl rfl hk) (fun K' hk hb => by subst hb; (iterate 3 (first | refine SK ?_ | exact HO_seg rfl rfl | refine S1 ?_ | (refine T2 ?_; intros) | (refine HO_g 2 rfl ?_; first | apply HO_a1 rfl | apply HO_o1 rfl))); exact HO_drop2 rfl rfl hk) ?_
      first | refine SK ?_ | exact HO_seg rfl rfl | refine S1 ?_ | (refine T2 ?_; intros) | (refine HO_g 2 rfl ?_; first | apply HO_a1 rfl | apply HO_o1 rfl)
      refine HO_or3 (b := up0) (v := up1) (i0 := 9) (i1 := 10) (i2 := 11) (d := 77) (fun K' hk hb => by subst hb; (iterate 3 (first | refine SK ?_ | exact HO_seg rfl rfl | refine S1 ?_ | (refine T2 ?_; intros) | (refine HO_g 2 rfl ?_; first | apply HO_a1 rfl | apply HO_o1 rfl))); exact HO_drop2 rfl rfl hk) (fun K' hk hb => by subst hb; (iterate 3 (first | refine SK ?_ | exact HO_seg rfl rfl | refine S1 ?_ | (refine T2 ?_; intros) | (refine HO_g 2 rfl ?_; first | apply HO_a1 rfl | apply HO_o1 rfl))); exact HO_drop2 rfl rfl hk) ?_
      (refine HO_2p 13 19 (by decide +kernel) rfl rfl (by decide +kernel) ?_ ?_)
      ·(refine HO_k 2 rfl ?_; refine HO_loT rfl rfl rfl rfl rfl rfl soA ?_)
       first | refine SK ?_ | exact HO_seg rfl rfl | refine S1 ?_ | (refine T2 ?_; intros) | (refine HO_g 2 rfl ?_; first | apply HO_a1 rfl | apply HO_o1 rfl)
       refine HO_or3 (b := dn0) (v := dn1) (i0 := 15) (i1 := 16) (i2 := 17) (d := 83) (fun K' hk hb => by subst hb; (iterate 3 (first | refine SK ?_ | exact HO_seg rfl rfl | refine S1 ?_ | (refine T2 ?_; intros) | (refine HO_g 2 rfl ?_; first | apply HO_a1 rfl | apply HO_o1 rfl))); exact HO_drop2 rfl rfl hk) (fun K' hk hb => by subst hb; (iterate 3 (first | refine SK ?_ | exact HO_seg rfl rfl | refine S1 ?_ | (refine T2 ?_; intros) | (refine HO_g 2 rfl ?_; first | apply HO_a1 rfl | apply HO_o1 rfl))); exact HO_drop2 rfl rfl hk) ?_
       (refine HO_k 2 rfl ?_; refine HO_loT rfl rfl rfl rfl rfl rfl soA ?_)
       first | refine SK ?_ | exact HO_seg rfl rfl | refine S1 ?_ | (refine T2 ?_; intros) | (refine HO_g 2 rfl ?_; first | apply HO_a1 rfl | apply HO_o1 rfl)
       refine HO_or3 (b := con0) (v := con1) (i0 := 21) (i1 := 22) (i2 := 23) (d := 89) (fun K' hk hb => by subst hb; (iterate 3 (first | refine SK ?_ | exact HO_seg rfl rfl | refine S1 ?_ | (refine T2 ?_; intros) | (refine HO_g 2 rfl ?_; first | apply HO_a1 rfl | apply HO_o1 rfl))); exact HO_drop2 rfl rfl hk) (fun K' hk hb => by subst hb; (iterate 3 (first | refine SK ?_ | exact HO_seg rfl rfl | refine S1 ?_ | (refine T2 ?_; intros) | (refine HO_g 2 rfl ?_; first | apply HO_a1 rfl | apply HO_o1 rfl))); exact HO_drop2 rfl rfl hk) ?_
       repeat' (first | (exact HX_atK () trivial ⟨rfl, rfl, rfl, rfl, rfl, rfl, rfl, trivial⟩ permA) | refine S1 ?_ | (refine T2 ?_; intros) | fail)
      ·(refine HO_k 2 rfl ?_; refine HO_loT rfl rfl rfl rfl rfl rfl soA ?_)
       (refine HO_k 2 rfl ?_; refine HO_loT rfl rfl rfl rfl rfl rfl soA ?_)
       first | refine SK ?_ | exact HO_seg rfl rfl | refine S1 ?_ | (refine T2 ?_; intros) | (refine HO_g 2 rfl ?_; first | apply HO_a1 rfl | apply HO_o1 rfl)
       refine HO_or3 (b := dn0) (v := dn1) (i0 := 15) (i1 := 16) (i2 := 17) (d := 83) (fun K' hk hb => by subst hb; (iterate 3 (first | refine SK ?_ | exact HO_seg rfl rfl | refine S1 ?_ | (refine T2 ?_; intros) | (refine HO_g 2 rfl ?_; first | apply HO_a1 rfl | apply HO_o1 rfl))); exact HO_drop2 rfl rfl hk) (fun K' hk hb => by subst hb; (iterate 3 (first | refine SK ?_ | exact HO_seg rfl rfl | refine S1 ?_ | (refine T2 ?_; intros) | (refine HO_g 2 rfl ?_; first | apply HO_a1 rfl | apply HO_o1 rfl))); exact HO_drop2 rfl rfl hk) ?_
       first | refine SK ?_ | exact HO_seg rfl rfl | refine S1 ?_ | (refine T2 ?_; intros) | (refine HO_g 2 rfl ?_; first | apply HO_a1 rfl | apply HO_o1 rfl)
       refine HO_or3 (b := con0) (v := con1) (i0 := 21) (i1 := 22) (i2 := 23) (d := 89) (fun K' hk hb => by subst hb; (iterate 3 (first | refine SK ?_ | exact HO_seg rfl rfl | refine S1 ?_ | (refine T2 ?_; intros) | (refine HO_g 2 rfl ?_; first | apply HO_a1 rfl | apply HO_o1 rfl))); exact HO_drop2 rfl rfl hk) (fun K' hk hb => by subst hb; (iterate 3 (first | refine SK ?_ | exact HO_seg rfl rfl | refine S1 ?_ | (refine T2 ?_; intros) | (refine HO_g 2 rfl ?_; first | apply HO_a1 rfl | apply HO_o1 rfl))); exact HO_drop2 rfl rfl hk) ?_
       repeat' (first | (exact HX_atK () trivial ⟨rfl, rfl, rfl, rfl, rfl, rfl, rfl, trivial⟩ permA) | refine S1 ?_ | (refine T2 ?_; intros) | fail)
     ·(refine HO_k 2 rfl ?_; refine HO_loT rfl rfl rfl rfl rfl rfl soA ?_)
      (refine HO_2p 1 19 (by decide +kernel) rfl rfl (by decide +kernel) ?_ ?_)
      ·(refine HO_k 2 rfl ?_; refine HO_loT rfl rfl rfl rfl rfl rfl soA ?_)
       first | refine SK ?_ | exact HO_seg rfl rfl | refine S1 ?_ | (refine T2 ?_; intros) | (refine HO_g 2 rfl ?_; first | apply HO_a1 rfl | apply HO_o1 rfl)
       refine HO_or3 (b := clo0) (v := clo1) (i0 := 3) (i1 := 4) (i2 := 5) (d := 71) (fun K' hk hb => by subst hb; (iterate 3 (first | refine SK ?_ | exact HO_seg rfl rfl | refine S1 ?_ | (refine T2 ?_; intros) | (refine HO_g 2 rfl ?_; first | apply HO_a1 rfl | apply HO_o1 rfl))); exact HO_drop2 rfl rfl hk) (fun K' hk hb => by subst hb; (iterate 3 (first | refine SK ?_ | exact HO_seg rfl rfl | refine S1 ?_ | (refine T2 ?_; intros) | (refine HO_g 2 rfl ?_; first | apply HO_a1 rfl | apply HO_o1 rfl))); exact HO_drop2 rfl rfl hk) ?_
       first | refine SK ?_ | exact HO_seg rfl rfl | refine S1 ?_ | (refine T2 ?_; intros) | (refine HO_g 2 rfl ?_; first | apply HO_a1 rfl | apply HO_o1 rfl)
       refine HO_or3 (b := up0) (v := up1) (i0 := 9) (i1 := 10) (i2 := 11) (d := 77) (fun K' hk hb => by subst hb; (iterate 3 (first | refine SK ?_ | exact HO_seg rfl rfl | refine S1 ?_ | (refine T2 ?_; intros) | (refine HO_g 2 rfl ?_; first | apply HO_a1 rfl | apply HO_o1 rfl))); exact HO_drop2 rfl rfl hk) (fun K' hk hb => by subst hb; (iterate 3 (first | refine SK ?_ | exact HO_seg rfl rfl | refine S1 ?_ | (refine T2 ?_; intros) | (refine HO_g 2 rfl ?_; first | apply HO_a1 rfl | apply HO_o1 rfl))); exact HO_drop2 rfl rfl hk) ?_
       first | refine SK ?_ | exact HO_seg rfl rfl | refine S1 ?_ | (refine T2 ?_; intros) | (refine HO_g 2 rfl ?_; first | apply HO_a1 rfl | apply HO_o1 rfl)
       refine HO_or3 (b := dn0) (v := dn1) (i0 := 15) (i1 := 16) (i2 := 17) (d := 83) (fun K' hk hb => by subst hb; (iterate 3 (first | refine SK ?_ | exact HO_seg rfl rfl | refine S1 ?_ | (refine T2 ?_; intros) | (refine HO_g 2 rfl ?_; first | apply HO_a1 rfl | apply HO_o1 rfl))); exact HO_drop2 rfl rfl hk) (fun K' hk hb => by subst hb; (iterate 3 (first | refine SK ?_ | exact HO_seg rfl rfl | refine S1 ?_ | (refine T2 ?_; intros) | (refine HO_g 2 rfl ?_; first | apply HO_a1 rfl | apply HO_o1 rfl))); exact HO_drop2 rfl rfl hk) ?_
       (refine HO_k 2 rfl ?_; refine HO_loT rfl rfl rfl rfl rfl rfl soA ?_)
       first | refine SK ?_ | exact HO_seg rfl rfl | refine S1 ?_ | (refine T2 ?_; intros) | (refine HO_g 2 rfl ?_; first | apply HO_a1 rfl | apply HO_o1 rfl)
       refine HO_or3 (b := con0) (v := con1) (i0 := 21) (i1 := 22) (i2 := 23) (d := 89) (fun K' hk hb => by subst hb; (iterate 3 (first | refine SK ?_ | exact HO_seg rfl rfl | refine S1 ?_ | (refine T2 ?_; intros) | (refine HO_g 2 rfl ?_; first | apply HO_a1 rfl | apply HO_o1 rfl))); exact HO_drop2 rfl rfl hk) (fun K' hk hb => by subst hb; (iterate 3 (first | refine SK ?_ | exact HO_seg rfl rfl | refine S1 ?_ | (refine T2 ?_; intros) | (refine HO_g 2 rfl ?_; first | apply HO_a1 rfl | apply HO_o1 rfl))); exact HO_drop2 rfl rfl hk) ?_
       repeat' (first | (exact HX_atK () trivial ⟨rfl, rfl, rfl, rfl, rfl, rfl, rfl, trivial⟩ permA) | refine S1 ?_ | (refine T2 ?_; intros) | fail)
      ·(refine HO_k 2 rfl ?_; refine HO_loT rfl rfl rfl rfl rfl rfl soA ?_)
       (refine HO_k 2 rfl ?_; refine HO_loT rfl rfl rfl rfl rfl rfl soA ?_)
       first | refine SK ?_ | exact HO_seg rfl rfl | refine S1 ?_ | (refine T2 ?_; intros) | (refine HO_g 2 rfl ?_; first | apply HO_a1 rfl | apply HO_o1 rfl)
       refine HO_or3 (b := clo0) (v := clo1) (i0 := 3) (i1 := 4) (i2 := 5) (d := 71) (fun K' hk hb => by subst hb; (iterate 3 (first | refine SK ?_ | exact HO_seg rfl rfl | refine S1 ?_ | (refine T2 ?_; intros) | (refine HO_g 2 rfl ?_; first | apply HO_a1 rfl | apply HO_o1 rfl))); exact HO_drop2 rfl rfl hk) (fun K' hk hb => by subst hb; (iterate 3 (first | refine SK ?_ | exact HO_seg rfl rfl | refine S1 ?_ | (refine T2 ?_; intros) | (refine HO_g 2 rfl ?_; first | apply HO_a1 rfl | apply HO_o1 rfl))); exact HO_drop2 rfl rfl hk) ?_
       first | refine SK ?_ | exact HO_seg rfl rfl | refine S1 ?_ | (refine T2 ?_; intros) | (refine HO_g 2 rfl ?_; first | apply HO_a1 rfl | apply HO_o1 rfl)
       refine HO_or3 (b := up0) (v := up1) (i0 := 9) (i1 := 10) (i2 := 11) (d := 77) (fun K' hk hb => by subst hb; (iterate 3 (first | refine SK ?_ | exact HO_seg rfl rfl | refine S1 ?_ | (refine T2 ?_; intros) | (refine HO_g 2 rfl ?_; first | apply HO_a1 rfl | apply HO_o1 rfl))); exact HO_drop2 rfl rfl hk) (fun K' hk hb => by subst hb; (iterate 3 (first | refine SK ?_ | exact HO_seg rfl rfl | refine S1 ?_ | (refine T2 ?_; intros) | (refine HO_g 2 rfl ?_; first | apply HO_a1 rfl | apply HO_o1 rfl))); exact HO_drop2 rfl rfl hk) ?_
       first | refine SK ?_ | exact HO_seg rfl rfl | refine S1 ?_ | (refine T2 ?_; intros) | (refine HO_g 2 rfl ?_; first | apply HO_a1 rfl | apply HO_o1 rfl)
       refine HO_or3 (b := dn0) (v := dn1) (i0 := 15) (i1 := 16) (i2 := 17) (d := 83) (fun K' hk hb => by subst hb; (iterate 3 (first | refine SK ?_ | exact HO_seg rfl rfl | refine S1 ?_ | (refine T2 ?_; intros) | (refine HO_g 2 rfl ?_; first | apply HO_a1 rfl | apply HO_o1 rfl))); exact HO_drop2 rfl rfl hk) (fun K' hk hb => by subst hb; (iterate 3 (first | refine SK ?_ | exact HO_seg rfl rfl | refine S1 ?_ | (refine T2 ?_; intros) | (refine HO_g 2 rfl ?_; first | apply HO_a1 rfl | apply HO_o1 rfl))); exact HO_drop2 rfl rfl hk) ?_
       first | refine SK ?_ | exact HO_seg rfl rfl | refine S1 ?_ | (refine T2 ?_; intros) | (refine HO_g 2 rfl ?_; first | apply HO_a1 rfl | apply HO_o1 rfl)
       refine HO_or3 (b := con0) (v := con1) (i0 := 21) (i1 := 22) (i2 := 23) (d := 89) (fun K' hk hb => by subst hb; (iterate 3 (first | refine SK ?_ | exact HO_seg rfl rfl | refine S1 ?_ | (refine T2 ?_; intros) | (refine HO_g 2 rfl ?_; first | apply HO_a1 rfl | apply HO_o1 rfl))); exact HO_drop2 rfl rfl hk) (fun K' hk hb => by subst hb; (iterate 3 (first | refine SK ?_ | exact HO_seg rfl rfl | refine S1 ?_ | (refine T2 ?_; intros) | (refine HO_g 2 rfl ?_; first | apply HO_a1 rfl | apply HO_o1 rfl))); exact HO_drop2 rfl rfl hk) ?_
       repeat' (first | (exact HX_atK () trivial ⟨rfl, rfl, rfl, rfl, rfl, rfl, rfl, trivial⟩ permA) | refine S1 ?_ | (refine T2 ?_; intros) | fail)
     ·(refine HO_k 2 rfl ?_; refine HO_loT rfl rfl rfl rfl rfl rfl soA ?_)
      (refine HO_2p 1 13 (by decide +kernel) rfl rfl (by decide +kernel) ?_ ?_)
      ·(refine HO_k 2 rfl ?_; refine HO_loT rfl rfl rfl rfl rfl rfl soA ?_)
       first | refine SK ?_ | exact HO_seg rfl rfl | refine S1 ?_ | (refine T2 ?_; intros) | (refine HO_g 2 rfl ?_; first | apply HO_a1 rfl | apply HO_o1 rfl)
       refine HO_or3 (b := clo0) (v := clo1) (i0 := 3) (i1 := 4) (i2 := 5) (d := 71) (fun K' hk hb => by subst hb; (iterate 3 (first | refine SK ?_ | exact HO_seg rfl rfl | refine S1 ?_ | (refine T2 ?_; intros) | (refine HO_g 2 rfl ?_; first | apply HO_a1 rfl | apply HO_o1 rfl))); exact HO_drop2 rfl rfl hk) (fun K' hk hb => by subst hb; (iterate 3 (first | refine SK ?_ | exact HO_seg rfl rfl | refine S1 ?_ | (refine T2 ?_; intros) | (refine HO_g 2 rfl ?_; first | apply HO_a1 rfl | apply HO_o1 rfl))); exact HO_drop2 rfl rfl hk) ?_
       first | refine SK ?_ | exact HO_seg rfl rfl | refine S1 ?_ | (refine T2 ?_; intros) | (refine HO_g 2 rfl ?_; first | apply HO_a1 rfl | apply HO_o1 rfl)
       refine HO_or3 (b := up0) (v := up1) (i0 := 9) (i1 := 10) (i2 := 11) (d := 77) (fun K' hk hb => by subst hb; (iterate 3 (first | refine SK ?_ | exact HO_seg rfl rfl | refine S1 ?_ | (refine T2 ?_; intros) | (refine HO_g 2 rfl ?_; first | apply HO_a1 rfl | apply HO_o1 rfl))); exact HO_drop2 rfl rfl hk) (fun K' hk hb => by subst hb; (iterate 3 (first | refine SK ?_ | exact HO_seg rfl rfl | refine S1 ?_ | (refine T2 ?_; intros) | (refine HO_g 2 rfl ?_; first | apply HO_a1 rfl | apply HO_o1 rfl))); exact HO_drop2 rfl rfl hk) ?_
       (refine HO_k 2 rfl ?_; refine HO_loT rfl rfl rfl rfl rfl rfl soA ?_)
       first | refine SK ?_ | exact HO_seg rfl rfl | refine S1 ?_ | (refine T2 ?_; intros) | (refine HO_g 2 rfl ?_; first | apply HO_a1 rfl | apply HO_o1 rfl)
       refine HO_or3 (b := dn0) (v := dn1) (i0 := 15) (i1 := 16) (i2 := 17) (d := 83) (fun K' hk hb => by subst hb; (iterate 3 (first | refine SK ?_ | exact HO_seg rfl rfl | refine S1 ?_ | (refine T2 ?_; intros) | (refine HO_g 2 rfl ?_; first | apply HO_a1 rfl | apply HO_o1 rfl))); exact HO_drop2 rfl rfl hk) (fun K' hk hb => by subst hb; (iterate 3 (first | refine SK ?_ | exact HO_seg rfl rfl | refine S1 ?_ | (refine T2 ?_; intros) | (refine HO_g 2 rfl ?_; first | apply HO_a1 rfl | apply HO_o1 rfl))); exact HO_drop2 rfl rfl hk) ?_
       first | refine SK ?_ | exact HO_seg rfl rfl | refine S1 ?_ | (refine T2 ?_; intros) | (refine HO_g 2 rfl ?_; first | apply HO_a1 rfl | apply HO_o1 rfl)
       refine HO_or3 (b := con0) (v := con1) (i0 := 21) (i1 := 22) (i2 := 23) (d := 89) (fun K' hk hb => by subst hb; (iterate 3 (first | refine SK ?_ | exact HO_seg rfl rfl | refine S1 ?_ | (refine T2 ?_; intros) | (refine HO_g 2 rfl ?_; first | apply HO_a1 rfl | apply HO_o1 rfl))); exact HO_drop2 rfl rfl hk) (fun K' hk hb => by subst hb; (iterate 3 (first | refine SK ?_ | exact HO_seg rfl rfl | refine S1 ?_ | (refine T2 ?_; intros) | (refine HO_g 2 rfl ?_; first | apply HO_a1 rfl | apply HO_o1 rfl))); exact HO_drop2 rfl rfl hk) ?_
       repeat' (first | (exact HX_atK () trivial ⟨rfl, rfl, rfl, rfl, rfl, rfl, rfl, trivial⟩ permA) | refine S1 ?_ | (refine T2 ?_; intros) | fail)
      ·(refine HO_k 2 rfl ?_; refine HO_loT rfl rfl rfl rfl rfl rfl soA ?_)
       (refine HO_k 2 rfl ?_; refine HO_loT rfl rfl rfl rfl rfl rfl soA ?_)
       first | refine SK ?_ | exact HO_seg rfl rfl | refine S1 ?_ | (refine T2 ?_; intros) | (refine HO_g 2 rfl ?_; first | apply HO_a1 rfl | apply HO_o1 rfl)
       refine HO_or3 (b := clo0) (v := clo1) (i0 := 3) (i1 := 4) (i2 := 5) (d := 71) (fun K' hk hb => by subst hb; (iterate 3 (first | refine SK ?_ | exact HO_seg rfl rfl | refine S1 ?_ | (refine T2 ?_; intros) | (refine HO_g 2 rfl ?_; first | apply HO_a1 rfl | apply HO_o1 rfl))); exact HO_drop2 rfl rfl hk) (fun K' hk hb => by subst hb; (iterate 3 (first | refine SK ?_ | exact HO_seg rfl rfl | refine S1 ?_ | (refine T2 ?_; intros) | (refine HO_g 2 rfl ?_; first | apply HO_a1 rfl | apply HO_o1 rfl))); exact HO_drop2 rfl rfl hk) ?_
       first | refine SK ?_ | exact HO_seg rfl rfl | refine S1 ?_ | (refine T2 ?_; intros) | (refine HO_g 2 rfl ?_; first | apply HO_a1 rfl | apply HO_o1 rfl)
       refine HO_or3 (b := up0) (v := up1) (i0 := 9) (i1 := 10) (i2 := 11) (d := 77) (fun K' hk hb => by subst hb; (iterate 3 (first | refine SK ?_ | exact HO_seg rfl rfl | refine S1 ?_ | (refine T2 ?_; intros) | (refine HO_g 2 rfl ?_; first | apply HO_a1 rfl | apply HO_o1 rfl))); exact HO_drop2 rfl rfl hk) (fun K' hk hb => by subst hb; (iterate 3 (first | refine SK ?_ | exact HO_seg rfl rfl | refine S1 ?_ | (refine T2 ?_; intros) | (refine HO_g 2 rfl ?_; first | apply HO_a1 rfl | apply HO_o1 rfl))); exact HO_drop2 rfl rfl hk) ?_
       first | refine SK ?_ | exact HO_seg rfl rfl | refine S1 ?_ | (refine T2 ?_; intros) | (refine HO_g 2 rfl ?_; first | apply HO_a1 rfl | apply HO_o1 rfl)
       refine HO_or3 (b := dn0) (v := dn1) (i0 := 15) (i1 := 16) (i2 := 17) (d := 83) (fun K' hk hb => by subst hb; (iterate 3 (first | refine SK ?_ | exact HO_seg rfl rfl | refine S1 ?_ | (refine T2 ?_; intros) | (refine HO_g 2 rfl ?_; first | apply HO_a1 rfl | apply HO_o1 rfl))); exact HO_drop2 rfl rfl hk) (fun K' hk hb => by subst hb; (iterate 3 (first | refine SK ?_ | exact HO_seg rfl rfl | refine S1 ?_ | (refine T2 ?_; intros) | (refine HO_g 2 rfl ?_; first | apply HO_a1 rfl | apply HO_o1 rfl))); exact HO_drop2 rfl rfl hk) ?_
       first | refine SK ?_ | exact HO_seg rfl rfl | refine S1 ?_ | (refine T2 ?_; intros) | (refine HO_g 2 rfl ?_; first | apply HO_a1 rfl | apply HO_o1 rfl)
       refine HO_or3 (b := con0) (v := con1) (i0 := 21) (i1 := 22) (i2 := 23) (d := 89) (fun K' hk hb => by subst hb; (iterate 3 (first | refine SK ?_ | exact HO_seg rfl rfl | refine S1 ?_ | (refine T2 ?_; intros) | (refine HO_g 2 rfl ?_; first | apply HO_a1 rfl | apply HO_o1 rfl))); exact HO_drop2 rfl rfl hk) (fun K' hk hb => by subst hb; (iterate 3 (first | refine SK ?_ | exact HO_seg rfl rfl | refine S1 ?_ | (refine T2 ?_; intros) | (refine HO_g 2 rfl ?_; first | apply HO_a1 rfl | apply HO_o1 rfl))); exact HO_drop2 rfl rfl hk) ?_
       repeat' (first | (exact HX_atK () trivial ⟨rfl, rfl, rfl, rfl, rfl, rfl, rfl, trivial⟩ permA) | refine S1 ?_ | (refine T2 ?_; intros) | fail)
    ·(refine HO_k 2 rfl ?_; refine HO_loT rfl rfl rfl rfl rfl rfl soA ?_)
     (refine HO_3p 1 7 19 (by decide +kernel) rfl rfl rfl (by decide +kernel) ?_ ?_ ?_)
     ·(refine HO_k 2 rfl ?_; refine HO_loT rfl rfl rfl rfl rfl rfl soA ?_)
      first | refine SK ?_ | exact HO_seg rfl rfl | refine S1 ?_ | (refine T2 ?_; intros) | (refine HO_g 2 rfl ?_; first | apply HO_a1 rfl | apply HO_o1 rfl)
      refine HO_or3 (b := clo0) (v := clo1) (i0 := 3) (i1 := 4) (i2 := 5) (d := 71) (fun K' hk hb => by subst hb; (iterate 3 (first | refine SK ?_ | exact HO_seg rfl rfl | refine S1 ?_ | (refine T2 ?_; intros) | (refine HO_g 2 rfl ?_; first | apply HO_a1 rfl | apply HO_o1 rfl))); exact HO_drop2 rfl rfl hk) (fun K' hk hb => by subst hb; (iterate 3 (first | refine SK ?_ | exact HO_seg rfl rfl | refine S1 ?_ | (refine T2 ?_; intros) | (refine HO_g 2 rfl ?_; first | apply HO_a1 rfl | apply HO_o1 rfl))); exact HO_drop2 rfl rfl hk) ?_
      (refine HO_2p 7 19 (by decide +kernel) rfl rfl (by decide +kernel) ?_ ?_)
      ·(refine HO_k 2 rfl ?_; refine HO_loT rfl rfl rfl rfl rfl rfl soA ?_)
       first | refine SK ?_ | exact HO_seg rfl rfl | refine S1 ?_ | (refine T2 ?_; intros) | (refine HO_g 2 rfl ?_; first | apply HO_a1 rfl | apply HO_o1 rfl)
       refine HO_or3 (b := up0) (v := up1) (i0 := 9) (i1 := 10) (i2 := 11) (d := 77) (fun K' hk hb => by subst hb; (iterate 3 (first | refine SK ?_ | exact HO_seg rfl rfl | refine S1 ?_ | (refine T2 ?_; intros) | (refine HO_g 2 rfl ?_; first | apply HO_a1 rfl | apply HO_o1 rfl))); exact HO_drop2 rfl rfl hk) (fun K' hk hb => by subst hb; (iterate 3 (first | refine SK ?_ | exact HO_seg rfl rfl | refine S1 ?_ | (refine T2 ?_; intros) | (refine HO_g 2 rfl ?_; first | apply HO_a1 rfl | apply HO_o1 rfl))); exact HO_drop2 rfl rfl hk) ?_
       first | refine SK ?_ | exact HO_seg rfl rfl | refine S1 ?_ | (refine T2 ?_; intros) | (refine HO_g 2 rfl ?_; first | apply HO_a1 rfl | apply HO_o1 rfl)
       refine HO_or3 (b := dn0) (v := dn1) (i0 := 15) (i1 := 16) (i2 := 17) (d := 83) (fun K' hk hb => by subst hb; (iterate 3 (first | refine SK ?_ | exact HO_seg rfl rfl | refine S1 ?_ | (refine T2 ?_; intros) | (refine HO_g 2 rfl ?_; first | apply HO_a1 rfl | apply HO_o1 rfl))); exact HO_drop2 rfl rfl hk) (fun K' hk hb => by subst hb; (iterate 3 (first | refine SK ?_ | exact HO_seg rfl rfl | refine S1 ?_ | (refine T2 ?_; intros) | (refine HO_g 2 rfl ?_; first | apply HO_a1 rfl | apply HO_o1 rfl))); exact HO_drop2 rfl rfl hk) ?_
       (refine HO_k 2 rfl ?_; refine HO_loT rfl rfl rfl rfl rfl rfl soA ?_)
       first | refine SK ?_ | exact HO_seg rfl rfl | refine S1 ?_ | (refine T2 ?_; intros) | (refine HO_g 2 rfl ?_; first | apply HO_a1 rfl | apply HO_o1 rfl)
       refine HO_or3 (b := con0) (v := con1) (i0 := 21) (i1 := 22) (i2 := 23) (d := 89) (fun K' hk hb => by subst hb; (iterate 3 (first | refine SK ?_ | exact HO_seg rfl rfl | refine S1 ?_ | (refine T2 ?_; intros) | (refine HO_g 2 rfl ?_; first | apply HO_a1 rfl | apply HO_o1 rfl))); exact HO_drop2 rfl rfl hk) (fun K' hk hb => by subst hb; (iterate 3 (first | refine SK ?_ | exact HO_seg rfl rfl | refine S1 ?_ | (refine T2 ?_; intros) | (refine HO_g 2 rfl ?_; first | apply HO_a1 rfl | apply HO_o1 rfl))); exact HO_drop2 rfl rfl hk) ?_
       repeat' (first | (exact HX_atK () trivial ⟨rfl, rfl, rfl, rfl, rfl, rfl, rfl, trivial⟩ permA) | refine S1 ?_ | (refine T2 ?_; intros) | fail)
      ·(refine HO_k 2 rfl ?_; refine HO_loT rfl rfl rfl rfl rfl rfl soA ?_)
       (refine HO_k 2 rfl ?_; refine HO_loT rfl rfl rfl rfl rfl rfl soA ?_)
       first | refine SK ?_ | exact HO_seg rfl rfl | refine S1 ?_ | (refine T2 ?_; intros) | (refine HO_g 2 rfl ?_; first | apply HO_a1 rfl | apply HO_o1 rfl)
       refine HO_or3 (b := up0) (v := up1) (i0 := 9) (i1 := 10) (i2 := 11) (d := 77) (fun K' hk hb => by subst hb; (iterate 3 (first | refine SK ?_ | exact HO_seg rfl rfl | refine S1 ?_ | (refine T2 ?_; intros) | (refine HO_g 2 rfl ?_; first | apply HO_a1 rfl | apply HO_o1 rfl))); exact HO_drop2 rfl rfl hk) (fun K' hk hb => by subst hb; (iterate 3 (first | refine SK ?_ | exact HO_seg rfl rfl | refine S1 ?_ | (refine T2 ?_; intros) | (refine HO_g 2 rfl ?_; first | apply HO_a1 rfl | apply HO_o1 rfl))); exact HO_drop2 rfl rfl hk) ?_
       first | refine SK ?_ | exact HO_seg rfl rfl | refine S1 ?_ | (refine T2 ?_; intros) | (refine HO_g 2 rfl ?_; first | apply HO_a1 rfl | apply HO_o1 rfl)
       refine HO_or3 (b := dn0) (v := dn1) (i0 := 15) (i1 := 16) (i2 := 17) (d := 83) (fun K' hk hb => by subst hb; (iterate 3 (first | refine SK ?_ | exact HO_seg rfl rfl | refine S1 ?_ | (refine T2 ?_; intros) | (refine HO_g 2 rfl ?_; first | apply HO_a1 rfl | apply HO_o1 rfl))); exact HO_drop2 rfl rfl hk) (fun K' hk hb => by subst hb; (iterate 3 (first | refine SK ?_ | exact HO_seg rfl rfl | refine S1 ?_ | (refine T2 ?_; intros) | (refine HO_g 2 rfl ?_; first | apply HO_a1 rfl | apply HO_o1 rfl))); exact HO_drop2 rfl rfl hk) ?_
       first | refine SK ?_ | exact HO_seg rfl rfl | refine S1 ?_ | (refine T2 ?_; intros) | (refine HO_g 2 rfl ?_; first | apply HO_a1 rfl | apply HO_o1 rfl)
       refine HO_or3 (b := con0) (v := con1) (i0 := 21) (i1 := 22) (i2 := 23) (d := 89) (fun K' hk hb => by subst hb; (iterate 3 (first | refine SK ?_ | exact HO_seg rfl rfl | refine S1 ?_ | (refine T2 ?_; intros) | (refine HO_g 2 rfl ?_; first | apply HO_a1 rfl | apply HO_o1 rfl))); exact HO_drop2 rfl rfl hk) (fun K' hk hb => by subst hb; (iterate 3 (first | refine SK ?_ | exact HO_seg rfl rfl | refine S1 ?_ | (refine T2 ?_; intros) | (refine HO_g 2 rfl ?_; first | apply HO_a1 rfl | apply HO_o1 rfl))); exact HO_drop2 rfl rfl hk) ?_
       repeat' (first | (exact HX_atK () trivial ⟨rfl, rfl, rfl, rfl, rfl, rfl, rfl, trivial⟩ permA) | refine S1 ?_ | (refine T2 ?_; intros) | fail)
     ·(refine HO_k 2 rfl ?_; refine HO_loT rfl rfl rfl rfl rfl rfl soA ?_)
      (refine HO_2p 1 19 (by decide +kernel) rfl rfl (by decide +kernel) ?_ ?_)
      ·(refine HO_k 2 rfl ?_; refine HO_loT rfl rfl rfl rfl rfl rfl soA ?_)
       first | refine SK ?_ | exact HO_seg rfl rfl | refine S1 ?_ | (refine T2 ?_; intros) | (refine HO_g 2 rfl ?_; first | apply HO_a1 rfl | apply HO_o1 rfl)
       refine HO_or3 (b := clo0) (v := clo1) (i0 := 3) (i1 := 4) (i2 := 5) (d := 71) (fun K' hk hb => by subst hb; (iterate 3 (first | refine SK ?_ | exact HO_seg rfl rfl | refine S1 ?_ | (refine T2 ?_; intros) | (refine HO_g 2 rfl ?_; first | apply HO_a1 rfl | apply HO_o1 rfl))); exact HO_drop2 rfl rfl hk) (fun K' hk hb => by subst hb; (iterate 3 (first | refine SK ?_ | exact HO_seg rfl rfl | refine S1 ?_ | (refine T2 ?_; intros) | (refine HO_g 2 rfl ?_; first | apply HO_a1 rfl | apply HO_o1 rfl))); exact HO_drop2 rfl rfl hk) ?_
       first | refine SK ?_ | exact HO_seg rfl rfl | refine S1 ?_ | (refine T2 ?_; intros) | (refine HO_g 2 rfl ?_; first | apply HO_a1 rfl | apply HO_o1 rfl)
       refine HO_or3 (b := up0) (v := up1) (i0 := 9) (i1 := 10) (i2 := 11) (d := 77) (fun K' hk hb => by subst hb; (iterate 3 (first | refine SK ?_ | exact HO_seg rfl rfl | refine S1 ?_ | (refine T2 ?_; intros) | (refine HO_g 2 rfl ?_; first | apply HO_a1 rfl | apply HO_o1 rfl))); exact HO_drop2 rfl rfl hk) (fun K' hk hb => by subst hb; (iterate 3 (first | refine SK ?_ | exact HO_seg rfl rfl | refine S1 ?_ | (refine T2 ?_; intros) | (refine HO_g 2 rfl ?_; first | apply HO_a1 rfl | apply HO_o1 rfl))); exact HO_drop2 rfl rfl hk) ?_
       first | refine SK ?_ | exact HO_seg rfl rfl | refine S1 ?_ | (refine T2 ?_; intros) | (refine HO_g 2 rfl ?_; first | apply HO_a1 rfl | apply HO_o1 rfl)
       refine HO_or3 (b := dn0) (v := dn1) (i0 := 15) (i1 := 16) (i2 := 17) (d := 83) (fun K' hk hb => by subst hb; (iterate 3 (first | refine SK ?_ | exact HO_seg rfl rfl | refine S1 ?_ | (refine T2 ?_; intros) | (refine HO_g 2 rfl ?_; first | apply HO_a1 rfl | apply HO_o1 rfl))); exact HO_drop2 rfl rfl hk) (fun K' hk hb => by subst hb; (iterate 3 (first | refine SK ?_ | exact HO_seg rfl rfl | refine S1 ?_ | (refine T2 ?_; intros) | (refine HO_g 2 rfl ?_; first | apply HO_a1 rfl | apply HO_o1 rfl))); exact HO_drop2 rfl rfl hk) ?_
       (refine HO_k 2 rfl ?_; refine HO_loT rfl rfl rfl rfl rfl rfl soA ?_)
       first | refine SK ?_ | exact HO_seg rfl rfl | refine S1 ?_ | (refine T2 ?_; intros) | (refine HO_g 2 rfl ?_; first | apply HO_a1 rfl | apply HO_o1 rfl)
       refine HO_or3 (b := con0) (v := con1) (i0 := 21) (i1 := 22) (i2 := 23) (d := 89) (fun K' hk hb => by subst hb; (iterate 3 (first | refine SK ?_ | exact HO_seg rfl rfl | refine S1 ?_ | (refine T2 ?_; intros) | (refine HO_g 2 rfl ?_; first | apply HO_a1 rfl | apply HO_o1 rfl))); exact HO_drop2 rfl rfl hk) (fun K' hk hb => by subst hb; (iterate 3 (first | refine SK ?_ | exact HO_seg rfl rfl | refine S1 ?_ | (refine T2 ?_; intros) | (refine HO_g 2 rfl ?_; first | apply HO_a1 rfl | apply HO_o1 rfl))); exact HO_drop2 rfl rfl hk) ?_
       repeat' (first | (exact HX_atK () trivial ⟨rfl, rfl, rfl, rfl, rfl, rfl, rfl, trivial⟩ permA) | refine S1 ?_ | (refine T2 ?_; intros) | fail)
      ·(refine HO_k 2 rfl ?_; refine HO_loT rfl rfl rfl rfl rfl rfl soA ?_)
       (refine HO_k 2 rfl ?_; refine HO_loT rfl rfl rfl rfl rfl rfl soA ?_)
       first | refine SK ?_ | exact HO_seg rfl rfl | refine S1 ?_ | (refine T2 ?_; intros) | (refine HO_g 2 rfl ?_; first | apply HO_a1 rfl | apply HO_o1 rfl)
       refine HO_or3 (b := clo0) (v := clo1) (i0 := 3) (i1 := 4) (i2 := 5) (d := 71) (fun K' hk hb => by subst hb; (iterate 3 (first | refine SK ?_ | exact HO_seg rfl rfl | refine S1 ?_ | (refine T2 ?_; intros) | (refine HO_g 2 rfl ?_; first | apply HO_a1 rfl | apply HO_o1 rfl))); exact HO_drop2 rfl rfl hk) (fun K' hk hb => by subst hb; (iterate 3 (first | refine SK ?_ | exact HO_seg rfl rfl | refine S1 ?_ | (refine T2 ?_; intros) | (refine HO_g 2 rfl ?_; first | apply HO_a1 rfl | apply HO_o1 rfl))); exact HO_drop2 rfl rfl hk) ?_
       first | refine SK ?_ | exact HO_seg rfl rfl | refine S1 ?_ | (refine T2 ?_; intros) | (refine HO_g 2 rfl ?_; first | apply HO_a1 rfl | apply HO_o1 rfl)
       refine HO_or3 (b := up0) (v := up1) (i0 := 9) (i1 := 10) (i2 := 11) (d := 77) (fun K' hk hb => by subst hb; (iterate 3 (first | refine SK ?_ | exact HO_seg rfl rfl | refine S1 ?_ | (refine T2 ?_; intros) | (refine HO_g 2 rfl ?_; first | apply HO_a1 rfl | apply HO_o1 rfl))); exact HO_drop2 rfl rfl hk) (fun K' hk hb => by subst hb; (iterate 3 (first | refine SK ?_ | exact HO_seg rfl rfl | refine S1 ?_ | (refine T2 ?_; intros) | (refine HO_g 2 rfl ?_; first | apply HO_a1 rfl | apply HO_o1 rfl))); exact HO_drop2 rfl rfl hk) ?_
       first | refine SK ?_ | exact HO_seg rfl rfl | refine S1 ?_ | (refine T2 ?_; intros) | (refine HO_g 2 rfl ?_; first | apply HO_a1 rfl | apply HO_o1 rfl)
       refine HO_or3 (b := dn0) (v := dn1) (i0 := 15) (i1 := 16) (i2 := 17) (d := 83) (fun K' hk hb => by subst hb; (iterate 3 (first | refine SK ?_ | exact HO_seg rfl rfl | refine S1 ?_ | (refine T2 ?_; intros) | (refine HO_g 2 rfl ?_; first | apply HO_a1 rfl | apply HO_o1 rfl))); exact HO_drop2 rfl rfl hk) (fun K' hk hb => by subst hb; (iterate 3 (first | refine SK ?_ | exact HO_seg rfl rfl | refine S1 ?_ | (refine T2 ?_; intros) | (refine HO_g 2 rfl ?_; first | apply HO_a1 rfl | apply HO_o1 rfl))); exact HO_drop2 rfl rfl hk) ?_
       first | refine SK ?_ | exact HO_seg rfl rfl | refine S1 ?_ | (refine T2 ?_; intros) | (refine HO_g 2 rfl ?_; first | apply HO_a1 rfl | apply HO_o1 rfl)
       refine HO_or3 (b := con0) (v := con1) (i0 := 21) (i1 := 22) (i2 := 23) (d := 89) (fun K' hk hb => by subst hb; (iterate 3 (first | refine SK ?_ | exact HO_seg rfl rfl | refine S1 ?_ | (refine T2 ?_; intros) | (refine HO_g 2 rfl ?_; first | apply HO_a1 rfl | apply HO_o1 rfl))); exact HO_drop2 rfl rfl hk) (fun K' hk hb => by subst hb; (iterate 3 (first | refine SK ?_ | exact HO_seg rfl rfl | refine S1 ?_ | (refine T2 ?_; intros) | (refine HO_g 2 rfl ?_; first | apply HO_a1 rfl | apply HO_o1 rfl))); exact HO_drop2 rfl rfl hk) ?_
       repeat' (first | (exact HX_atK () trivial ⟨rfl, rfl, rfl, rfl, rfl, rfl, rfl, trivial⟩ permA) | refine S1 ?_ | (refine T2 ?_; intros) | fail)
     ·(refine HO_k 2 rfl ?_; refine HO_loT rfl rfl rfl rfl rfl rfl soA ?_)
      (refine HO_2p 1 7 (by decide +kernel) rfl rfl (by decide +kernel) ?_ ?_)
      ·(refine HO_k 2 rfl ?_; refine HO_loT rfl rfl rfl rfl rfl rfl soA ?_)
       first | refine SK ?_ | exact HO_seg rfl rfl | refine S1 ?_ | (refine T2 ?_; intros) | (refine HO_g 2 rfl ?_; first | apply HO_a1 rfl | apply HO_o1 rfl)
       refine HO_or3 (b := clo0) (v := clo1) (i0 := 3) (i1 := 4) (i2 := 5) (d := 71) (fun K' hk hb => by subst hb; (iterate 3 (first | refine SK ?_ | exact HO_seg rfl rfl | refine S1 ?_ | (refine T2 ?_; intros) | (refine HO_g 2 rfl ?_; first | apply HO_a1 rfl | apply HO_o1 rfl))); exact HO_drop2 rfl rfl hk) (fun K' hk hb => by subst hb; (iterate 3 (first | refine SK ?_ | exact HO_seg rfl rfl | refine S1 ?_ | (refine T2 ?_; intros) | (refine HO_g 2 rfl ?_; first | apply HO_a1 rfl | apply HO_o1 rfl))); exact HO_drop2 rfl rfl hk) ?_
       (refine HO_k 2 rfl ?_; refine HO_loT rfl rfl rfl rfl rfl rfl soA ?_)
       first | refine SK ?_ | exact HO_seg rfl rfl | refine S1 ?_ | (refine T2 ?_; intros) | (refine HO_g 2 rfl ?_; first | apply HO_a1 rfl | apply HO_o1 rfl)
       refine HO_or3 (b := up0) (v := up1) (i0 := 9) (i1 := 10) (i2 := 11) (d := 77) (fun K' hk hb => by subst hb; (iterate 3 (first | refine SK ?_ | exact HO_seg rfl rfl | refine S1 ?_ | (refine T2 ?_; intros) | (refine HO_g 2 rfl ?_; first | apply HO_a1 rfl | apply HO_o1 rfl))); exact HO_drop2 rfl rfl hk) (fun K' hk hb => by subst hb; (iterate 3 (first | refine SK ?_ | exact HO_seg rfl rfl | refine S1 ?_ | (refine T2 ?_; intros) | (refine HO_g 2 rfl ?_; first | apply HO_a1 rfl | apply HO_o1 rfl))); exact HO_drop2 rfl rfl hk) ?_
       first | refine SK ?_ | exact HO_seg rfl rfl | refine S1 ?_ | (refine T2 ?_; intros) | (refine HO_g 2 rfl ?_; first | apply HO_a1 rfl | apply HO_o1 rfl)
       refine HO_or3 (b := dn0) (v := dn1) (i0 := 15) (i1 := 16) (i2 := 17) (d := 83) (fun K' hk hb => by subst hb; (iterate 3 (first | refine SK ?_ | exact HO_seg rfl rfl | refine S1 ?_ | (refine T2 ?_; intros) | (refine HO_g 2 rfl ?_; first | apply HO_a1 rfl | apply HO_o1 rfl))); exact HO_drop2 rfl rfl hk) (fun K' hk hb => by subst hb; (iterate 3 (first | refine SK ?_ | exact HO_seg rfl rfl | refine S1 ?_ | (refine T2 ?_; intros) | (refine HO_g 2 rfl ?_; first | apply HO_a1 rfl | apply HO_o1 rfl))); exact HO_drop2 rfl rfl hk) ?_
       first | refine SK ?_ | exact HO_seg rfl rfl | refine S1 ?_ | (refine T2 ?_; intros) | (refine HO_g 2 rfl ?_; first | apply HO_a1 rfl | apply HO_o1 rfl)
       refine HO_or3 (b := con0) (v := con1) (i0 := 21) (i1 := 22) (i2 := 23) (d := 89) (fun K' hk hb => by subst hb; (iterate 3 (first | refine SK ?_ | exact HO_seg rfl rfl | refine S1 ?_ | (refine T2 ?_; intros) | (refine HO_g 2 rfl ?_; first | apply HO_a1 rfl | apply HO_o1 rfl))); exact HO_drop2 rfl rfl hk) (fun K' hk hb => by subst hb; (iterate 3 (first | refine SK ?_ | exact HO_seg rfl rfl | refine S1 ?_ | (refine T2 ?_; intros) | (refine HO_g 2 rfl ?_; first | apply HO_a1 rfl | apply HO_o1 rfl))); exact HO_drop2 rfl rfl hk) ?_
       repeat' (first | (exact HX_atK () trivial ⟨rfl, rfl, rfl, rfl, rfl, rfl, rfl, trivial⟩ permA) | refine S1 ?_ | (refine T2 ?_; intros) | fail)
      ·(refine HO_k 2 rfl ?_; refine HO_loT rfl rfl rfl rfl rfl rfl soA ?_)
       (refine HO_k 2 rfl ?_; refine HO_loT rfl rfl rfl rfl rfl rfl soA ?_)
       first | refine SK ?_ | exact HO_seg rfl rfl | refine S1 ?_ | (refine T2 ?_; intros) | (refine HO_g 2 rfl ?_; first | apply HO_a1 rfl | apply HO_o1 rfl)
       refine HO_or3 (b := clo0) (v := clo1) (i0 := 3) (i1 := 4) (i2 := 5) (d := 71) (fun K' hk hb => by subst hb; (iterate 3 (first | refine SK ?_ | exact HO_seg rfl rfl | refine S1 ?_ | (refine T2 ?_; intros) | (refine HO_g 2 rfl ?_; first | apply HO_a1 rfl | apply HO_o1 rfl))); exact HO_drop2 rfl rfl hk) (fun K' hk hb => by subst hb; (iterate 3 (first | refine SK ?_ | exact HO_seg rfl rfl | refine S1 ?_ | (refine T2 ?_; intros) | (refine HO_g 2 rfl ?_; first | apply HO_a1 rfl | apply HO_o1 rfl))); exact HO_drop2 rfl rfl hk) ?_
       first | refine SK ?_ | exact HO_seg rfl rfl | refine S1 ?_ | (refine T2 ?_; intros) | (refine HO_g 2 rfl ?_; first | apply HO_a1 rfl | apply HO_o1 rfl)
       refine HO_or3 (b := up0) (v := up1) (i0 := 9) (i1 := 10) (i2 := 11) (d := 77) (fun K' hk hb => by subst hb; (iterate 3 (first | refine SK ?_ | exact HO_seg rfl rfl | refine S1 ?_ | (refine T2 ?_; intros) | (refine HO_g 2 rfl ?_; first | apply HO_a1 rfl | apply HO_o1 rfl))); exact HO_drop2 rfl rfl hk) (fun K' hk hb => by subst hb; (iterate 3 (first | refine SK ?_ | exact HO_seg rfl rfl | refine S1 ?_ | (refine T2 ?_; intros) | (refine HO_g 2 rfl ?_; first | apply HO_a1 rfl | apply HO_o1 rfl))); exact HO_drop2 rfl rfl hk) ?_
       first | refine SK ?_ | exact HO_seg rfl rfl | refine S1 ?_ | (refine T2 ?_; intros) | (refine HO_g 2 rfl ?_; first | apply HO_a1 rfl | apply HO_o1 rfl)
       refine HO_or3 (b := dn0) (v := dn1) (i0 := 15) (i1 := 16) (i2 := 17) (d := 83) (fun K' hk hb => by subst hb; (iterate 3 (first | refine SK ?_ | exact HO_seg rfl rfl | refine S1 ?_ | (refine T2 ?_; intros) | (refine HO_g 2 rfl ?_; first | apply HO_a1 rfl | apply HO_o1 rfl))); exact HO_drop2 rfl rfl hk) (fun K' hk hb => by subst hb; (iterate 3 (first | refine SK ?_ | exact HO_seg rfl rfl | refine S1 ?_ | (refine T2 ?_; intros) | (refine HO_g 2 rfl ?_; first | apply HO_a1 rfl | apply HO_o1 rfl))); exact HO_drop2 rfl rfl hk) ?_
       first | refine SK ?_ | exact HO_seg rfl rfl | refine S1 ?_ | (refine T2 ?_; intros) | (refine HO_g 2 rfl ?_; first | apply HO_a1 rfl | apply HO_o1 rfl)
       refine HO_or3 (b := con0) (v := con1) (i0 := 21) (i1 := 22) (i2 := 23) (d := 89) (fun K' hk hb => by subst hb; (iterate 3 (first | refine SK ?_ | exact HO_seg rfl rfl | refine S1 ?_ | (refine T2 ?_; intros) | (refine HO_g 2 rfl ?_; first | apply HO_a1 rfl | apply HO_o1 rfl))); exact HO_drop2 rfl rfl hk) (fun K' hk hb => by subst hb; (iterate 3 (first | refine SK ?_ | exact HO_seg rfl rfl | refine S1 ?_ | (refine T2 ?_; intros) | (refine HO_g 2 rfl ?_; first | apply HO_a1 rfl | apply HO_o1 rfl))); exact HO_drop2 rfl rfl hk) ?_
       repeat' (first | (exact HX_atK () trivial ⟨rfl, rfl, rfl, rfl, rfl, rfl, rfl, trivial⟩ permA) | refine S1 ?_ | (refine T2 ?_; intros) | fail)
    ·(refine HO_k 2 rfl ?_; refine HO_loT rfl rfl rfl rfl rfl rfl soA ?_)
     (refine HO_3p 1 7 13 (by decide +kernel) rfl rfl rfl (by decide +kernel) ?_ ?_ ?_)
     ·(refine HO_k 2 rfl ?_; refine HO_loT rfl rfl rfl rfl rfl rfl soA ?_)
      first | refine SK ?_ | exact HO_seg rfl rfl | refine S1 ?_ | (refine T2 ?_; intros) | (refine HO_g 2 rfl ?_; first | apply HO_a1 rfl | apply HO_o1 rfl)
      refine HO_or3 (b := clo0) (v := clo1) (i0 := 3) (i1 := 4) (i2 := 5) (d := 71) (fun K' hk hb => by subst hb; (iterate 3 (first | refine SK ?_ | exact HO_seg rfl rfl | refine S1 ?_ | (refine T2 ?_; intros) | (refine HO_g 2 rfl ?_; first | apply HO_a1 rfl | apply HO_o1 rfl))); exact HO_drop2 rfl rfl hk) (fun K' hk hb => by subst hb; (iterate 3 (first | refine SK ?_ | exact HO_seg rfl rfl | refine S1 ?_ | (refine T2 ?_; intros) | (refine HO_g 2 rfl ?_; first | apply HO_a1 rfl | apply HO_o1 rfl))); exact HO_drop2 rfl rfl hk) ?_
      (refine HO_2p 7 13 (by decide +kernel) rfl rfl (by decide +kernel) ?_ ?_)
      ·(refine HO_k 2 rfl ?_; refine HO_loT rfl rfl rfl rfl rfl rfl soA ?_)
       first | refine SK ?_ | exact HO_seg rfl rfl | refine S1 ?_ | (refine T2 ?_; intros) | (refine HO_g 2 rfl ?_; first | apply HO_a1 rfl | apply HO_o1 rfl)
       refine HO_or3 (b := up0) (v := up1) (i0 := 9) (i1 := 10) (i2 := 11) (d := 77) (fun K' hk hb => by subst hb; (iterate 3 (first | refine SK ?_ | exact HO_seg rfl rfl | refine S1 ?_ | (refine T2 ?_; intros) | (refine HO_g 2 rfl ?_; first | apply HO_a1 rfl | apply HO_o1 rfl))); exact HO_drop2 rfl rfl hk) (fun K' hk hb => by subst hb; (iterate 3 (first | refine SK ?_ | exact HO_seg rfl rfl | refine S1 ?_ | (refine T2 ?_; intros) | (refine HO_g 2 rfl ?_; first | apply HO_a1 rfl | apply HO_o1 rfl))); exact HO_drop2 rfl rfl hk) ?_
       (refine HO_k 2 rfl ?_; refine HO_loT rfl rfl rfl rfl rfl rfl soA ?_)
       first | refine SK ?_ | exact HO_seg rfl rfl | refine S1 ?_ | (refine T2 ?_; intros) | (refine HO_g 2 rfl ?_; first | apply HO_a1 rfl | apply HO_o1 rfl)
       refine HO_or3 (b := dn0) (v := dn1) (i0 := 15) (i1 := 16) (i2 := 17) (d := 83) (fun K' hk hb => by subst hb; (iterate 3 (first | refine SK ?_ | exact HO_seg rfl rfl | refine S1 ?_ | (refine T2 ?_; intros) | (refine HO_g 2 rfl ?_; first | apply HO_a1 rfl | apply HO_o1 rfl))); exact HO_drop2 rfl rfl hk) (fun K' hk hb => by subst hb; (iterate 3 (first | refine SK ?_ | exact HO_seg rfl rfl | refine S1 ?_ | (refine T2 ?_; intros) | (refine HO_g 2 rfl ?_; first | apply HO_a1 rfl | apply HO_o1 rfl))); exact HO_drop2 rfl rfl hk) ?_
       first | refine SK ?_ | exact HO_seg rfl rfl | refine S1 ?_ | (refine T2 ?_; intros) | (refine HO_g 2 rfl ?_; first | apply HO_a1 rfl | apply HO_o1 rfl)
       refine HO_or3 (b := con0) (v := con1) (i0 := 21) (i1 := 22) (i2 := 23) (d := 89) (fun K' hk hb => by subst hb; (iterate 3 (first | refine SK ?_ | exact HO_seg rfl rfl | refine S1 ?_ | (refine T2 ?_; intros) | (refine HO_g 2 rfl ?_; first | apply HO_a1 rfl | apply HO_o1 rfl))); exact HO_drop2 rfl rfl hk) (fun K' hk hb => by subst hb; (iterate 3 (first | refine SK ?_ | exact HO_seg rfl rfl | refine S1 ?_ | (refine T2 ?_; intros) | (refine HO_g 2 rfl ?_; first | apply HO_a1 rfl | apply HO_o1 rfl))); exact HO_drop2 rfl rfl hk) ?_
       repeat' (first | (exact HX_atK () trivial ⟨rfl, rfl, rfl, rfl, rfl, rfl, rfl, trivial⟩ permA) | refine S1 ?_ | (refine T2 ?_; intros) | fail)
      ·(refine HO_k 2 rfl ?_; refine HO_loT rfl rfl rfl rfl rfl rfl soA ?_)
       (refine HO_k 2 rfl ?_; refine HO_loT rfl rfl rfl rfl rfl rfl soA ?_)
       first | refine SK ?_ | exact HO_seg rfl rfl | refine S1 ?_ | (refine T2 ?_; intros) | (refine HO_g 2 rfl ?_; first | apply HO_a1 rfl | apply HO_o1 rfl)
       refine HO_or3 (b := up0) (v := up1) (i0 := 9) (i1 := 10) (i2 := 11) (d := 77) (fun K' hk hb => by subst hb; (iterate 3 (first | refine SK ?_ | exact HO_seg rfl rfl | refine S1 ?_ | (refine T2 ?_; intros) | (refine HO_g 2 rfl ?_; first | apply HO_a1 rfl | apply HO_o1 rfl))); exact HO_drop2 rfl rfl hk) (fun K' hk hb => by subst hb; (iterate 3 (first | refine SK ?_ | exact HO_seg rfl rfl | refine S1 ?_ | (refine T2 ?_; intros) | (refine HO_g 2 rfl ?_; first | apply HO_a1 rfl | apply HO_o1 rfl))); exact HO_drop2 rfl rfl hk) ?_
       first | refine SK ?_ | exact HO_seg rfl rfl | refine S1 ?_ | (refine T2 ?_; intros) | (refine HO_g 2 rfl ?_; first | apply HO_a1 rfl | apply HO_o1 rfl)
       refine HO_or3 (b := dn0) (v := dn1) (i0 := 15) (i1 := 16) (i2 := 17) (d := 83) (fun K' hk hb => by subst hb; (iterate 3 (first | refine SK ?_ | exact HO_seg rfl rfl | refine S1 ?_ | (refine T2 ?_; intros) | (refine HO_g 2 rfl ?_; first | apply HO_a1 rfl | apply HO_o1 rfl))); exact HO_drop2 rfl rfl hk) (fun K' hk hb => by subst hb; (iterate 3 (first | refine SK ?_ | exact HO_seg rfl rfl | refine S1 ?_ | (refine T2 ?_; intros) | (refine HO_g 2 rfl ?_; first | apply HO_a1 rfl | apply HO_o1 rfl))); exact HO_drop2 rfl rfl hk) ?_
       first | refine SK ?_ | exact HO_seg rfl rfl | refine S1 ?_ | (refine T2 ?_; intros) | (refine HO_g 2 rfl ?_; first | apply HO_a1 rfl | apply HO_o1 rfl)
       refine HO_or3 (b := con0) (v := con1) (i0 := 21) (i1 := 22) (i2 := 23) (d := 89) (fun K' hk hb => by subst hb; (iterate 3 (first | refine SK ?_ | exact HO_seg rfl rfl | refine S1 ?_ | (refine T2 ?_; intros) | (refine HO_g 2 rfl ?_; first | apply HO_a1 rfl | apply HO_o1 rfl))); exact HO_drop2 rfl rfl hk) (fun K' hk hb => by subst hb; (iterate 3 (first | refine SK ?_ | exact HO_seg rfl rfl | refine S1 ?_ | (refine T2 ?_; intros) | (refine HO_g 2 rfl ?_; first | apply HO_a1 rfl | apply HO_o1 rfl))); exact HO_drop2 rfl rfl hk) ?_
       repeat' (first | (exact HX_atK () trivial ⟨rfl, rfl, rfl, rfl, rfl, rfl, rfl, trivial⟩ permA) | refine S1 ?_ | (refine T2 ?_; intros) | fail)
     ·(refine HO_k 2 rfl ?_; refine HO_loT rfl rfl rfl rfl rfl rfl soA ?_)
      (refine HO_2p 1 13 (by decide +kernel) rfl rfl (by decide +kernel) ?_ ?_)
      ·(refine HO_k 2 rfl ?_; refine HO_loT rfl rfl rfl rfl rfl rfl soA ?_)
       first | refine SK ?_ | exact HO_seg rfl rfl | refine S1 ?_ | (refine T2 ?_; intros) | (refine HO_g 2 rfl ?_; first | apply HO_a1 rfl | apply HO_o1 rfl)
       refine HO_or3 (b := clo0) (v := clo1) (i0 := 3) (i1 := 4) (i2 := 5) (d := 71) (fun K' hk hb => by subst hb; (iterate 3 (first | refine SK ?_ | exact HO_seg rfl rfl | refine S1 ?_ | (refine T2 ?_; intros) | (refine HO_g 2 rfl ?_; first | apply HO_a1 rfl | apply HO_o1 rfl))); exact HO_drop2 rfl rfl hk) (fun K' hk hb => by subst hb; (iterate 3 (first | refine SK ?_ | exact HO_seg rfl rfl | refine S1 ?_ | (refine T2 ?_; intros) | (refine HO_g 2 rfl ?_; first | apply HO_a1 rfl | apply HO_o1 rfl))); exact HO_drop2 rfl rfl hk) ?_
       first | refine SK ?_ | exact HO_seg rfl rfl | refine S1 ?_ | (refine T2 ?_; intros) | (refine HO_g 2 rfl ?_; first | apply HO_a1 rfl | apply HO_o1 rfl)
       refine HO_or3 (b := up0) (v := up1) (i0 := 9) (i1 := 10) (i2 := 11) (d := 77) (fun K' hk hb => by subst hb; (iterate 3 (first | refine SK ?_ | exact HO_seg rfl rfl | refine S1 ?_ | (refine T2 ?_; intros) | (refine HO_g 2 rfl ?_; first | apply HO_a1 rfl | apply HO_o1 rfl))); exact HO_drop2 rfl rfl hk) (fun K' hk hb => by subst hb; (iterate 3 (first | refine SK ?_ | exact HO_seg rfl rfl | refine S1 ?_ | (refine T2 ?_; intros) | (refine HO_g 2 rfl ?_; first | apply HO_a1 rfl | apply HO_o1 rfl))); exact HO_drop2 rfl rfl hk) ?_
       (refine HO_k 2 rfl ?_; refine HO_loT rfl rfl rfl rfl rfl rfl soA ?_)
       first | refine SK ?_ | exact HO_seg rfl rfl | refine S1 ?_ | (refine T2 ?_; intros) | (refine HO_g 2 rfl ?_; first | apply HO_a1 rfl | apply HO_o1 rfl)
       refine HO_or3 (b := dn0) (v := dn1) (i0 := 15) (i1 := 16) (i2 := 17) (d := 83) (fun K' hk hb => by subst hb; (iterate 3 (first | refine SK ?_ | exact HO_seg rfl rfl | refine S1 ?_ | (refine T2 ?_; intros) | (refine HO_g 2 rfl ?_; first | apply HO_a1 rfl | apply HO_o1 rfl))); exact HO_drop2 rfl rfl hk) (fun K' hk hb => by subst hb; (iterate 3 (first | refine SK ?_ | exact HO_seg rfl rfl | refine S1 ?_ | (refine T2 ?_; intros) | (refine HO_g 2 rfl ?_; first | apply HO_a1 rfl | apply HO_o1 rfl))); exact HO_drop2 rfl rfl hk) ?_
       first | refine SK ?_ | exact HO_seg rfl rfl | refine S1 ?_ | (refine T2 ?_; intros) | (refine HO_g 2 rfl ?_; first | apply HO_a1 rfl | apply HO_o1 rfl)
       refine HO_or3 (b := con0) (v := con1) (i0 := 21) (i1 := 22) (i2 := 23) (d := 89) (fun K' hk hb => by subst hb; (iterate 3 (first | refine SK ?_ | exact HO_seg rfl rfl | refine S1 ?_ | (refine T2 ?_; intros) | (refine HO_g 2 rfl ?_; first | apply HO_a1 rfl | apply HO_o1 rfl))); exact HO_drop2 rfl rfl hk) (fun K' hk hb => by subst hb; (iterate 3 (first | refine SK ?_ | exact HO_seg rfl rfl | refine S1 ?_ | (refine T2 ?_; intros) | (refine HO_g 2 rfl ?_; first | apply HO_a1 rfl | apply HO_o1 rfl))); exact HO_drop2 rfl rfl hk) ?_
       repeat' (first | (exact HX_atK () trivial ⟨rfl, rfl, rfl, rfl, rfl, rfl, rfl, trivial⟩ permA) | refine S1 ?_ | (refine T2 ?_; intros) | fail)
      ·(refine HO_k 2 rfl ?_; refine HO_loT rfl rfl rfl rfl rfl rfl soA ?_)
       (refine HO_k 2 rfl ?_; refine HO_loT rfl rfl rfl rfl rfl rfl soA ?_)
       first | refine SK ?_ | exact HO_seg rfl rfl | refine S1 ?_ | (refine T2 ?_; intros) | (refine HO_g 2 rfl ?_; first | apply HO_a1 rfl | apply HO_o1 rfl)
       refine HO_or3 (b := clo0) (v := clo1) (i0 := 3) (i1 := 4) (i2 := 5) (d := 71) (fun K' hk hb => by subst hb; (iterate 3 (first | refine SK ?_ | exact HO_seg rfl rfl | refine S1 ?_ | (refine T2 ?_; intros) | (refine HO_g 2 rfl ?_; first | apply HO_a1 rfl | apply HO_o1 rfl))); exact HO_drop2 rfl rfl hk) (fun K' hk hb => by subst hb; (iterate 3 (first | refine SK ?_ | exact HO_seg rfl rfl | refine S1 ?_ | (refine T2 ?_; intros) | (refine HO_g 2 rfl ?_; first | apply HO_a1 rfl | apply HO_o1 rfl))); exact HO_drop2 rfl rfl hk) ?_
       first | refine SK ?_ | exact HO_seg rfl rfl | refine S1 ?_ | (refine T2 ?_; intros) | (refine HO_g 2 rfl ?_; first | apply HO_a1 rfl | apply HO_o1 rfl)
       refine HO_or3 (b := up0) (v := up1) (i0 := 9) (i1 := 10) (i2 := 11) (d := 77) (fun K' hk hb => by subst hb; (iterate 3 (first | refine SK ?_ | exact HO_seg rfl rfl | refine S1 ?_ | (refine T2 ?_; intros) | (refine HO_g 2 rfl ?_; first | apply HO_a1 rfl | apply HO_o1 rfl))); exact HO_drop2 rfl rfl hk) (fun K' hk hb => by subst hb; (iterate 3 (first | refine SK ?_ | exact HO_seg rfl rfl | refine S1 ?_ | (refine T2 ?_; intros) | (refine HO_g 2 rfl ?_; first | apply HO_a1 rfl | apply HO_o1 rfl))); exact HO_drop2 rfl rfl hk) ?_
       first | refine SK ?_ | exact HO_seg rfl rfl | refine S1 ?_ | (refine T2 ?_; intros) | (refine HO_g 2 rfl ?_; first | apply HO_a1 rfl | apply HO_o1 rfl)
       refine HO_or3 (b := dn0) (v := dn1) (i0 := 15) (i1 := 16) (i2 := 17) (d := 83) (fun K' hk hb => by subst hb; (iterate 3 (first | refine SK ?_ | exact HO_seg rfl rfl | refine S1 ?_ | (refine T2 ?_; intros) | (refine HO_g 2 rfl ?_; first | apply HO_a1 rfl | apply HO_o1 rfl))); exact HO_drop2 rfl rfl hk) (fun K' hk hb => by subst hb; (iterate 3 (first | refine SK ?_ | exact HO_seg rfl rfl | refine S1 ?_ | (refine T2 ?_; intros) | (refine HO_g 2 rfl ?_; first | apply HO_a1 rfl | apply HO_o1 rfl))); exact HO_drop2 rfl rfl hk) ?_
       first | refine SK ?_ | exact HO_seg rfl rfl | refine S1 ?_ | (refine T2 ?_; intros) | (refine HO_g 2 rfl ?_; first | apply HO_a1 rfl | apply HO_o1 rfl)
       refine HO_or3 (b := con0) (v := con1) (i0 := 21) (i1 := 22) (i2 := 23) (d := 89) (fun K' hk hb => by subst hb; (iterate 3 (first | refine SK ?_ | exact HO_seg rfl rfl | refine S1 ?_ | (refine T2 ?_; intros) | (refine HO_g 2 rfl ?_; first | apply HO_a1 rfl | apply HO_o1 rfl))); exact HO_drop2 rfl rfl hk) (fun K' hk hb => by subst hb; (iterate 3 (first | refine SK ?_ | exact HO_seg rfl rfl | refine S1 ?_ | (refine T2 ?_; intros) | (refine HO_g 2 rfl ?_; first | apply HO_a1 rfl | apply HO_o1 rfl))); exact HO_drop2 rfl rfl hk) ?_
       repeat' (first | (exact HX_atK () trivial ⟨rfl, rfl, rfl, rfl, rfl, rfl, rfl, trivial⟩ permA) | refine S1 ?_ | (refine T2 ?_; intros) | fail)
     ·(refine HO_k 2 rfl ?_; refine HO_loT rfl rfl rfl rfl rfl rfl soA ?_)
      (refine HO_2p 1 7 (by decide +kernel) rfl rfl (by decide +kernel) ?_ ?_)
      ·(refine HO_k 2 rfl ?_; refine HO_loT rfl rfl rfl rfl rfl rfl soA ?_)
       first | refine SK ?_ | exact HO_seg rfl rfl | refine S1 ?_ | (refine T2 ?_; intros) | (refine HO_g 2 rfl ?_; first | apply HO_a1 rfl | apply HO_o1 rfl)
       refine HO_or3 (b := clo0) (v := clo1) (i0 := 3) (i1 := 4) (i2 := 5) (d := 71) (fun K' hk hb => by subst hb; (iterate 3 (first | refine SK ?_ | exact HO_seg rfl rfl | refine S1 ?_ | (refine T2 ?_; intros) | (refine HO_g 2 rfl ?_; first | apply HO_a1 rfl | apply HO_o1 rfl))); exact HO_drop2 rfl rfl hk) (fun K' hk hb => by subst hb; (iterate 3 (first | refine SK ?_ | exact HO_seg rfl rfl | refine S1 ?_ | (refine T2 ?_; intros) | (refine HO_g 2 rfl ?_; first | apply HO_a1 rfl | apply HO_o1 rfl))); exact HO_drop2 rfl rfl hk) ?_
       (refine HO_k 2 rfl ?_; refine HO_loT rfl rfl rfl rfl rfl rfl soA ?_)
       first | refine SK ?_ | exact HO_seg rfl rfl | refine S1 ?_ | (refine T2 ?_; intros) | (refine HO_g 2 rfl ?_; first | apply HO_a1 rfl | apply HO_o1 rfl)
       refine HO_or3 (b := up0) (v := up1) (i0 := 9) (i1 := 10) (i2 := 11) (d := 77) (fun K' hk hb => by subst hb; (iterate 3 (first | refine SK ?_ | exact HO_seg rfl rfl | refine S1 ?_ | (refine T2 ?_; intros) | (refine HO_g 2 rfl ?_; first | apply HO_a1 rfl | apply HO_o1 rfl))); exact HO_drop2 rfl rfl hk) (fun K' hk hb => by subst hb; (iterate 3 (first | refine SK ?_ | exact HO_seg rfl rfl | refine S1 ?_ | (refine T2 ?_; intros) | (refine HO_g 2 rfl ?_; first | apply HO_a1 rfl | apply HO_o1 rfl))); exact HO_drop2 rfl rfl hk) ?_
       first | refine SK ?_ | exact HO_seg rfl rfl | refine S1 ?_ | (refine T2 ?_; intros) | (refine HO_g 2 rfl ?_; first | apply HO_a1 rfl | apply HO_o1 rfl)
       refine HO_or3 (b := dn0) (v := dn1) (i0 := 15) (i1 := 16) (i2 := 17) (d := 83) (fun K' hk hb => by subst hb; (iterate 3 (first | refine SK ?_ | exact HO_seg rfl rfl | refine S1 ?_ | (refine T2 ?_; intros) | (refine HO_g 2 rfl ?_; first | apply HO_a1 rfl | apply HO_o1 rfl))); exact HO_drop2 rfl rfl hk) (fun K' hk hb => by subst hb; (iterate 3 (first | refine SK ?_ | exact HO_seg rfl rfl | refine S1 ?_ | (refine T2 ?_; intros) | (refine HO_g 2 rfl ?_; first | apply HO_a1 rfl | apply HO_o1 rfl))); exact HO_drop2 rfl rfl hk) ?_
       first | refine SK ?_ | exact HO_seg rfl rfl | refine S1 ?_ | (refine T2 ?_; intros) | (refine HO_g 2 rfl ?_; first | apply HO_a1 rfl | apply HO_o1 rfl)
       refine HO_or3 (b := con0) (v := con1) (i0 := 21) (i1 := 22) (i2 := 23) (d := 89) (fun K' hk hb => by subst hb; (iterate 3 (first | refine SK ?_ | exact HO_seg rfl rfl | refine S1 ?_ | (refine T2 ?_; intros) | (refine HO_g 2 rfl ?_; first | apply HO_a1 rfl | apply HO_o1 rfl))); exact HO_drop2 rfl rfl hk) (fun K' hk hb => by subst hb; (iterate 3 (first | refine SK ?_ | exact HO_seg rfl rfl | refine S1 ?_ | (refine T2 ?_; intros) | (refine HO_g 2 rfl ?_; first | apply HO_a1 rfl | apply HO_o1 rfl))); exact HO_drop2 rfl rfl hk) ?_
       repeat' (first | (exact HX_atK () trivial ⟨rfl, rfl, rfl, rfl, rfl, rfl, rfl, trivial⟩ permA) | refine S1 ?_ | (refine T2 ?_; intros) | fail)
      ·(refine HO_k 2 rfl ?_; refine HO_loT rfl rfl rfl rfl rfl rfl soA ?_)
       (refine HO_k 2 rfl ?_; refine HO_loT rfl rfl rfl rfl rfl rfl soA ?_)
       first | refine SK ?_ | exact HO_seg rfl rfl | refine S1 ?_ | (refine T2 ?_; intros) | (refine HO_g 2 rfl ?_; first | apply HO_a1 rfl | apply HO_o1 rfl)
       refine HO_or3 (b := clo0) (v := clo1) (i0 := 3) (i1 := 4) (i2 := 5) (d := 71) (fun K' hk hb => by subst hb; (iterate 3 (first | refine SK ?_ | exact HO_seg rfl rfl | refine S1 ?_ | (refine T2 ?_; intros) | (refine HO_g 2 rfl ?_; first | apply HO_a1 rfl | apply HO_o1 rfl))); exact HO_drop2 rfl rfl hk) (fun K' hk hb => by subst hb; (iterate 3 (first | refine SK ?_ | exact HO_seg rfl rfl | refine S1 ?_ | (refine T2 ?_; intros) | (refine HO_g 2 rfl ?_; first | apply HO_a1 rfl | apply HO_o1 rfl))); exact HO_drop2 rfl rfl hk) ?_
       first | refine SK ?_ | exact HO_seg rfl rfl | refine S1 ?_ | (refine T2 ?_; intros) | (refine HO_g 2 rfl ?_; first | apply HO_a1 rfl | apply HO_o1 rfl)
       refine HO_or3 (b := up0) (v := up1) (i0 := 9) (i1 := 10) (i2 := 11) (d := 77) (fun K' hk hb => by subst hb; (iterate 3 (first | refine SK ?_ | exact HO_seg rfl rfl | refine S1 ?_ | (refine T2 ?_; intros) | (refine HO_g 2 rfl ?_; first | apply HO_a1 rfl | apply HO_o1 rfl))); exact HO_drop2 rfl rfl hk) (fun K' hk hb => by subst hb; (iterate 3 (first | refine SK ?_ | exact HO_seg rfl rfl | refine S1 ?_ | (refine T2 ?_; intros) | (refine HO_g 2 rfl ?_; first | apply HO_a1 rfl | apply HO_o1 rfl))); exact HO_drop2 rfl rfl hk) ?_
       first | refine SK ?_ | exact HO_seg rfl rfl | refine S1 ?_ | (refine T2 ?_; intros) | (refine HO_g 2 rfl ?_; first | apply HO_a1 rfl | apply HO_o1 rfl)
       refine HO_or3 (b := dn0) (v := dn1) (i0 := 15) (i1 := 16) (i2 := 17) (d := 83) (fun K' hk hb => by subst hb; (iterate 3 (first | refine SK ?_ | exact HO_seg rfl rfl | refine S1 ?_ | (refine T2 ?_; intros) | (refine HO_g 2 rfl ?_; first | apply HO_a1 rfl | apply HO_o1 rfl))); exact HO_drop2 rfl rfl hk) (fun K' hk hb => by subst hb; (iterate 3 (first | refine SK ?_ | exact HO_seg rfl rfl | refine S1 ?_ | (refine T2 ?_; intros) | (refine HO_g 2 rfl ?_; first | apply HO_a1 rfl | apply HO_o1 rfl))); exact HO_drop2 rfl rfl hk) ?_
       first | refine SK ?_ | exact HO_seg rfl rfl | refine S1 ?_ | (refine T2 ?_; intros) | (refine HO_g 2 rfl ?_; first | apply HO_a1 rfl | apply HO_o1 rfl)
       refine HO_or3 (b := con0) (v := con1) (i0 := 21) (i1 := 22) (i2 := 23) (d := 89) (fun K' hk hb => by subst hb; (iterate 3 (first | refine SK ?_ | exact HO_seg rfl rfl | refine S1 ?_ | (refine T2 ?_; intros) | (refine HO_g 2 rfl ?_; first | apply HO_a1 rfl | apply HO_o1 rfl))); exact HO_drop2 rfl rfl hk) (fun K' hk hb => by subst hb; (iterate 3 (first | refine SK ?_ | exact HO_seg rfl rfl | refine S1 ?_ | (refine T2 ?_; intros) | (refine HO_g 2 rfl ?_; first | apply HO_a1 rfl | apply HO_o1 rfl))); exact HO_drop2 rfl rfl hk) ?_
       repeat' (first | (exact HX_atK () trivial ⟨rfl, rfl, rfl, rfl, rfl, rfl, rfl, trivial⟩ permA) | refine S1 ?_ | (refine T2 ?_; intros) | fail)
   rintro ⟨⟩ -
   repeat' (first | refine SK ?_ | refine SD ?_ | refine SB ?_ | (refine T2 ?_; intros) | fail)
   rename_i A2 c2'
   have hn : PcI A b ⟨i + k, cutA B2 1 m k, m - k, ⟨z.us ++ y.us, (A1, c1'), (A2, c2')⟩⟩ := ⟨by show i + k ≤ b.length; omega, by show b.length - (i + k) ≤ m - k; omega, fun S w h => by
    have h5 := arr_drop m k (fun e => by rw [List.length_drop]; omega) S w (hE S w h)
    rwa [List.drop_drop] at h5, by
    show RsOk (pcM b (i + k)).2 _
    rw [h1]
    exact radd_ok hz hy _ _⟩
   refine HX_atK ⟨i + k, cutA B2 1 m k, m - k, ⟨z.us ++ y.us, (A1, c1'), (A2, c2')⟩⟩ ⟨hn, by show b.length - (i + k) < k; omega⟩ ⟨(by show _ = some (Value.slice (cutA B2 1 m k) (b.length - (i + k)) (m - k)); rw [← hlen]; rfl), rfl, rfl, rfl, rfl, rfl, trivial⟩ ?_
   dsimp only [pcP, rsP, rsC]
   rw [h1]
   dsimp only
   rw [List.length_append, List.map_append, show upsL (z.us ++ y.us) = upsL z.us ++ upsL y.us from List.flatMap_append, show (last0 ++ last1).length = last0.length + last1.length from List.length_append]
   have hob : own idE 5 1 A2 (last0.length + last1.length) c2' (List.map bE last0 ++ List.map bE last1) = ownB (A2, c2') (last0 ++ last1) := by
    unfold ownB
    rw [List.length_append, List.map_append]
   rw [hob]
   exact Keeps.pick 8 rfl rfl (Keeps.pick 8 rfl rfl (Keeps.pick 8 rfl rfl (Keeps.pick 8 rfl rfl (Keeps.pick 8 rfl rfl (Keeps.pick 7 rfl rfl (Keeps.pick 1 rfl rfl (Keeps.pick 1 rfl rfl (Keeps.comp (Keeps.pick 2 rfl rfl (Keeps.pick 2 rfl rfl (Keeps.pick 0 rfl rfl Keeps.nil))) (inn_flat Keeps.refl)))))))))
  ·obtain ⟨k, rfl⟩ : ∃ k : Nat, piece = (k : Int) := ⟨piece.toNat, by omega⟩
   have hki : k ≤ b.length - i := by omega
   have hk1 : 1 ≤ k := by omega
   have hlen : b.length - i - k = b.length - (i + k) := by omega
   have h1 := hst i k (by omega)
   have hl : ((b.drop i).take k).length = k := by rw [List.length_take, List.length_drop]; omega
   have hR := (hIi.1.in 5 ((b.drop i).take k)).2
   have c3 := fun A' c' => Tri_phi (ψ := fun z => RsOk (inM updM 5 (pcM b i).1 ((b.drop i).take k)).2 z ∧ z.us.length ≤ 1000000) (pfeed_t p t 5 (pcM b i).1 hIi.1.ok hidi hIi.1.s A' c' ((b.drop i).take k) (by omega)) (fun x hx => ⟨hx, by rw [rs_len hx]; exact hR.u⟩)
   have hz0 := rs_len hz
   have hR0 := hIi.2
   simp only [hl] at c3
   have hsrc : Ent (arr bE 1 A b) (arr bE 1 B2 ((b.drop i).take k)) := fun S w h => arr_take k S w (hE S w h)
   obtain ⟨CH, hCH⟩ : ∃ CH, (b.drop i).take k = CH := ⟨_, rfl⟩
   rw [hCH] at c3 h1 hl hsrc hR
   obtain ⟨⟨x1, ⟨ups1, con1, clo1, last1, up1, dn1⟩⟩, hX⟩ : ∃ X, inM updM 5 (pcM b i).1 CH = X := ⟨_, rfl⟩
   rw [hX] at c3 h1 hR
   obtain ⟨⟨x0, ⟨ups0, con0, clo0, last0, up0, dn0⟩⟩, h0⟩ : ∃ X, pcM b i = X := ⟨_, rfl⟩
   rw [h0] at h1 c3 hz hz0 hR0 ⊢
   obtain ⟨u0, l0⟩ := hR0
   obtain ⟨u1, l1⟩ := hR
   dsimp only [radd, rsV, rsC, rsP, lca, lna] at h1 c3 hz hz0 u0 l0 u1 l1 ⊢
   have hz0w : z.us.length ≤ 1000000 := by omega
   repeat' (first | refine SK ?_ | refine SD ?_ | (refine KC ?_; refine HO_callP rfl rfl rfl rfl (c3 _ _) findA ((AllSrc.via 1 rfl hsrc (AllSrc.at_ 0 rfl trivial))) rfl rfl soA ?_; intro y ⟨hy, hyl⟩; dsimp only [lca, lna]) | refine S1 ?_ | (refine T2 ?_; intros) | refine S5n ?_ | fail)
   rename_i b12 A1 c1'
   refine HC_cutP (α := Unit) (fun _ => True) (fun _ => [(0, .slice (cutA B2 1 m k) (b.length - i - k) (m - k)), (12, pt b12), (1, .int .i64 (k : Int)), (5, pt p1), (7, pt p), (9, pt b9), (10, pt b10)])
    (fun _ => [cel b10 29 [.slice A1 (z.us.length + y.us.length) c1', .bool (con0 || con1), .bool (clo0 || clo1), .slice z.l.1 last0.length z.l.2, .bool (up0 || up1), .bool (dn0 || dn1)],
     own idE 55 9 A1 (z.us.length + y.us.length) c1' (List.map UpS.e z.us ++ List.map UpS.e y.us),
     cel b12 29 [.slice y.u.1 y.us.length y.u.2, .bool con1, .bool clo1, .slice y.l.1 last1.length y.l.2, .bool up1, .bool dn1],
     inn (upsL z.us), inn (upsL y.us), ownB z.l last0, ownB y.l last1, peP p t x1,
     cel b9 29 [.slice z1.u.1 z1.us.length z1.u.2, .bool (pcM b b.length).2.con, .bool (pcM b b.length).2.clo, .slice z1.l.1 (pcM b b.length).2.last.length z1.l.2, .bool (pcM b b.length).2.up, .bool (pcM b b.length).2.dn],
     own idE 55 9 z1.u.1 z1.us.length z1.u.2 (List.map UpS.e z1.us), inn (upsL z1.us), ownB z1.l (pcM b b.length).2.last, peP p1 t1 (pcM b b.length).1]) ?_ ?_
   ·refine HC_lex rfl rfl (by decide +kernel) rfl rfl ?_
    refine HO_names (l' := [0, 6, 12, 18, 1, 2, 3, 4, 5, 7, 8, 9, 10, 11, 13, 14, 15, 16, 17, 19, 20, 21, 22, 23, 24, 25, 26, 27, 28, 29, 30, 31]) (by decide +kernel) ?_
    refine HO_holdA 1 rfl rfl ?_
    iterate 4 (first | refine SK ?_ | exact HO_seg rfl rfl | refine S1 ?_ | (refine T2 ?_; intros) | (refine HO_g 2 rfl ?_; first | apply HO_a1 rfl | apply HO_o1 rfl))
    (refine HO_4p 1 7 13 19 (by decide +kernel) rfl rfl rfl rfl (by decide +kernel) ?_ ?_ ?_ ?_)
    ·(refine HO_k 2 rfl ?_; refine HO_loT rfl rfl rfl rfl rfl rfl soA ?_)
     first | refine SK ?_ | exact HO_seg rfl rfl | refine S1 ?_ | (refine T2 ?_; intros) | (refine HO_g 2 rfl ?_; first | apply HO_a1 rfl | apply HO_o1 rfl)
     refine HO_or3 (b := clo0) (v := clo1) (i0 := 3) (i1 := 4) (i2 := 5) (d := 71) (fun K' hk hb => by subst hb; (iterate 3 (first | refine SK ?_ | exact HO_seg rfl rfl | refine S1 ?_ | (refine T2 ?_; intros) | (refine HO_g 2 rfl ?_; first | apply HO_a1 rfl | apply HO_o1 rfl))); exact HO_drop2 rfl rfl hk) (fun K' hk hb => by subst hb; (iterate 3 (first | refine SK ?_ | exact HO_seg rfl rfl | refine S1 ?_ | (refine T2 ?_; intros) | (refine HO_g 2 rfl ?_; first | apply HO_a1 rfl | apply HO_o1 rfl))); exact HO_drop2 rfl rfl hk) ?_
     (refine HO_3p 7 13 19 (by decide +kernel) rfl rfl rfl (by decide +kernel) ?_ ?_ ?_)
     ·(refine HO_k 2 rfl ?_; refine HO_loT rfl rfl rfl rfl rfl rfl soA ?_)
      first | refine SK ?_ | exact HO_seg rfl rfl | refine S1 ?_ | (refine T2 ?_; intros) | (refine HO_g 2 rfl ?_; first | apply HO_a1 rfl | apply HO_o1 rfl)
      refine HO_or3 (b := up0) (v := up1) (i0 := 9) (i1 := 10) (i2 := 11) (d := 77) (fun K' hk hb => by subst hb; (iterate 3 (first | refine SK ?_ | exact HO_seg rfl rfl | refine S1 ?_ | (refine T2 ?_; intros) | (refine HO_g 2 rfl ?_; first | apply HO_a1 rfl | apply HO_o1 rfl))); exact HO_drop2 rfl rfl hk) (fun K' hk hb => by subst hb; (iterate 3 (first | refine SK ?_ | exact HO_seg rfl rfl | refine S1 ?_ | (refine T2 ?_; intros) | (refine HO_g 2 rfl ?_; first | apply HO_a1 rfl | apply HO_o1 rfl))); exact HO_drop2 rfl rfl hk) ?_
      (refine HO_2p 13 19 (by decide +kernel) rfl rfl (by decide +kernel) ?_ ?_)
      ·(refine HO_k 2 rfl ?_; refine HO_loT rfl rfl rfl rfl rfl rfl soA ?_)
       first | refine SK ?_ | exact HO_seg rfl rfl | refine S1 ?_ | (refine T2 ?_; intros) | (refine HO_g 2 rfl ?_; first | apply HO_a1 rfl | apply HO_o1 rfl)
       refine HO_or3 (b := dn0) (v := dn1) (i0 := 15) (i1 := 16) (i2 := 17) (d := 83) (fun K' hk hb => by subst hb; (iterate 3 (first | refine SK ?_ | exact HO_seg rfl rfl | refine S1 ?_ | (refine T2 ?_; intros) | (refine HO_g 2 rfl ?_; first | apply HO_a1 rfl | apply HO_o1 rfl))); exact HO_drop2 rfl rfl hk) (fun K' hk hb => by subst hb; (iterate 3 (first | refine SK ?_ | exact HO_seg rfl rfl | refine S1 ?_ | (refine T2 ?_; intros) | (refine HO_g 2 rfl ?_; first | apply HO_a1 rfl | apply HO_o1 rfl))); exact HO_drop2 rfl rfl hk) ?_
       (refine HO_k 2 rfl ?_; refine HO_loT rfl rfl rfl rfl rfl rfl soA ?_)
       first | refine SK ?_ | exact HO_seg rfl rfl | refine S1 ?_ | (refine T2 ?_; intros) | (refine HO_g 2 rfl ?_; first | apply HO_a1 rfl | apply HO_o1 rfl)
       refine HO_or3 (b := con0) (v := con1) (i0 := 21) (i1 := 22) (i2 := 23) (d := 89) (fun K' hk hb => by subst hb; (iterate 3 (first | refine SK ?_ | exact HO_seg rfl rfl | refine S1 ?_ | (refine T2 ?_; intros) | (refine HO_g 2 rfl ?_; first | apply HO_a1 rfl | apply HO_o1 rfl))); exact HO_drop2 rfl rfl hk) (fun K' hk hb => by subst hb; (iterate 3 (first | refine SK ?_ | exact HO_seg rfl rfl | refine S1 ?_ | (refine T2 ?_; intros) | (refine HO_g 2 rfl ?_; first | apply HO_a1 rfl | apply HO_o1 rfl))); exact HO_drop2 rfl rfl hk) ?_
       repeat' (first | (exact HX_atK () trivial ⟨rfl, rfl, rfl, rfl, rfl, rfl, rfl, trivial⟩ permA) | refine S1 ?_ | (refine T2 ?_; intros) | fail)
      ·(refine HO_k 2 rfl ?_; refine HO_loT rfl rfl rfl rfl rfl rfl soA ?_)
       (refine HO_k 2 rfl ?_; refine HO_loT rfl rfl rfl rfl rfl rfl soA ?_)
       first | refine SK ?_ | exact HO_seg rfl rfl | refine S1 ?_ | (refine T2 ?_; intros) | (refine HO_g 2 rfl ?_; first | apply HO_a1 rfl | apply HO_o1 rfl)
       refine HO_or3 (b := dn0) (v := dn1) (i0 := 15) (i1 := 16) (i2 := 17) (d := 83) (fun K' hk hb => by subst hb; (iterate 3 (first | refine SK ?_ | exact HO_seg rfl rfl | refine S1 ?_ | (refine T2 ?_; intros) | (refine HO_g 2 rfl ?_; first | apply HO_a1 rfl | apply HO_o1 rfl))); exact HO_drop2 rfl rfl hk) (fun K' hk hb => by subst hb; (iterate 3 (first | refine SK ?_ | exact HO_seg rfl rfl | refine S1 ?_ | (refine T2 ?_; intros) | (refine HO_g 2 rfl ?_; first | apply HO_a1 rfl | apply HO_o1 rfl))); exact HO_drop2 rfl rfl hk) ?_
       first | refine SK ?_ | exact HO_seg rfl rfl | refine S1 ?_ | (refine T2 ?_; intros) | (refine HO_g 2 rfl ?_; first | apply HO_a1 rfl | apply HO_o1 rfl)
       refine HO_or3 (b := con0) (v := con1) (i0 := 21) (i1 := 22) (i2 := 23) (d := 89) (fun K' hk hb => by subst hb; (iterate 3 (first | refine SK ?_ | exact HO_seg rfl rfl | refine S1 ?_ | (refine T2 ?_; intros) | (refine HO_g 2 rfl ?_; first | apply HO_a1 rfl | apply HO_o1 rfl))); exact HO_drop2 rfl rfl hk) (fun K' hk hb => by subst hb; (iterate 3 (first | refine SK ?_ | exact HO_seg rfl rfl | refine S1 ?_ | (refine T2 ?_; intros) | (refine HO_g 2 rfl ?_; first | apply HO_a1 rfl | apply HO_o1 rfl))); exact HO_drop2 rfl rfl hk) ?_
       repeat' (first | (exact HX_atK () trivial ⟨rfl, rfl, rfl, rfl, rfl, rfl, rfl, trivial⟩ permA) | refine S1 ?_ | (refine T2 ?_; intros) | fail)
     ·(refine HO_k 2 rfl ?_; refine HO_loT rfl rfl rfl rfl rfl rfl soA ?_)
      (refine HO_2p 7 19 (by decide +kernel) rfl rfl (by decide +kernel) ?_ ?_)
      ·(refine HO_k 2 rfl ?_; refine HO_loT rfl rfl rfl rfl rfl rfl soA ?_)
       first | refine SK ?_ | exact HO_seg rfl rfl | refine S1 ?_ | (refine T2 ?_; intros) | (refine HO_g 2 rfl ?_; first | apply HO_a1 rfl | apply HO_o1 rfl)
       refine HO_or3 (b := up0) (v := up1) (i0 := 9) (i1 := 10) (i2 := 11) (d := 77) (fun K' hk hb => by subst hb; (iterate 3 (first | refine SK ?_ | exact HO_seg rfl rfl | refine S1 ?_ | (refine T2 ?_; intros) | (refine HO_g 2 rfl ?_; first | apply HO_a1 rfl | apply HO_o1 rfl))); exact HO_drop2 rfl rfl hk) (fun K' hk hb => by subst hb; (iterate 3 (first | refine SK ?_ | exact HO_seg rfl rfl | refine S1 ?_ | (refine T2 ?_; intros) | (refine HO_g 2 rfl ?_; first | apply HO_a1 rfl | apply HO_o1 rfl))); exact HO_drop2 rfl rfl hk) ?_
       first | refine SK ?_ | exact HO_seg rfl rfl | refine S1 ?_ | (refine T2 ?_; intros) | (refine HO_g 2 rfl ?_; first | apply HO_a1 rfl | apply HO_o1 rfl)
       refine HO_or3 (b := dn0) (v := dn1) (i0 := 15) (i1 := 16) (i2 := 17) (d := 83) (fun K' hk hb => by subst hb; (iterate 3 (first | refine SK ?_ | exact HO_seg rfl rfl | refine S1 ?_ | (refine T2 ?_; intros) | (refine HO_g 2 rfl ?_; first | apply HO_a1 rfl | apply HO_o1 rfl))); exact HO_drop2 rfl rfl hk) (fun K' hk hb => by subst hb; (iterate 3 (first | refine SK ?_ | exact HO_seg rfl rfl | refine S1 ?_ | (refine T2 ?_; intros) | (refine HO_g 2 rfl ?_; first | apply HO_a1 rfl | apply HO_o1 rfl))); exact HO_drop2 rfl rfl hk) ?_
       (refine HO_k 2 rfl ?_; refine HO_loT rfl rfl rfl rfl rfl rfl soA ?_)
       first | refine SK ?_ | exact HO_seg rfl rfl | refine S1 ?_ | (refine T2 ?_; intros) | (refine HO_g 2 rfl ?_; first | apply HO_a1 rfl | apply HO_o1 rfl)
       refine HO_or3 (b := con0) (v := con1) (i0 := 21) (i1 := 22) (i2 := 23) (d := 89) (fun K' hk hb => by subst hb; (iterate 3 (first | refine SK ?_ | exact HO_seg rfl rfl | refine S1 ?_ | (refine T2 ?_; intros) | (refine HO_g 2 rfl ?_; first | apply HO_a1 rfl | apply HO_o1 rfl))); exact HO_drop2 rfl rfl hk) (fun K' hk hb => by subst hb; (iterate 3 (first | refine SK ?_ | exact HO_seg rfl rfl | refine S1 ?_ | (refine T2 ?_; intros) | (refine HO_g 2 rfl ?_; first | apply HO_a1 rfl | apply HO_o1 rfl))); exact HO_drop2 rfl rfl hk) ?_
       repeat' (first | (exact HX_atK () trivial ⟨rfl, rfl, rfl, rfl, rfl, rfl, rfl, trivial⟩ permA) | refine S1 ?_ | (refine T2 ?_; intros) | fail)
      ·(refine HO_k 2 rfl ?_; refine HO_loT rfl rfl rfl rfl rfl rfl soA ?_)
       (refine HO_k 2 rfl ?_; refine HO_loT rfl rfl rfl rfl rfl rfl soA ?_)
       first | refine SK ?_ | exact HO_seg rfl rfl | refine S1 ?_ | (refine T2 ?_; intros) | (refine HO_g 2 rfl ?_; first | apply HO_a1 rfl | apply HO_o1 rfl)
       refine HO_or3 (b := up0) (v := up1) (i0 := 9) (i1 := 10) (i2 := 11) (d := 77) (fun K' hk hb => by subst hb; (iterate 3 (first | refine SK ?_ | exact HO_seg rfl rfl | refine S1 ?_ | (refine T2 ?_; intros) | (refine HO_g 2 rfl ?_; first | apply HO_a1 rfl | apply HO_o1 rfl))); exact HO_drop2 rfl rfl hk) (fun K' hk hb => by subst hb; (iterate 3 (first | refine SK ?_ | exact HO_seg rfl rfl | refine S1 ?_ | (refine T2 ?_; intros) | (refine HO_g 2 rfl ?_; first | apply HO_a1 rfl | apply HO_o1 rfl))); exact HO_drop2 rfl rfl hk) ?_
       first | refine SK ?_ | exact HO_seg rfl rfl | refine S1 ?_ | (refine T2 ?_; intros) | (refine HO_g 2 rfl ?_; first | apply HO_a1 rfl | apply HO_o1 rfl)
       refine HO_or3 (b := dn0) (v := dn1) (i0 := 15) (i1 := 16) (i2 := 17) (d := 83) (fun K' hk hb => by subst hb; (iterate 3 (first | refine SK ?_ | exact HO_seg rfl rfl | refine S1 ?_ | (refine T2 ?_; intros) | (refine HO_g 2 rfl ?_; first | apply HO_a1 rfl | apply HO_o1 rfl))); exact HO_drop2 rfl rfl hk) (fun K' hk hb => by subst hb; (iterate 3 (first | refine SK ?_ | exact HO_seg rfl rfl | refine S1 ?_ | (refine T2 ?_; intros) | (refine HO_g 2 rfl ?_; first | apply HO_a1 rfl | apply HO_o1 rfl))); exact HO_drop2 rfl rfl hk) ?_
       first | refine SK ?_ | exact HO_seg rfl rfl | refine S1 ?_ | (refine T2 ?_; intros) | (refine HO_g 2 rfl ?_; first | apply HO_a1 rfl | apply HO_o1 rfl)
       refine HO_or3 (b := con0) (v := con1) (i0 := 21) (i1 := 22) (i2 := 23) (d := 89) (fun K' hk hb => by subst hb; (iterate 3 (first | refine SK ?_ | exact HO_seg rfl rfl | refine S1 ?_ | (refine T2 ?_; intros) | (refine HO_g 2 rfl ?_; first | apply HO_a1 rfl | apply HO_o1 rfl))); exact HO_drop2 rfl rfl hk) (fun K' hk hb => by subst hb; (iterate 3 (first | refine SK ?_ | exact HO_seg rfl rfl | refine S1 ?_ | (refine T2 ?_; intros) | (refine HO_g 2 rfl ?_; first | apply HO_a1 rfl | apply HO_o1 rfl))); exact HO_drop2 rfl rfl hk) ?_
       repeat' (first | (exact HX_atK () trivial ⟨rfl, rfl, rfl, rfl, rfl, rfl, rfl, trivial⟩ permA) | refine S1 ?_ | (refine T2 ?_; intros) | fail)
     ·(refine HO_k 2 rfl ?_; refine HO_loT rfl rfl rfl rfl rfl rfl soA ?_)
      (refine HO_2p 7 13 (by decide +kernel) rfl rfl (by decide +kernel) ?_ ?_)
      ·(refine HO_k 2 rfl ?_; refine HO_loT rfl rfl rfl rfl rfl rfl soA ?_)
       first | refine SK ?_ | exact HO_seg rfl rfl | refine S1 ?_ | (refine T2 ?_; intros) | (refine HO_g 2 rfl ?_; first | apply HO_a1 rfl | apply HO_o1 rfl)
       refine HO_or3 (b := up0) (v := up1) (i0 := 9) (i1 := 10) (i2 := 11) (d := 77) (fun K' hk hb => by subst hb; (iterate 3 (first | refine SK ?_ | exact HO_seg rfl rfl | refine S1 ?_ | (refine T2 ?_; intros) | (refine HO_g 2 rfl ?_; first | apply HO_a1 rfl | apply HO_o1 rfl))); exact HO_drop2 rfl rfl hk) (fun K' hk hb => by subst hb; (iterate 3 (first | refine SK ?_ | exact HO_seg rfl rfl | refine S1 ?_ | (refine T2 ?_; intros) | (refine HO_g 2 rfl ?_; first | apply HO_a1 rfl | apply HO_o1 rfl))); exact HO_drop2 rfl rfl hk) ?_
       (refine HO_k 2 rfl ?_; refine HO_loT rfl rfl rfl rfl rfl rfl soA ?_)
       first | refine SK ?_ | exact HO_seg rfl rfl | refine S1 ?_ | (refine T2 ?_; intros) | (refine HO_g 2 rfl ?_; first | apply HO_a1 rfl | apply HO_o1 rfl)
       refine HO_or3 (b := dn0) (v := dn1) (i0 := 15) (i1 := 16) (i2 := 17) (d := 83) (fun K' hk hb => by subst hb; (iterate 3 (first | refine SK ?_ | exact HO_seg rfl rfl | refine S1 ?_ | (refine T2 ?_; intros) | (refine HO_g 2 rfl ?_; first | apply HO_a1 rfl | apply HO_o1 rfl))); exact HO_drop2 rfl rfl hk) (fun K' hk hb => by subst hb; (iterate 3 (first | refine SK ?_ | exact HO_seg rfl rfl | refine S1 ?_ | (refine T2 ?_; intros) | (refine HO_g 2 rfl ?_; first | apply HO_a1 rfl | apply HO_o1 rfl))); exact HO_drop2 rfl rfl hk) ?_
       first | refine SK ?_ | exact HO_seg rfl rfl | refine S1 ?_ | (refine T2 ?_; intros) | (refine HO_g 2 rfl ?_; first | apply HO_a1 rfl | apply HO_o1 rfl)
       refine HO_or3 (b := con0) (v := con1) (i0 := 21) (i1 := 22) (i2 := 23) (d := 89) (fun K' hk hb => by subst hb; (iterate 3 (first | refine SK ?_ | exact HO_seg rfl rfl | refine S1 ?_ | (refine T2 ?_; intros) | (refine HO_g 2 rfl ?_; first | apply HO_a1 rfl | apply HO_o1 rfl))); exact HO_drop2 rfl rfl hk) (fun K' hk hb => by subst hb; (iterate 3 (first | refine SK ?_ | exact HO_seg rfl rfl | refine S1 ?_ | (refine T2 ?_; intros) | (refine HO_g 2 rfl ?_; first | apply HO_a1 rfl | apply HO_o1 rfl))); exact HO_drop2 rfl rfl hk) ?_
       repeat' (first | (exact HX_atK () trivial ⟨rfl, rfl, rfl, rfl, rfl, rfl, rfl, trivial⟩ permA) | refine S1 ?_ | (refine T2 ?_; intros) | fail)
      ·(refine HO_k 2 rfl ?_; refine HO_loT rfl rfl rfl rfl rfl rfl soA ?_)
       (refine HO_k 2 rfl ?_; refine HO_loT rfl rfl rfl rfl rfl rfl soA ?_)
       first | refine SK ?_ | exact HO_seg rfl rfl | refine S1 ?_ | (refine T2 ?_; intros) | (refine HO_g 2 rfl ?_; first | apply HO_a1 rfl | apply HO_o1 rfl)
       refine HO_or3 (b := up0) (v := up1) (i0 := 9) (i1 := 10) (i2 := 11) (d := 77) (fun K' hk hb => by subst hb; (iterate 3 (first | refine SK ?_ | exact HO_seg rfl rfl | refine S1 ?_ | (refine T2 ?_; intros) | (refine HO_g 2 rfl ?_; first | apply HO_a1 rfl | apply HO_o1 rfl))); exact HO_drop2 rfl rfl hk) (fun K' hk hb => by subst hb; (iterate 3 (first | refine SK ?_ | exact HO_seg rfl rfl | refine S1 ?_ | (refine T2 ?_; intros) | (refine HO_g 2 rfl ?_; first | apply HO_a1 rfl | apply HO_o1 rfl))); exact HO_drop2 rfl rfl hk) ?_
       first | refine SK ?_ | exact HO_seg rfl rfl | refine S1 ?_ | (refine T2 ?_; intros) | (refine HO_g 2 rfl ?_; first | apply HO_a1 rfl | apply HO_o1 rfl)
       refine HO_or3 (b := dn0) (v := dn1) (i0 := 15) (i1 := 16) (i2 := 17) (d := 83) (fun K' hk hb => by subst hb; (iterate 3 (first | refine SK ?_ | exact HO_seg rfl rfl | refine S1 ?_ | (refine T2 ?_; intros) | (refine HO_g 2 rfl ?_; first | apply HO_a1 rfl | apply HO_o1 rfl))); exact HO_drop2 rfl rfl hk) (fun K' hk hb => by subst hb; (iterate 3 (first | refine SK ?_ | exact HO_seg rfl rfl | refine S1 ?_ | (refine T2 ?_; intros) | (refine HO_g 2 rfl ?_; first | apply HO_a1 rfl | apply HO_o1 rfl))); exact HO_drop2 rfl rfl hk) ?_
       first | refine SK ?_ | exact HO_seg rfl rfl | refine S1 ?_ | (refine T2 ?_; intros) | (refine HO_g 2 rfl ?_; first | apply HO_a1 rfl | apply HO_o1 rfl)
       refine HO_or3 (b := con0) (v := con1) (i0 := 21) (i1 := 22) (i2 := 23) (d := 89) (fun K' hk hb => by subst hb; (iterate 3 (first | refine SK ?_ | exact HO_seg rfl rfl | refine S1 ?_ | (refine T2 ?_; intros) | (refine HO_g 2 rfl ?_; first | apply HO_a1 rfl | apply HO_o1 rfl))); exact HO_drop2 rfl rfl hk) (fun K' hk hb => by subst hb; (iterate 3 (first | refine SK ?_ | exact HO_seg rfl rfl | refine S1 ?_ | (refine T2 ?_; intros) | (refine HO_g 2 rfl ?_; first | apply HO_a1 rfl | apply HO_o1 rfl))); exact HO_drop2 rfl rfl hk) ?_
       repeat' (first | (exact HX_atK () trivial ⟨rfl, rfl, rfl, rfl, rfl, rfl, rfl, trivial⟩ permA) | refine S1 ?_ | (refine T2 ?_; intros) | fail)
    ·(refine HO_k 2 rfl ?_; refine HO_loT rfl rfl rfl rfl rfl rfl soA ?_)
     (refine HO_3p 1 13 19 (by decide +kernel) rfl rfl rfl (by decide +kernel) ?_ ?_ ?_)
     ·(refine HO_k 2 rfl ?_; refine HO_loT rfl rfl rfl rfl rfl rfl soA ?_)
      first | refine SK ?_ | exact HO_seg rfl rfl | refine S1 ?_ | (refine T2 ?_; intros) | (refine HO_g 2 rfl ?_; first | apply HO_a1 rfl | apply HO_o1 rfl)
      refine HO_or3 (b := clo0) (v := clo1) (i0 := 3) (i1 := 4) (i2 := 5) (d := 71) (fun K' hk hb => by subst hb; (iterate 3 (first | refine SK ?_ | exact HO_seg rfl rfl | refine S1 ?_ | (refine T2 ?_; intros) | (refine HO_g 2 rfl ?_; first | apply HO_a1 rfl | apply HO_o1 rfl))); exact HO_drop2 rfl rfl hk) (fun K' hk hb => by subst hb; (iterate 3 (first | refine SK ?_ | exact HO_seg rfl rfl | refine S1 ?_ | (refine T2 ?_; intros) | (refine HO_g 2 rfl ?_; first | apply HO_a1 rfl | apply HO_o1 rfl))); exact HO_drop2 rfl rfl hk) ?_
      first | refine SK ?_ | exact HO_seg rfl rfl | refine S1 ?_ | (refine T2 ?_; intros) | (refine HO_g 2 rfl ?_; first | apply HO_a1 rfl | apply HO_o1 rfl)
      refine HO_or3 (b := up0) (v := up1) (i0 := 9) (i1 := 10) (i2 := 11) (d := 77) (fun K' hk hb => by subst hb; (iterate 3 (first | refine SK ?_ | exact HO_seg rfl rfl | refine S1 ?_ | (refine T2 ?_; intros) | (refine HO_g 2 rfl ?_; first | apply HO_a1 rfl | apply HO_o1 rfl))); exact HO_drop2 rfl rfl hk) (fun K' hk hb => by subst hb; (iterate 3 (first | refine SK ?_ | exact HO_seg rfl rfl | refine S1 ?_ | (refine T2 ?_; intros) | (refine HO_g 2 rfl ?_; first | apply HO_a1 rfl | apply HO_o1 rfl))); exact HO_drop2 rfl rfl hk) ?_
      (refine HO_2p 13 19 (by decide +kernel) rfl rfl (by decide +kernel) ?_ ?_)
      ·(refine HO_k 2 rfl ?_; refine HO_loT rfl rfl rfl rfl rfl rfl soA ?_)
       first | refine SK ?_ | exact HO_seg rfl rfl | refine S1 ?_ | (refine T2 ?_; intros) | (refine HO_g 2 rfl ?_; first | apply HO_a1 rfl | apply HO_o1 rfl)
       refine HO_or3 (b := dn0) (v := dn1) (i0 := 15) (i1 := 16) (i2 := 17) (d := 83) (fun K' hk hb => by subst hb; (iterate 3 (first | refine SK ?_ | exact HO_seg rfl rfl | refine S1 ?_ | (refine T2 ?_; intros) | (refine HO_g 2 rfl ?_; first | apply HO_a1 rfl | apply HO_o1 rfl))); exact HO_drop2 rfl rfl hk) (fun K' hk hb => by subst hb; (iterate 3 (first | refine SK ?_ | exact HO_seg rfl rfl | refine S1 ?_ | (refine T2 ?_; intros) | (refine HO_g 2 rfl ?_; first | apply HO_a1 rfl | apply HO_o1 rfl))); exact HO_drop2 rfl rfl hk) ?_
       (refine HO_k 2 rfl ?_; refine HO_loT rfl rfl rfl rfl rfl rfl soA ?_)
       first | refine SK ?_ | exact HO_seg rfl rfl | refine S1 ?_ | (refine T2 ?_; intros) | (refine HO_g 2 rfl ?_; first | apply HO_a1 rfl | apply HO_o1 rfl)
       refine HO_or3 (b := con0) (v := con1) (i0 := 21) (i1 := 22) (i2 := 23) (d := 89) (fun K' hk hb => by subst hb; (iterate 3 (first | refine SK ?_ | exact HO_seg rfl rfl | refine S1 ?_ | (refine T2 ?_; intros) | (refine HO_g 2 rfl ?_; first | apply HO_a1 rfl | apply HO_o1 rfl))); exact HO_drop2 rfl rfl hk) (fun K' hk hb => by subst hb; (iterate 3 (first | refine SK ?_ | exact HO_seg rfl rfl | refine S1 ?_ | (refine T2 ?_; intros) | (refine HO_g 2 rfl ?_; first | apply HO_a1 rfl | apply HO_o1 rfl))); exact HO_drop2 rfl rfl hk) ?_
       repeat' (first | (exact HX_atK () trivial ⟨rfl, rfl, rfl, rfl, rfl, rfl, rfl, trivial⟩ permA) | refine S1 ?_ | (refine T2 ?_; intros) | fail)
      ·(refine HO_k 2 rfl ?_; refine HO_loT rfl rfl rfl rfl rfl rfl soA ?_)
       (refine HO_k 2 rfl ?_; refine HO_loT rfl rfl rfl rfl rfl rfl soA ?_)
       first | refine SK ?_ | exact HO_seg rfl rfl | refine S1 ?_ | (refine T2 ?_; intros) | (refine HO_g 2 rfl ?_; first | apply HO_a1 rfl | apply HO_o1 rfl)
       refine HO_or3 (b := dn0) (v := dn1) (i0 := 15) (i1 := 16) (i2 := 17) (d := 83) (fun K' hk hb => by subst hb; (iterate 3 (first | refine SK ?_ | exact HO_seg rfl rfl | refine S1 ?_ | (refine T2 ?_; intros) | (refine HO_g 2 rfl ?_; first | apply HO_a1 rfl | apply HO_o1 rfl))); exact HO_drop2 rfl rfl hk) (fun K' hk hb => by subst hb; (iterate 3 (first | refine SK ?_ | exact HO_seg rfl rfl | refine S1 ?_ | (refine T2 ?_; intros) | (refine HO_g 2 rfl ?_; first | apply HO_a1 rfl | apply HO_o1 rfl))); exact HO_drop2 rfl rfl hk) ?_
       first | refine SK ?_ | exact HO_seg rfl rfl | refine S1 ?_ | (refine T2 ?_; intros) | (refine HO_g 2 rfl ?_; first | apply HO_a1 rfl | apply HO_o1 rfl)
       refine HO_or3 (b := con0) (v := con1) (i0 := 21) (i1 := 22) (i2 := 23) (d := 89) (fun K' hk hb => by subst hb; (iterate 3 (first | refine SK ?_ | exact HO_seg rfl rfl | refine S1 ?_ | (refine T2 ?_; intros) | (refine HO_g 2 rfl ?_; first | apply HO_a1 rfl | apply HO_o1 rfl))); exact HO_drop2 rfl rfl hk) (fun K' hk hb => by subst hb; (iterate 3 (first | refine SK ?_ | exact HO_seg rfl rfl | refine S1 ?_ | (refine T2 ?_; intros) | (refine HO_g 2 rfl ?_; first | apply HO_a1 rfl | apply HO_o1 rfl))); exact HO_drop2 rfl rfl hk) ?_
       repeat' (first | (exact HX_atK () trivial ⟨rfl, rfl, rfl, rfl, rfl, rfl, rfl, trivial⟩ permA) | refine S1 ?_ | (refine T2 ?_; intros) | fail)
     ·(refine HO_k 2 rfl ?_; refine HO_loT rfl rfl rfl rfl rfl rfl soA ?_)
      (refine HO_2p 1 19 (by decide +kernel) rfl rfl (by decide +kernel) ?_ ?_)
      ·(refine HO_k 2 rfl ?_; refine HO_loT rfl rfl rfl rfl rfl rfl soA ?_)
       first | refine SK ?_ | exact HO_seg rfl rfl | refine S1 ?_ | (refine T2 ?_; intros) | (refine HO_g 2 rfl ?_; first | apply HO_a1 rfl | apply HO_o1 rfl)
       refine HO_or3 (b := clo0) (v := clo1) (i0 := 3) (i1 := 4) (i2 := 5) (d := 71) (fun K' hk hb => by subst hb; (iterate 3 (first | refine SK ?_ | exact HO_seg rfl rfl | refine S1 ?_ | (refine T2 ?_; intros) | (refine HO_g 2 rfl ?_; first | apply HO_a1 rfl | apply HO_o1 rfl))); exact HO_drop2 rfl rfl hk) (fun K' hk hb => by subst hb; (iterate 3 (first | refine SK ?_ | exact HO_seg rfl rfl | refine S1 ?_ | (refine T2 ?_; intros) | (refine HO_g 2 rfl ?_; first | apply HO_a1 rfl | apply HO_o1 rfl))); exact HO_drop2 rfl rfl hk) ?_
       first | refine SK ?_ | exact HO_seg rfl rfl | refine S1 ?_ | (refine T2 ?_; intros) | (refine HO_g 2 rfl ?_; first | apply HO_a1 rfl | apply HO_o1 rfl)
       refine HO_or3 (b := up0) (v := up1) (i0 := 9) (i1 := 10) (i2 := 11) (d := 77) (fun K' hk hb => by subst hb; (iterate 3 (first | refine SK ?_ | exact HO_seg rfl rfl | refine S1 ?_ | (refine T2 ?_; intros) | (refine HO_g 2 rfl ?_; first | apply HO_a1 rfl | apply HO_o1 rfl))); exact HO_drop2 rfl rfl hk) (fun K' hk hb => by subst hb; (iterate 3 (first | refine SK ?_ | exact HO_seg rfl rfl | refine S1 ?_ | (refine T2 ?_; intros) | (refine HO_g 2 rfl ?_; first | apply HO_a1 rfl | apply HO_o1 rfl))); exact HO_drop2 rfl rfl hk) ?_
       first | refine SK ?_ | exact HO_seg rfl rfl | refine S1 ?_ | (refine T2 ?_; intros) | (refine HO_g 2 rfl ?_; first | apply HO_a1 rfl | apply HO_o1 rfl)
       refine HO_or3 (b := dn0) (v := dn1) (i0 := 15) (i1 := 16) (i2 := 17) (d := 83) (fun K' hk hb => by subst hb; (iterate 3 (first | refine SK ?_ | exact HO_seg rfl rfl | refine S1 ?_ | (refine T2 ?_; intros) | (refine HO_g 2 rfl ?_; first | apply HO_a1 rfl | apply HO_o1 rfl))); exact HO_drop2 rfl rfl hk) (fun K' hk hb => by subst hb; (iterate 3 (first | refine SK ?_ | exact HO_seg rfl rfl | refine S1 ?_ | (refine T2 ?_; intros) | (refine HO_g 2 rfl ?_; first | apply HO_a1 rfl | apply HO_o1 rfl))); exact HO_drop2 rfl rfl hk) ?_
       (refine HO_k 2 rfl ?_; refine HO_loT rfl rfl rfl rfl rfl rfl soA ?_)
       first | refine SK ?_ | exact HO_seg rfl rfl | refine S1 ?_ | (refine T2 ?_; intros) | (refine HO_g 2 rfl ?_; first | apply HO_a1 rfl | apply HO_o1 rfl)
       refine HO_or3 (b := con0) (v := con1) (i0 := 21) (i1 := 22) (i2 := 23) (d := 89) (fun K' hk hb => by subst hb; (iterate 3 (first | refine SK ?_ | exact HO_seg rfl rfl | refine S1 ?_ | (refine T2 ?_; intros) | (refine HO_g 2 rfl ?_; first | apply HO_a1 rfl | apply HO_o1 rfl))); exact HO_drop2 rfl rfl hk) (fun K' hk hb => by subst hb; (iterate 3 (first | refine SK ?_ | exact HO_seg rfl rfl | refine S1 ?_ | (refine T2 ?_; intros) | (refine HO_g 2 rfl ?_; first | apply HO_a1 rfl | apply HO_o1 rfl))); exact HO_drop2 rfl rfl hk) ?_
       repeat' (first | (exact HX_atK () trivial ⟨rfl, rfl, rfl, rfl, rfl, rfl, rfl, trivial⟩ permA) | refine S1 ?_ | (refine T2 ?_; intros) | fail)
      ·(refine HO_k 2 rfl ?_; refine HO_loT rfl rfl rfl rfl rfl rfl soA ?_)
       (refine HO_k 2 rfl ?_; refine HO_loT rfl rfl rfl rfl rfl rfl soA ?_)
       first | refine SK ?_ | exact HO_seg rfl rfl | refine S1 ?_ | (refine T2 ?_; intros) | (refine HO_g 2 rfl ?_; first | apply HO_a1 rfl | apply HO_o1 rfl)
       refine HO_or3 (b := clo0) (v := clo1) (i0 := 3) (i1 := 4) (i2 := 5) (d := 71) (fun K' hk hb => by subst hb; (iterate 3 (first | refine SK ?_ | exact HO_seg rfl rfl | refine S1 ?_ | (refine T2 ?_; intros) | (refine HO_g 2 rfl ?_; first | apply HO_a1 rfl | apply HO_o1 rfl))); exact HO_drop2 rfl rfl hk) (fun K' hk hb => by subst hb; (iterate 3 (first | refine SK ?_ | exact HO_seg rfl rfl | refine S1 ?_ | (refine T2 ?_; intros) | (refine HO_g 2 rfl ?_; first | apply HO_a1 rfl | apply HO_o1 rfl))); exact HO_drop2 rfl rfl hk) ?_
       first | refine SK ?_ | exact HO_seg rfl rfl | refine S1 ?_ | (refine T2 ?_; intros) | (refine HO_g 2 rfl ?_; first | apply HO_a1 rfl | apply HO_o1 rfl)
       refine HO_or3 (b := up0) (v := up1) (i0 := 9) (i1 := 10) (i2 := 11) (d := 77) (fun K' hk hb => by subst hb; (iterate 3 (first | refine SK ?_ | exact HO_seg rfl rfl | refine S1 ?_ | (refine T2 ?_; intros) | (refine HO_g 2 rfl ?_; first | apply HO_a1 rfl | apply HO_o1 rfl))); exact HO_drop2 rfl rfl hk) (fun K' hk hb => by subst hb; (iterate 3 (first | refine SK ?_ | exact HO_seg rfl rfl | refine S1 ?_ | (refine T2 ?_; intros) | (refine HO_g 2 rfl ?_; first | apply HO_a1 rfl | apply HO_o1 rfl))); exact HO_drop2 rfl rfl hk) ?_
       first | refine SK ?_ | exact HO_seg rfl rfl | refine S1 ?_ | (refine T2 ?_; intros) | (refine HO_g 2 rfl ?_; first | apply HO_a1 rfl | apply HO_o1 rfl)
       refine HO_or3 (b := dn0) (v := dn1) (i0 := 15) (i1 := 16) (i2 := 17) (d := 83) (fun K' hk hb => by subst hb; (iterate 3 (first | refine SK ?_ | exact HO_seg rfl rfl | refine S1 ?_ | (refine T2 ?_; intros) | (refine HO_g 2 rfl ?_; first | apply HO_a1 rfl | apply HO_o1 rfl))); exact HO_drop2 rfl rfl hk) (fun K' hk hb => by subst hb; (iterate 3 (first | refine SK ?_ | exact HO_seg rfl rfl | refine S1 ?_ | (refine T2 ?_; intros) | (refine HO_g 2 rfl ?_; first | apply HO_a1 rfl | apply HO_o1 rfl))); exact HO_drop2 rfl rfl hk) ?_
       first | refine SK ?_ | exact HO_seg rfl rfl | refine S1 ?_ | (refine T2 ?_; intros) | (refine HO_g 2 rfl ?_; first | apply HO_a1 rfl | apply HO_o1 rfl)
       refine HO_or3 (b := con0) (v := con1) (i0 := 21) (i1 := 22) (i2 := 23) (d := 89) (fun K' hk hb => by subst hb; (iterate 3 (first | refine SK ?_ | exact HO_seg rfl rfl | refine S1 ?_ | (refine T2 ?_; intros) | (refine HO_g 2 rfl ?_; first | apply HO_a1 rfl | apply HO_o1 rfl))); exact HO_drop2 rfl rfl hk) (fun K' hk hb => by subst hb; (iterate 3 (first | refine SK ?_ | exact HO_seg rfl rfl | refine S1 ?_ | (refine T2 ?_; intros) | (refine HO_g 2 rfl ?_; first | apply HO_a1 rfl | apply HO_o1 rfl))); exact HO_drop2 rfl rfl hk) ?_
       repeat' (first | (exact HX_atK () trivial ⟨rfl, rfl, rfl, rfl, rfl, rfl, rfl, trivial⟩ permA) | refine S1 ?_ | (refine T2 ?_; intros) | fail)
     ·(refine HO_k 2 rfl ?_; refine HO_loT rfl rfl rfl rfl rfl rfl soA ?_)
      (refine HO_2p 1 13 (by decide +kernel) rfl rfl (by decide +kernel) ?_ ?_)
      ·(refine HO_k 2 rfl ?_; refine HO_loT rfl rfl rfl rfl rfl rfl soA ?_)
       first | refine SK ?_ | exact HO_seg rfl rfl | refine S1 ?_ | (refine T2 ?_; intros) | (refine HO_g 2 rfl ?_; first | apply HO_a1 rfl | apply HO_o1 rfl)
       refine HO_or3 (b := clo0) (v := clo1) (i0 := 3) (i1 := 4) (i2 := 5) (d := 71) (fun K' hk hb => by subst hb; (iterate 3 (first | refine SK ?_ | exact HO_seg rfl rfl | refine S1 ?_ | (refine T2 ?_; intros) | (refine HO_g 2 rfl ?_; first | apply HO_a1 rfl | apply HO_o1 rfl))); exact HO_drop2 rfl rfl hk) (fun K' hk hb => by subst hb; (iterate 3 (first | refine SK ?_ | exact HO_seg rfl rfl | refine S1 ?_ | (refine T2 ?_; intros) | (refine HO_g 2 rfl ?_; first | apply HO_a1 rfl | apply HO_o1 rfl))); exact HO_drop2 rfl rfl hk) ?_
       first | refine SK ?_ | exact HO_seg rfl rfl | refine S1 ?_ | (refine T2 ?_; intros) | (refine HO_g 2 rfl ?_; first | apply HO_a1 rfl | apply HO_o1 rfl)
       refine HO_or3 (b := up0) (v := up1) (i0 := 9) (i1 := 10) (i2 := 11) (d := 77) (fun K' hk hb => by subst hb; (iterate 3 (first | refine SK ?_ | exact HO_seg rfl rfl | refine S1 ?_ | (refine T2 ?_; intros) | (refine HO_g 2 rfl ?_; first | apply HO_a1 rfl | apply HO_o1 rfl))); exact HO_drop2 rfl rfl hk) (fun K' hk hb => by subst hb; (iterate 3 (first | refine SK ?_ | exact HO_seg rfl rfl | refine S1 ?_ | (refine T2 ?_; intros) | (refine HO_g 2 rfl ?_; first | apply HO_a1 rfl | apply HO_o1 rfl))); exact HO_drop2 rfl rfl hk) ?_
       (refine HO_k 2 rfl ?_; refine HO_loT rfl rfl rfl rfl rfl rfl soA ?_)
       first | refine SK ?_ | exact HO_seg rfl rfl | refine S1 ?_ | (refine T2 ?_; intros) | (refine HO_g 2 rfl ?_; first | apply HO_a1 rfl | apply HO_o1 rfl)
       refine HO_or3 (b := dn0) (v := dn1) (i0 := 15) (i1 := 16) (i2 := 17) (d := 83) (fun K' hk hb => by subst hb; (iterate 3 (first | refine SK ?_ | exact HO_seg rfl rfl | refine S1 ?_ | (refine T2 ?_; intros) | (refine HO_g 2 rfl ?_; first | apply HO_a1 rfl | apply HO_o1 rfl))); exact HO_drop2 rfl rfl hk) (fun K' hk hb => by subst hb; (iterate 3 (first | refine SK ?_ | exact HO_seg rfl rfl | refine S1 ?_ | (refine T2 ?_; intros) | (refine HO_g 2 rfl ?_; first | apply HO_a1 rfl | apply HO_o1 rfl))); exact HO_drop2 rfl rfl hk) ?_
       first | refine SK ?_ | exact HO_seg rfl rfl | refine S1 ?_ | (refine T2 ?_; intros) | (refine HO_g 2 rfl ?_; first | apply HO_a1 rfl | apply HO_o1 rfl)
       refine HO_or3 (b := con0) (v := con1) (i0 := 21) (i1 := 22) (i2 := 23) (d := 89) (fun K' hk hb => by subst hb; (iterate 3 (first | refine SK ?_ | exact HO_seg rfl rfl | refine S1 ?_ | (refine T2 ?_; intros) | (refine HO_g 2 rfl ?_; first | apply HO_a1 rfl | apply HO_o1 rfl))); exact HO_drop2 rfl rfl hk) (fun K' hk hb => by subst hb; (iterate 3 (first | refine SK ?_ | exact HO_seg rfl rfl | refine S1 ?_ | (refine T2 ?_; intros) | (refine HO_g 2 rfl ?_; first | apply HO_a1 rfl | apply HO_o1 rfl))); exact HO_drop2 rfl rfl hk) ?_
       repeat' (first | (exact HX_atK () trivial ⟨rfl, rfl, rfl, rfl, rfl, rfl, rfl, trivial⟩ permA) | refine S1 ?_ | (refine T2 ?_; intros) | fail)
      ·(refine HO_k 2 rfl ?_; refine HO_loT rfl rfl rfl rfl rfl rfl soA ?_)
       (refine HO_k 2 rfl ?_; refine HO_loT rfl rfl rfl rfl rfl rfl soA ?_)
       first | refine SK ?_ | exact HO_seg rfl rfl | refine S1 ?_ | (refine T2 ?_; intros) | (refine HO_g 2 rfl ?_; first | apply HO_a1 rfl | apply HO_o1 rfl)
       refine HO_or3 (b := clo0) (v := clo1) (i0 := 3) (i1 := 4) (i2 := 5) (d := 71) (fun K' hk hb => by subst hb; (iterate 3 (first | refine SK ?_ | exact HO_seg rfl rfl | refine S1 ?_ | (refine T2 ?_; intros) | (refine HO_g 2 rfl ?_; first | apply HO_a1 rfl | apply HO_o1 rfl))); exact HO_drop2 rfl rfl hk) (fun K' hk hb => by subst hb; (iterate 3 (first | refine SK ?_ | exact HO_seg rfl rfl | refine S1 ?_ | (refine T2 ?_; intros) | (refine HO_g 2 rfl ?_; first | apply HO_a1 rfl | apply HO_o1 rfl))); exact HO_drop2 rfl rfl hk) ?_
       first | refine SK ?_ | exact HO_seg rfl rfl | refine S1 ?_ | (refine T2 ?_; intros) | (refine HO_g 2 rfl ?_; first | apply HO_a1 rfl | apply HO_o1 rfl)
       refine HO_or3 (b := up0) (v := up1) (i0 := 9) (i1 := 10) (i2 := 11) (d := 77) (fun K' hk hb => by subst hb; (iterate 3 (first | refine SK ?_ | exact HO_seg rfl rfl | refine S1 ?_ | (refine T2 ?_; intros) | (refine HO_g 2 rfl ?_; first | apply HO_a1 rfl | apply HO_o1 rfl))); exact HO_drop2 rfl rfl hk) (fun K' hk hb => by subst hb; (iterate 3 (first | refine SK ?_ | exact HO_seg rfl rfl | refine S1 ?_ | (refine T2 ?_; intros) | (refine HO_g 2 rfl ?_; first | apply HO_a1 rfl | apply HO_o1 rfl))); exact HO_drop2 rfl rfl hk) ?_
       first | refine SK ?_ | exact HO_seg rfl rfl | refine S1 ?_ | (refine T2 ?_; intros) | (refine HO_g 2 rfl ?_; first | apply HO_a1 rfl | apply HO_o1 rfl)
       refine HO_or3 (b := dn0) (v := dn1) (i0 := 15) (i1 := 16) (i2 := 17) (d := 83) (fun K' hk hb => by subst hb; (iterate 3 (first | refine SK ?_ | exact HO_seg rfl rfl | refine S1 ?_ | (refine T2 ?_; intros) | (refine HO_g 2 rfl ?_; first | apply HO_a1 rfl | apply HO_o1 rfl))); exact HO_drop2 rfl rfl hk) (fun K' hk hb => by subst hb; (iterate 3 (first | refine SK ?_ | exact HO_seg rfl rfl | refine S1 ?_ | (refine T2 ?_; intros) | (refine HO_g 2 rfl ?_; first | apply HO_a1 rfl | apply HO_o1 rfl))); exact HO_drop2 rfl rfl hk) ?_
       first | refine SK ?_ | exact HO_seg rfl rfl | refine S1 ?_ | (refine T2 ?_; intros) | (refine HO_g 2 rfl ?_; first | apply HO_a1 rfl | apply HO_o1 rfl)
       refine HO_or3 (b := con0) (v := con1) (i0 := 21) (i1 := 22) (i2 := 23) (d := 89) (fun K' hk hb => by subst hb; (iterate 3 (first | refine SK ?_ | exact HO_seg rfl rfl | refine S1 ?_ | (refine T2 ?_; intros) | (refine HO_g 2 rfl ?_; first | apply HO_a1 rfl | apply HO_o1 rfl))); exact HO_drop2 rfl rfl hk) (fun K' hk hb => by subst hb; (iterate 3 (first | refine SK ?_ | exact HO_seg rfl rfl | refine S1 ?_ | (refine T2 ?_; intros) | (refine HO_g 2 rfl ?_; first | apply HO_a1 rfl | apply HO_o1 rfl))); exact HO_drop2 rfl rfl hk) ?_
       repeat' (first | (exact HX_atK () trivial ⟨rfl, rfl, rfl, rfl, rfl, rfl, rfl, trivial⟩ permA) | refine S1 ?_ | (refine T2 ?_; intros) | fail)
    ·(refine HO_k 2 rfl ?_; refine HO_loT rfl rfl rfl rfl rfl rfl soA ?_)
     (refine HO_3p 1 7 19 (by decide +kernel) rfl rfl rfl (by decide +kernel) ?_ ?_ ?_)
     ·(refine HO_k 2 rfl ?_; refine HO_loT rfl rfl rfl rfl rfl rfl soA ?_)
      first | refine SK ?_ | exact HO_seg rfl rfl | refine S1 ?_ | (refine T2 ?_; intros) | (refine HO_g 2 rfl ?_; first | apply HO_a1 rfl | apply HO_o1 rfl)
      refine HO_or3 (b := clo0) (v := clo1) (i0 := 3) (i1 := 4) (i2 := 5) (d := 71) (fun K' hk hb => by subst hb; (iterate 3 (first | refine SK ?_ | exact HO_seg rfl rfl | refine S1 ?_ | (refine T2 ?_; intros) | (refine HO_g 2 rfl ?_; first | apply HO_a1 rfl | apply HO_o1 rfl))); exact HO_drop2 rfl rfl hk) (fun K' hk hb => by subst hb; (iterate 3 (first | refine SK ?_ | exact HO_seg rfl rfl | refine S1 ?_ | (refine T2 ?_; intros) | (refine HO_g 2 rfl ?_; first | apply HO_a1 rfl | apply HO_o1 rfl))); exact HO_drop2 rfl rfl hk) ?_
      (refine HO_2p 7 19 (by decide +kernel) rfl rfl (by decide +kernel) ?_ ?_)
      ·(refine HO_k 2 rfl ?_; refine HO_loT rfl rfl rfl rfl rfl rfl soA ?_)
       first | refine SK ?_ | exact HO_seg rfl rfl | refine S1 ?_ | (refine T2 ?_; intros) | (refine HO_g 2 rfl ?_; first | apply HO_a1 rfl | apply HO_o1 rfl)
       refine HO_or3 (b := up0) (v := up1) (i0 := 9) (i1 := 10) (i2 := 11) (d := 77) (fun K' hk hb => by subst hb; (iterate 3 (first | refine SK ?_ | exact HO_seg rfl rfl | refine S1 ?_ | (refine T2 ?_; intros) | (refine HO_g 2 rfl ?_; first | apply HO_a1 rfl | apply HO_o1 rfl))); exact HO_drop2 rfl rfl hk) (fun K' hk hb => by subst hb; (iterate 3 (first | refine SK ?_ | exact HO_seg rfl rfl | refine S1 ?_ | (refine T2 ?_; intros) | (refine HO_g 2 rfl ?_; first | apply HO_a1 rfl | apply HO_o1 rfl))); exact HO_drop2 rfl rfl hk) ?_
       first | refine SK ?_ | exact HO_seg rfl rfl | refine S1 ?_ | (refine T2 ?_; intros) | (refine HO_g 2 rfl ?_; first | apply HO_a1 rfl | apply HO_o1 rfl)
       refine HO_or3 (b := dn0) (v := dn1) (i0 := 15) (i1 := 16) (i2 := 17) (d := 83) (fun K' hk hb => by subst hb; (iterate 3 (first | refine SK ?_ | exact HO_seg rfl rfl | refine S1 ?_ | (refine T2 ?_; intros) | (refine HO_g 2 rfl ?_; first | apply HO_a1 rfl | apply HO_o1 rfl))); exact HO_drop2 rfl rfl hk) (fun K' hk hb => by subst hb; (iterate 3 (first | refine SK ?_ | exact HO_seg rfl rfl | refine S1 ?_ | (refine T2 ?_; intros) | (refine HO_g 2 rfl ?_; first | apply HO_a1 rfl | apply HO_o1 rfl))); exact HO_drop2 rfl rfl hk) ?_
       (refine HO_k 2 rfl ?_; refine HO_loT rfl rfl rfl rfl rfl rfl soA ?_)
       first | refine SK ?_ | exact HO_seg rfl rfl | refine S1 ?_ | (refine T2 ?_; intros) | (refine HO_g 2 rfl ?_; first | apply HO_a1 rfl | apply HO_o1 rfl)
       refine HO_or3 (b := con0) (v := con1) (i0 := 21) (i1 := 22) (i2 := 23) (d := 89) (fun K' hk hb => by subst hb; (iterate 3 (first | refine SK ?_ | exact HO_seg rfl rfl | refine S1 ?_ | (refine T2 ?_; intros) | (refine HO_g 2 rfl ?_; first | apply HO_a1 rfl | apply HO_o1 rfl))); exact HO_drop2 rfl rfl hk) (fun K' hk hb => by subst hb; (iterate 3 (first | refine SK ?_ | exact HO_seg rfl rfl | refine S1 ?_ | (refine T2 ?_; intros) | (refine HO_g 2 rfl ?_; first | apply HO_a1 rfl | apply HO_o1 rfl))); exact HO_drop2 rfl rfl hk) ?_
       repeat' (first | (exact HX_atK () trivial ⟨rfl, rfl, rfl, rfl, rfl, rfl, rfl, trivial⟩ permA) | refine S1 ?_ | (refine T2 ?_; intros) | fail)
      ·(refine HO_k 2 rfl ?_; refine HO_loT rfl rfl rfl rfl rfl rfl soA ?_)
       (refine HO_k 2 rfl ?_; refine HO_loT rfl rfl rfl rfl rfl rfl soA ?_)
       first | refine SK ?_ | exact HO_seg rfl rfl | refine S1 ?_ | (refine T2 ?_; intros) | (refine HO_g 2 rfl ?_; first | apply HO_a1 rfl | apply HO_o1 rfl)
       refine HO_or3 (b := up0) (v := up1) (i0 := 9) (i1 := 10) (i2 := 11) (d := 77) (fun K' hk hb => by subst hb; (iterate 3 (first | refine SK ?_ | exact HO_seg rfl rfl | refine S1 ?_ | (refine T2 ?_; intros) | (refine HO_g 2 rfl ?_; first | apply HO_a1 rfl | apply HO_o1 rfl))); exact HO_drop2 rfl rfl hk) (fun K' hk hb => by subst hb; (iterate 3 (first | refine SK ?_ | exact HO_seg rfl rfl | refine S1 ?_ | (refine T2 ?_; intros) | (refine HO_g 2 rfl ?_; first | apply HO_a1 rfl | apply HO_o1 rfl))); exact HO_drop2 rfl rfl hk) ?_
       first | refine SK ?_ | exact HO_seg rfl rfl | refine S1 ?_ | (refine T2 ?_; intros) | (refine HO_g 2 rfl ?_; first | apply HO_a1 rfl | apply HO_o1 rfl)
       refine HO_or3 (b := dn0) (v := dn1) (i0 := 15) (i1 := 16) (i2 := 17) (d := 83) (fun K' hk hb => by subst hb; (iterate 3 (first | refine SK ?_ | exact HO_seg rfl rfl | refine S1 ?_ | (refine T2 ?_; intros) | (refine HO_g 2 rfl ?_; first | apply HO_a1 rfl | apply HO_o1 rfl))); exact HO_drop2 rfl rfl hk) (fun K' hk hb => by subst hb; (iterate 3 (first | refine SK ?_ | exact HO_seg rfl rfl | refine S1 ?_ | (refine T2 ?_; intros) | (refine HO_g 2 rfl ?_; first | apply HO_a1 rfl | apply HO_o1 rfl))); exact HO_drop2 rfl rfl hk) ?_
       first | refine SK ?_ | exact HO_seg rfl rfl | refine S1 ?_ | (refine T2 ?_; intros) | (refine HO_g 2 rfl ?_; first | apply HO_a1 rfl | apply HO_o1 rfl)
       refine HO_or3 (b := con0) (v := con1) (i0 := 21) (i1 := 22) (i2 := 23) (d := 89) (fun K' hk hb => by subst hb; (iterate 3 (first | refine SK ?_ | exact HO_seg rfl rfl | refine S1 ?_ | (refine T2 ?_; intros) | (refine HO_g 2 rfl ?_; first | apply HO_a1 rfl | apply HO_o1 rfl))); exact HO_drop2 rfl rfl hk) (fun K' hk hb => by subst hb; (iterate 3 (first | refine SK ?_ | exact HO_seg rfl rfl | refine S1 ?_ | (refine T2 ?_; intros) | (refine HO_g 2 rfl ?_; first | apply HO_a1 rfl | apply HO_o1 rfl))); exact HO_drop2 rfl rfl hk) ?_
       repeat' (first | (exact HX_atK () trivial ⟨rfl, rfl, rfl, rfl, rfl, rfl, rfl, trivial⟩ permA) | refine S1 ?_ | (refine T2 ?_; intros) | fail)
     ·(refine HO_k 2 rfl ?_; refine HO_loT rfl rfl rfl rfl rfl rfl soA ?_)
      (refine HO_2p 1 19 (by decide +kernel) rfl rfl (by decide +kernel) ?_ ?_)
      ·(refine HO_k 2 rfl ?_; refine HO_loT rfl rfl rfl rfl rfl rfl soA ?_)
       first | refine SK ?_ | exact HO_seg rfl rfl | refine S1 ?_ | (refine T2 ?_; intros) | (refine HO_g 2 rfl ?_; first | apply HO_a1 rfl | apply HO_o1 rfl)
       refine HO_or3 (b := clo0) (v := clo1) (i0 := 3) (i1 := 4) (i2 := 5) (d := 71) (fun K' hk hb => by subst hb; (iterate 3 (first | refine SK ?_ | exact HO_seg rfl rfl | refine S1 ?_ | (refine T2 ?_; intros) | (refine HO_g 2 rfl ?_; first | apply HO_a1 rfl | apply HO_o1 rfl))); exact HO_drop2 rfl rfl hk) (fun K' hk hb => by subst hb; (iterate 3 (first | refine SK ?_ | exact HO_seg rfl rfl | refine S1 ?_ | (refine T2 ?_; intros) | (refine HO_g 2 rfl ?_; first | apply HO_a1 rfl | apply HO_o1 rfl))); exact HO_drop2 rfl rfl hk) ?_
       first | refine SK ?_ | exact HO_seg rfl rfl | refine S1 ?_ | (refine T2 ?_; intros) | (refine HO_g 2 rfl ?_; first | apply HO_a1 rfl | apply HO_o1 rfl)
       refine HO_or3 (b := up0) (v := up1) (i0 := 9) (i1 := 10) (i2 := 11) (d := 77) (fun K' hk hb => by subst hb; (iterate 3 (first | refine SK ?_ | exact HO_seg rfl rfl | refine S1 ?_ | (refine T2 ?_; intros) | (refine HO_g 2 rfl ?_; first | apply HO_a1 rfl | apply HO_o1 rfl))); exact HO_drop2 rfl rfl hk) (fun K' hk hb => by subst hb; (iterate 3 (first | refine SK ?_ | exact HO_seg rfl rfl | refine S1 ?_ | (refine T2 ?_; intros) | (refine HO_g 2 rfl ?_; first | apply HO_a1 rfl | apply HO_o1 rfl))); exact HO_drop2 rfl rfl hk) ?_
       first | refine SK ?_ | exact HO_seg rfl rfl | refine S1 ?_ | (refine T2 ?_; intros) | (refine HO_g 2 rfl ?_; first | apply HO_a1 rfl | apply HO_o1 rfl)
       refine HO_or3 (b := dn0) (v := dn1) (i0 := 15) (i1 := 16) (i2 := 17) (d := 83) (fun K' hk hb => by subst hb; (iterate 3 (first | refine SK ?_ | exact HO_seg rfl rfl | refine S1 ?_ | (refine T2 ?_; intros) | (refine HO_g 2 rfl ?_; first | apply HO_a1 rfl | apply HO_o1 rfl))); exact HO_drop2 rfl rfl hk) (fun K' hk hb => by subst hb; (iterate 3 (first | refine SK ?_ | exact HO_seg rfl rfl | refine S1 ?_ | (refine T2 ?_; intros) | (refine HO_g 2 rfl ?_; first | apply HO_a1 rfl | apply HO_o1 rfl))); exact HO_drop2 rfl rfl hk) ?_
       (refine HO_k 2 rfl ?_; refine HO_loT rfl rfl rfl rfl rfl rfl soA ?_)
       first | refine SK ?_ | exact HO_seg rfl rfl | refine S1 ?_ | (refine T2 ?_; intros) | (refine HO_g 2 rfl ?_; first | apply HO_a1 rfl | apply HO_o1 rfl)
       refine HO_or3 (b := con0) (v := con1) (i0 := 21) (i1 := 22) (i2 := 23) (d := 89) (fun K' hk hb => by subst hb; (iterate 3 (first | refine SK ?_ | exact HO_seg rfl rfl | refine S1 ?_ | (refine T2 ?_; intros) | (refine HO_g 2 rfl ?_; first | apply HO_a1 rfl | apply HO_o1 rfl))); exact HO_drop2 rfl rfl hk) (fun K' hk hb => by subst hb; (iterate 3 (first | refine SK ?_ | exact HO_seg rfl rfl | refine S1 ?_ | (refine T2 ?_; intros) | (refine HO_g 2 rfl ?_; first | apply HO_a1 rfl | apply HO_o1 rfl))); exact HO_drop2 rfl rfl hk) ?_
       repeat' (first | (exact HX_atK () trivial ⟨rfl, rfl, rfl, rfl, rfl, rfl, rfl, trivial⟩ permA) | refine S1 ?_ | (refine T2 ?_; intros) | fail)
      ·(refine HO_k 2 rfl ?_; refine HO_loT rfl rfl rfl rfl rfl rfl soA ?_)
       (refine HO_k 2 rfl ?_; refine HO_loT rfl rfl rfl rfl rfl rfl soA ?_)
       first | refine SK ?_ | exact HO_seg rfl rfl | refine S1 ?_ | (refine T2 ?_; intros) | (refine HO_g 2 rfl ?_; first | apply HO_a1 rfl | apply HO_o1 rfl)
       refine HO_or3 (b := clo0) (v := clo1) (i0 := 3) (i1 := 4) (i2 := 5) (d := 71) (fun K' hk hb => by subst hb; (iterate 3 (first | refine SK ?_ | exact HO_seg rfl rfl | refine S1 ?_ | (refine T2 ?_; intros) | (refine HO_g 2 rfl ?_; first | apply HO_a1 rfl | apply HO_o1 rfl))); exact HO_drop2 rfl rfl hk) (fun K' hk hb => by subst hb; (iterate 3 (first | refine SK ?_ | exact HO_seg rfl rfl | refine S1 ?_ | (refine T2 ?_; intros) | (refine HO_g 2 rfl ?_; first | apply HO_a1 rfl | apply HO_o1 rfl))); exact HO_drop2 rfl rfl hk) ?_
       first | refine SK ?_ | exact HO_seg rfl rfl | refine S1 ?_ | (refine T2 ?_; intros) | (refine HO_g 2 rfl ?_; first | apply HO_a1 rfl | apply HO_o1 rfl)
       refine HO_or3 (b := up0) (v := up1) (i0 := 9) (i1 := 10) (i2 := 11) (d := 77) (fun K' hk hb => by subst hb; (iterate 3 (first | refine SK ?_ | exact HO_seg rfl rfl | refine S1 ?_ | (refine T2 ?_; intros) | (refine HO_g 2 rfl ?_; first | apply HO_a1 rfl | apply HO_o1 rfl))); exact HO_drop2 rfl rfl hk) (fun K' hk hb => by subst hb; (iterate 3 (first | refine SK ?_ | exact HO_seg rfl rfl | refine S1 ?_ | (refine T2 ?_; intros) | (refine HO_g 2 rfl ?_; first | apply HO_a1 rfl | apply HO_o1 rfl))); exact HO_drop2 rfl rfl hk) ?_
       first | refine SK ?_ | exact HO_seg rfl rfl | refine S1 ?_ | (refine T2 ?_; intros) | (refine HO_g 2 rfl ?_; first | apply HO_a1 rfl | apply HO_o1 rfl)
       refine HO_or3 (b := dn0) (v := dn1) (i0 := 15) (i1 := 16) (i2 := 17) (d := 83) (fun K' hk hb => by subst hb; (iterate 3 (first | refine SK ?_ | exact HO_seg rfl rfl | refine S1 ?_ | (refine T2 ?_; intros) | (refine HO_g 2 rfl ?_; first | apply HO_a1 rfl | apply HO_o1 rfl))); exact HO_drop2 rfl rfl hk) (fun K' hk hb => by subst hb; (iterate 3 (first | refine SK ?_ | exact HO_seg rfl rfl | refine S1 ?_ | (refine T2 ?_; intros) | (refine HO_g 2 rfl ?_; first | apply HO_a1 rfl | apply HO_o1 rfl))); exact HO_drop2 rfl rfl hk) ?_
       first | refine SK ?_ | exact HO_seg rfl rfl | refine S1 ?_ | (refine T2 ?_; intros) | (refine HO_g 2 rfl ?_; first | apply HO_a1 rfl | apply HO_o1 rfl)
       refine HO_or3 (b := con0) (v := con1) (i0 := 21) (i1 := 22) (i2 := 23) (d := 89) (fun K' hk hb => by subst hb; (iterate 3 (first | refine SK ?_ | exact HO_seg rfl rfl | refine S1 ?_ | (refine T2 ?_; intros) | (refine HO_g 2 rfl ?_; first | apply HO_a1 rfl | apply HO_o1 rfl))); exact HO_drop2 rfl rfl hk) (fun K' hk hb => by subst hb; (iterate 3 (first | refine SK ?_ | exact HO_seg rfl rfl | refine S1 ?_ | (refine T2 ?_; intros) | (refine HO_g 2 rfl ?_; first | apply HO_a1 rfl | apply HO_o1 rfl))); exact HO_drop2 rfl rfl hk) ?_
       repeat' (first | (exact HX_atK () trivial ⟨rfl, rfl, rfl, rfl, rfl, rfl, rfl, trivial⟩ permA) | refine S1 ?_ | (refine T2 ?_; intros) | fail)
     ·(refine HO_k 2 rfl ?_; refine HO_loT rfl rfl rfl rfl rfl rfl soA ?_)
      (refine HO_2p 1 7 (by decide +kernel) rfl rfl (by decide +kernel) ?_ ?_)
      ·(refine HO_k 2 rfl ?_; refine HO_loT rfl rfl rfl rfl rfl rfl soA ?_)
       first | refine SK ?_ | exact HO_seg rfl rfl | refine S1 ?_ | (refine T2 ?_; intros) | (refine HO_g 2 rfl ?_; first | apply HO_a1 rfl | apply HO_o1 rfl)
       refine HO_or3 (b := clo0) (v := clo1) (i0 := 3) (i1 := 4) (i2 := 5) (d := 71) (fun K' hk hb => by subst hb; (iterate 3 (first | refine SK ?_ | exact HO_seg rfl rfl | refine S1 ?_ | (refine T2 ?_; intros) | (refine HO_g 2 rfl ?_; first | apply HO_a1 rfl | apply HO_o1 rfl))); exact HO_drop2 rfl rfl hk) (fun K' hk hb => by subst hb; (iterate 3 (first | refine SK ?_ | exact HO_seg rfl rfl | refine S1 ?_ | (refine T2 ?_; intros) | (refine HO_g 2 rfl ?_; first | apply HO_a1 rfl | apply HO_o1 rfl))); exact HO_drop2 rfl rfl hk) ?_
       (refine HO_k 2 rfl ?_; refine HO_loT rfl rfl rfl rfl rfl rfl soA ?_)
       first | refine SK ?_ | exact HO_seg rfl rfl | refine S1 ?_ | (refine T2 ?_; intros) | (refine HO_g 2 rfl ?_; first | apply HO_a1 rfl | apply HO_o1 rfl)
       refine HO_or3 (b := up0) (v := up1) (i0 := 9) (i1 := 10) (i2 := 11) (d := 77) (fun K' hk hb => by subst hb; (iterate 3 (first | refine SK ?_ | exact HO_seg rfl rfl | refine S1 ?_ | (refine T2 ?_; intros) | (refine HO_g 2 rfl ?_; first | apply HO_a1 rfl | apply HO_o1 rfl))); exact HO_drop2 rfl rfl hk) (fun K' hk hb => by subst hb; (iterate 3 (first | refine SK ?_ | exact HO_seg rfl rfl | refine S1 ?_ | (refine T2 ?_; intros) | (refine HO_g 2 rfl ?_; first | apply HO_a1 rfl | apply HO_o1 rfl))); exact HO_drop2 rfl rfl hk) ?_
       first | refine SK ?_ | exact HO_seg rfl rfl | refine S1 ?_ | (refine T2 ?_; intros) | (refine HO_g 2 rfl ?_; first | apply HO_a1 rfl | apply HO_o1 rfl)
       refine HO_or3 (b := dn0) (v := dn1) (i0 := 15) (i1 := 16) (i2 := 17) (d := 83) (fun K' hk hb => by subst hb; (iterate 3 (first | refine SK ?_ | exact HO_seg rfl rfl | refine S1 ?_ | (refine T2 ?_; intros) | (refine HO_g 2 rfl ?_; first | apply HO_a1 rfl | apply HO_o1 rfl))); exact HO_drop2 rfl rfl hk) (fun K' hk hb => by subst hb; (iterate 3 (first | refine SK ?_ | exact HO_seg rfl rfl | refine S1 ?_ | (refine T2 ?_; intros) | (refine HO_g 2 rfl ?_; first | apply HO_a1 rfl | apply HO_o1 rfl))); exact HO_drop2 rfl rfl hk) ?_
       first | refine SK ?_ | exact HO_seg rfl rfl | refine S1 ?_ | (refine T2 ?_; intros) | (refine HO_g 2 rfl ?_; first | apply HO_a1 rfl | apply HO_o1 rfl)
       refine HO_or3 (b := con0) (v := con1) (i0 := 21) (i1 := 22) (i2 := 23) (d := 89) (fun K' hk hb => by subst hb; (iterate 3 (first | refine SK ?_ | exact HO_seg rfl rfl | refine S1 ?_ | (refine T2 ?_; intros) | (refine HO_g 2 rfl ?_; first | apply HO_a1 rfl | apply HO_o1 rfl))); exact HO_drop2 rfl rfl hk) (fun K' hk hb => by subst hb; (iterate 3 (first | refine SK ?_ | exact HO_seg rfl rfl | refine S1 ?_ | (refine T2 ?_; intros) | (refine HO_g 2 rfl ?_; first | apply HO_a1 rfl | apply HO_o1 rfl))); exact HO_drop2 rfl rfl hk) ?_
       repeat' (first | (exact HX_atK () trivial ⟨rfl, rfl, rfl, rfl, rfl, rfl, rfl, trivial⟩ permA) | refine S1 ?_ | (refine T2 ?_; intros) | fail)
      ·(refine HO_k 2 rfl ?_; refine HO_loT rfl rfl rfl rfl rfl rfl soA ?_)
       (refine HO_k 2 rfl ?_; refine HO_loT rfl rfl rfl rfl rfl rfl soA ?_)
       first | refine SK ?_ | exact HO_seg rfl rfl | refine S1 ?_ | (refine T2 ?_; intros) | (refine HO_g 2 rfl ?_; first | apply HO_a1 rfl | apply HO_o1 rfl)
       refine HO_or3 (b := clo0) (v := clo1) (i0 := 3) (i1 := 4) (i2 := 5) (d := 71) (fun K' hk hb => by subst hb; (iterate 3 (first | refine SK ?_ | exact HO_seg rfl rfl | refine S1 ?_ | (refine T2 ?_; intros) | (refine HO_g 2 rfl ?_; first | apply HO_a1 rfl | apply HO_o1 rfl))); exact HO_drop2 rfl rfl hk) (fun K' hk hb => by subst hb; (iterate 3 (first | refine SK ?_ | exact HO_seg rfl rfl | refine S1 ?_ | (refine T2 ?_; intros) | (refine HO_g 2 rfl ?_; first | apply HO_a1 rfl | apply HO_o1 rfl))); exact HO_drop2 rfl rfl hk) ?_
       first | refine SK ?_ | exact HO_seg rfl rfl | refine S1 ?_ | (refine T2 ?_; intros) | (refine HO_g 2 rfl ?_; first | apply HO_a1 rfl | apply HO_o1 rfl)
       refine HO_or3 (b := up0) (v := up1) (i0 := 9) (i1 := 10) (i2 := 11) (d := 77) (fun K' hk hb => by subst hb; (iterate 3 (first | refine SK ?_ | exact HO_seg rfl rfl | refine S1 ?_ | (refine T2 ?_; intros) | (refine HO_g 2 rfl ?_; first | apply HO_a1 rfl | apply HO_o1 rfl))); exact HO_drop2 rfl rfl hk) (fun K' hk hb => by subst hb; (iterate 3 (first | refine SK ?_ | exact HO_seg rfl rfl | refine S1 ?_ | (refine T2 ?_; intros) | (refine HO_g 2 rfl ?_; first | apply HO_a1 rfl | apply HO_o1 rfl))); exact HO_drop2 rfl rfl hk) ?_
       first | refine SK ?_ | exact HO_seg rfl rfl | refine S1 ?_ | (refine T2 ?_; intros) | (refine HO_g 2 rfl ?_; first | apply HO_a1 rfl | apply HO_o1 rfl)
       refine HO_or3 (b := dn0) (v := dn1) (i0 := 15) (i1 := 16) (i2 := 17) (d := 83) (fun K' hk hb => by subst hb; (iterate 3 (first | refine SK ?_ | exact HO_seg rfl rfl | refine S1 ?_ | (refine T2 ?_; intros) | (refine HO_g 2 rfl ?_; first | apply HO_a1 rfl | apply HO_o1 rfl))); exact HO_drop2 rfl rfl hk) (fun K' hk hb => by subst hb; (iterate 3 (first | refine SK ?_ | exact HO_seg rfl rfl | refine S1 ?_ | (refine T2 ?_; intros) | (refine HO_g 2 rfl ?_; first | apply HO_a1 rfl | apply HO_o1 rfl))); exact HO_drop2 rfl rfl hk) ?_
       first | refine SK ?_ | exact HO_seg rfl rfl | refine S1 ?_ | (refine T2 ?_; intros) | (refine HO_g 2 rfl ?_; first | apply HO_a1 rfl | apply HO_o1 rfl)
       refine HO_or3 (b := con0) (v := con1) (i0 := 21) (i1 := 22) (i2 := 23) (d := 89) (fun K' hk hb => by subst hb; (iterate 3 (first | refine SK ?_ | exact HO_seg rfl rfl | refine S1 ?_ | (refine T2 ?_; intros) | (refine HO_g 2 rfl ?_; first | apply HO_a1 rfl | apply HO_o1 rfl))); exact HO_drop2 rfl rfl hk) (fun K' hk hb => by subst hb; (iterate 3 (first | refine SK ?_ | exact HO_seg rfl rfl | refine S1 ?_ | (refine T2 ?_; intros) | (refine HO_g 2 rfl ?_; first | apply HO_a1 rfl | apply HO_o1 rfl))); exact HO_drop2 rfl rfl hk) ?_
       repeat' (first | (exact HX_atK () trivial ⟨rfl, rfl, rfl, rfl, rfl, rfl, rfl, trivial⟩ permA) | refine S1 ?_ | (refine T2 ?_; intros) | fail)
    ·(refine HO_k 2 rfl ?_; refine HO_loT rfl rfl rfl rfl rfl rfl soA ?_)
     (refine HO_3p 1 7 13 (by decide +kernel) rfl rfl rfl (by decide +kernel) ?_ ?_ ?_)
     ·(refine HO_k 2 rfl ?_; refine HO_loT rfl rfl rfl rfl rfl rfl soA ?_)
      first | refine SK ?_ | exact HO_seg rfl rfl | refine S1 ?_ | (refine T2 ?_; intros) | (refine HO_g 2 rfl ?_; first | apply HO_a1 rfl | apply HO_o1 rfl)
      refine HO_or3 (b := clo0) (v := clo1) (i0 := 3) (i1 := 4) (i2 := 5) (d := 71) (fun K' hk hb => by subst hb; (iterate 3 (first | refine SK ?_ | exact HO_seg rfl rfl | refine S1 ?_ | (refine T2 ?_; intros) | (refine HO_g 2 rfl ?_; first | apply HO_a1 rfl | apply HO_o1 rfl))); exact HO_drop2 rfl rfl hk) (fun K' hk hb => by subst hb; (iterate 3 (first | refine SK ?_ | exact HO_seg rfl rfl | refine S1 ?_ | (refine T2 ?_; intros) | (refine HO_g 2 rfl ?_; first | apply HO_a1 rfl | apply HO_o1 rfl))); exact HO_drop2 rfl rfl hk) ?_
      (refine HO_2p 7 13 (by decide +kernel) rfl rfl (by decide +kernel) ?_ ?_)
      ·(refine HO_k 2 rfl ?_; refine HO_loT rfl rfl rfl rfl rfl rfl soA ?_)
       first | refine SK ?_ | exact HO_seg rfl rfl | refine S1 ?_ | (refine T2 ?_; intros) | (refine HO_g 2 rfl ?_; first | apply HO_a1 rfl | apply HO_o1 rfl)
       refine HO_or3 (b := up0) (v := up1) (i0 := 9) (i1 := 10) (i2 := 11) (d := 77) (fun K' hk hb => by subst hb; (iterate 3 (first | refine SK ?_ | exact HO_seg rfl rfl | refine S1 ?_ | (refine T2 ?_; intros) | (refine HO_g 2 rfl ?_; first | apply HO_a1 rfl | apply HO_o1 rfl))); exact HO_drop2 rfl rfl hk) (fun K' hk hb => by subst hb; (iterate 3 (first | refine SK ?_ | exact HO_seg rfl rfl | refine S1 ?_ | (refine T2 ?_; intros) | (refine HO_g 2 rfl ?_; first | apply HO_a1 rfl | apply HO_o1 rfl))); exact HO_drop2 rfl rfl hk) ?_
       (refine HO_k 2 rfl ?_; refine HO_loT rfl rfl rfl rfl rfl rfl soA ?_)
       first | refine SK ?_ | exact HO_seg rfl rfl | refine S1 ?_ | (refine T2 ?_; intros) | (refine HO_g 2 rfl ?_; first | apply HO_a1 rfl | apply HO_o1 rfl)
       refine HO_or3 (b := dn0) (v := dn1) (i0 := 15) (i1 := 16) (i2 := 17) (d := 83) (fun K' hk hb => by subst hb; (iterate 3 (first | refine SK ?_ | exact HO_seg rfl rfl | refine S1 ?_ | (refine T2 ?_; intros) | (refine HO_g 2 rfl ?_; first | apply HO_a1 rfl | apply HO_o1 rfl))); exact HO_drop2 rfl rfl hk) (fun K' hk hb => by subst hb; (iterate 3 (first | refine SK ?_ | exact HO_seg rfl rfl | refine S1 ?_ | (refine T2 ?_; intros) | (refine HO_g 2 rfl ?_; first | apply HO_a1 rfl | apply HO_o1 rfl))); exact HO_drop2 rfl rfl hk) ?_
       first | refine SK ?_ | exact HO_seg rfl rfl | refine S1 ?_ | (refine T2 ?_; intros) | (refine HO_g 2 rfl ?_; first | apply HO_a1 rfl | apply HO_o1 rfl)
       refine HO_or3 (b := con0) (v := con1) (i0 := 21) (i1 := 22) (i2 := 23) (d := 89) (fun K' hk hb => by subst hb; (iterate 3 (first | refine SK ?_ | exact HO_seg rfl rfl | refine S1 ?_ | (refine T2 ?_; intros) | (refine HO_g 2 rfl ?_; first | apply HO_a1 rfl | apply HO_o1 rfl))); exact HO_drop2 rfl rfl hk) (fun K' hk hb => by subst hb; (iterate 3 (first | refine SK ?_ | exact HO_seg rfl rfl | refine S1 ?_ | (refine T2 ?_; intros) | (refine HO_g 2 rfl ?_; first | apply HO_a1 rfl | apply HO_o1 rfl))); exact HO_drop2 rfl rfl hk) ?_
       repeat' (first | (exact HX_atK () trivial ⟨rfl, rfl, rfl, rfl, rfl, rfl, rfl, trivial⟩ permA) | refine S1 ?_ | (refine T2 ?_; intros) | fail)
      ·(refine HO_k 2 rfl ?_; refine HO_loT rfl rfl rfl rfl rfl rfl soA ?_)
       (refine HO_k 2 rfl ?_; refine HO_loT rfl rfl rfl rfl rfl rfl soA ?_)
       first | refine SK ?_ | exact HO_seg rfl rfl | refine S1 ?_ | (refine T2 ?_; intros) | (refine HO_g 2 rfl ?_; first | apply HO_a1 rfl | apply HO_o1 rfl)
       refine HO_or3 (b := up0) (v := up1) (i0 := 9) (i1 := 10) (i2 := 11) (d := 77) (fun K' hk hb => by subst hb; (iterate 3 (first | refine SK ?_ | exact HO_seg rfl rfl | refine S1 ?_ | (refine T2 ?_; intros) | (refine HO_g 2 rfl ?_; first | apply HO_a1 rfl | apply HO_o1 rfl))); exact HO_drop2 rfl rfl hk) (fun K' hk hb => by subst hb; (iterate 3 (first | refine SK ?_ | exact HO_seg rfl rfl | refine S1 ?_ | (refine T2 ?_; intros) | (refine HO_g 2 rfl ?_; first | apply HO_a1 rfl | apply HO_o1 rfl))); exact HO_drop2 rfl rfl hk) ?_
       first | refine SK ?_ | exact HO_seg rfl rfl | refine S1 ?_ | (refine T2 ?_; intros) | (refine HO_g 2 rfl ?_; first | apply HO_a1 rfl | apply HO_o1 rfl)
       refine HO_or3 (b := dn0) (v := dn1) (i0 := 15) (i1 := 16) (i2 := 17) (d := 83) (fun K' hk hb => by subst hb; (iterate 3 (first | refine SK ?_ | exact HO_seg rfl rfl | refine S1 ?_ | (refine T2 ?_; intros) | (refine HO_g 2 rfl ?_; first | apply HO_a1 rfl | apply HO_o1 rfl))); exact HO_drop2 rfl rfl hk) (fun K' hk hb => by subst hb; (iterate 3 (first | refine SK ?_ | exact HO_seg rfl rfl | refine S1 ?_ | (refine T2 ?_; intros) | (refine HO_g 2 rfl ?_; first | apply HO_a1 rfl | apply HO_o1 rfl))); exact HO_drop2 rfl rfl hk) ?_
       first | refine SK ?_ | exact HO_seg rfl rfl | refine S1 ?_ | (refine T2 ?_; intros) | (refine HO_g 2 rfl ?_; first | apply HO_a1 rfl | apply HO_o1 rfl)
       refine HO_or3 (b := con0) (v := con1) (i0 := 21) (i1 := 22) (i2 := 23) (d := 89) (fun K' hk hb => by subst hb; (iterate 3 (first | refine SK ?_ | exact HO_seg rfl rfl | refine S1 ?_ | (refine T2 ?_; intros) | (refine HO_g 2 rfl ?_; first | apply HO_a1 rfl | apply HO_o1 rfl))); exact HO_drop2 rfl rfl hk) (fun K' hk hb => by subst hb; (iterate 3 (first | refine SK ?_ | exact HO_seg rfl rfl | refine S1 ?_ | (refine T2 ?_; intros) | (refine HO_g 2 rfl ?_; first | apply HO_a1 rfl | apply HO_o1 rfl))); exact HO_drop2 rfl rfl hk) ?_
       repeat' (first | (exact HX_atK () trivial ⟨rfl, rfl, rfl, rfl, rfl, rfl, rfl, trivial⟩ permA) | refine S1 ?_ | (refine T2 ?_; intros) | fail)
     ·(refine HO_k 2 rfl ?_; refine HO_loT rfl rfl rfl rfl rfl rfl soA ?_)
      (refine HO_2p 1 13 (by decide +kernel) rfl rfl (by decide +kernel) ?_ ?_)
      ·(refine HO_k 2 rfl ?_; refine HO_loT rfl rfl rfl rfl rfl rfl soA ?_)
       first | refine SK ?_ | exact HO_seg rfl rfl | refine S1 ?_ | (refine T2 ?_; intros) | (refine HO_g 2 rfl ?_; first | apply HO_a1 rfl | apply HO_o1 rfl)
       refine HO_or3 (b := clo0) (v := clo1) (i0 := 3) (i1 := 4) (i2 := 5) (d := 71) (fun K' hk hb => by subst hb; (iterate 3 (first | refine SK ?_ | exact HO_seg rfl rfl | refine S1 ?_ | (refine T2 ?_; intros) | (refine HO_g 2 rfl ?_; first | apply HO_a1 rfl | apply HO_o1 rfl))); exact HO_drop2 rfl rfl hk) (fun K' hk hb => by subst hb; (iterate 3 (first | refine SK ?_ | exact HO_seg rfl rfl | refine S1 ?_ | (refine T2 ?_; intros) | (refine HO_g 2 rfl ?_; first | apply HO_a1 rfl | apply HO_o1 rfl))); exact HO_drop2 rfl rfl hk) ?_
       first | refine SK ?_ | exact HO_seg rfl rfl | refine S1 ?_ | (refine T2 ?_; intros) | (refine HO_g 2 rfl ?_; first | apply HO_a1 rfl | apply HO_o1 rfl)
       refine HO_or3 (b := up0) (v := up1) (i0 := 9) (i1 := 10) (i2 := 11) (d := 77) (fun K' hk hb => by subst hb; (iterate 3 (first | refine SK ?_ | exact HO_seg rfl rfl | refine S1 ?_ | (refine T2 ?_; intros) | (refine HO_g 2 rfl ?_; first | apply HO_a1 rfl | apply HO_o1 rfl))); exact HO_drop2 rfl rfl hk) (fun K' hk hb => by subst hb; (iterate 3 (first | refine SK ?_ | exact HO_seg rfl rfl | refine S1 ?_ | (refine T2 ?_; intros) | (refine HO_g 2 rfl ?_; first | apply HO_a1 rfl | apply HO_o1 rfl))); exact HO_drop2 rfl rfl hk) ?_
       (refine HO_k 2 rfl ?_; refine HO_loT rfl rfl rfl rfl rfl rfl soA ?_)
       first | refine SK ?_ | exact HO_seg rfl rfl | refine S1 ?_ | (refine T2 ?_; intros) | (refine HO_g 2 rfl ?_; first | apply HO_a1 rfl | apply HO_o1 rfl)
       refine HO_or3 (b := dn0) (v := dn1) (i0 := 15) (i1 := 16) (i2 := 17) (d := 83) (fun K' hk hb => by subst hb; (iterate 3 (first | refine SK ?_ | exact HO_seg rfl rfl | refine S1 ?_ | (refine T2 ?_; intros) | (refine HO_g 2 rfl ?_; first | apply HO_a1 rfl | apply HO_o1 rfl))); exact HO_drop2 rfl rfl hk) (fun K' hk hb => by subst hb; (iterate 3 (first | refine SK ?_ | exact HO_seg rfl rfl | refine S1 ?_ | (refine T2 ?_; intros) | (refine HO_g 2 rfl ?_; first | apply HO_a1 rfl | apply HO_o1 rfl))); exact HO_drop2 rfl rfl hk) ?_
       first | refine SK ?_ | exact HO_seg rfl rfl | refine S1 ?_ | (refine T2 ?_; intros) | (refine HO_g 2 rfl ?_; first | apply HO_a1 rfl | apply HO_o1 rfl)
       refine HO_or3 (b := con0) (v := con1) (i0 := 21) (i1 := 22) (i2 := 23) (d := 89) (fun K' hk hb => by subst hb; (iterate 3 (first | refine SK ?_ | exact HO_seg rfl rfl | refine S1 ?_ | (refine T2 ?_; intros) | (refine HO_g 2 rfl ?_; first | apply HO_a1 rfl | apply HO_o1 rfl))); exact HO_drop2 rfl rfl hk) (fun K' hk hb => by subst hb; (iterate 3 (first | refine SK ?_ | exact HO_seg rfl rfl | refine S1 ?_ | (refine T2 ?_; intros) | (refine HO_g 2 rfl ?_; first | apply HO_a1 rfl | apply HO_o1 rfl))); exact HO_drop2 rfl rfl hk) ?_
       repeat' (first | (exact HX_atK () trivial ⟨rfl, rfl, rfl, rfl, rfl, rfl, rfl, trivial⟩ permA) | refine S1 ?_ | (refine T2 ?_; intros) | fail)
      ·(refine HO_k 2 rfl ?_; refine HO_loT rfl rfl rfl rfl rfl rfl soA ?_)
       (refine HO_k 2 rfl ?_; refine HO_loT rfl rfl rfl rfl rfl rfl soA ?_)
       first | refine SK ?_ | exact HO_seg rfl rfl | refine S1 ?_ | (refine T2 ?_; intros) | (refine HO_g 2 rfl ?_; first | apply HO_a1 rfl | apply HO_o1 rfl)
       refine HO_or3 (b := clo0) (v := clo1) (i0 := 3) (i1 := 4) (i2 := 5) (d := 71) (fun K' hk hb => by subst hb; (iterate 3 (first | refine SK ?_ | exact HO_seg rfl rfl | refine S1 ?_ | (refine T2 ?_; intros) | (refine HO_g 2 rfl ?_; first | apply HO_a1 rfl | apply HO_o1 rfl))); exact HO_drop2 rfl rfl hk) (fun K' hk hb => by subst hb; (iterate 3 (first | refine SK ?_ | exact HO_seg rfl rfl | refine S1 ?_ | (refine T2 ?_; intros) | (refine HO_g 2 rfl ?_; first | apply HO_a1 rfl | apply HO_o1 rfl))); exact HO_drop2 rfl rfl hk) ?_
       first | refine SK ?_ | exact HO_seg rfl rfl | refine S1 ?_ | (refine T2 ?_; intros) | (refine HO_g 2 rfl ?_; first | apply HO_a1 rfl | apply HO_o1 rfl)
       refine HO_or3 (b := up0) (v := up1) (i0 := 9) (i1 := 10) (i2 := 11) (d := 77) (fun K' hk hb => by subst hb; (iterate 3 (first | refine SK ?_ | exact HO_seg rfl rfl | refine S1 ?_ | (refine T2 ?_; intros) | (refine HO_g 2 rfl ?_; first | apply HO_a1 rfl | apply HO_o1 rfl))); exact HO_drop2 rfl rfl hk) (fun K' hk hb => by subst hb; (iterate 3 (first | refine SK ?_ | exact HO_seg rfl rfl | refine S1 ?_ | (refine T2 ?_; intros) | (refine HO_g 2 rfl ?_; first | apply HO_a1 rfl | apply HO_o1 rfl))); exact HO_drop2 rfl rfl hk) ?_
       first | refine SK ?_ | exact HO_seg rfl rfl | refine S1 ?_ | (refine T2 ?_; intros) | (refine HO_g 2 rfl ?_; first | apply HO_a1 rfl | apply HO_o1 rfl)
       refine HO_or3 (b := dn0) (v := dn1) (i0 := 15) (i1 := 16) (i2 := 17) (d := 83) (fun K' hk hb => by subst hb; (iterate 3 (first | refine SK ?_ | exact HO_seg rfl rfl | refine S1 ?_ | (refine T2 ?_; intros) | (refine HO_g 2 rfl ?_; first | apply HO_a1 rfl | apply HO_o1 rfl))); exact HO_drop2 rfl rfl hk) (fun K' hk hb => by subst hb; (iterate 3 (first | refine SK ?_ | exact HO_seg rfl rfl | refine S1 ?_ | (refine T2 ?_; intros) | (refine HO_g 2 rfl ?_; first | apply HO_a1 rfl | apply HO_o1 rfl))); exact HO_drop2 rfl rfl hk) ?_
       first | refine SK ?_ | exact HO_seg rfl rfl | refine S1 ?_ | (refine T2 ?_; intros) | (refine HO_g 2 rfl ?_; first | apply HO_a1 rfl | apply HO_o1 rfl)
       refine HO_or3 (b := con0) (v := con1) (i0 := 21) (i1 := 22) (i2 := 23) (d := 89) (fun K' hk hb => by subst hb; (iterate 3 (first | refine SK ?_ | exact HO_seg rfl rfl | refine S1 ?_ | (refine T2 ?_; intros) | (refine HO_g 2 rfl ?_; first | apply HO_a1 rfl | apply HO_o1 rfl))); exact HO_drop2 rfl rfl hk) (fun K' hk hb => by subst hb; (iterate 3 (first | refine SK ?_ | exact HO_seg rfl rfl | refine S1 ?_ | (refine T2 ?_; intros) | (refine HO_g 2 rfl ?_; first | apply HO_a1 rfl | apply HO_o1 rfl))); exact HO_drop2 rfl rfl hk) ?_
       repeat' (first | (exact HX_atK () trivial ⟨rfl, rfl, rfl, rfl, rfl, rfl, rfl, trivial⟩ permA) | refine S1 ?_ | (refine T2 ?_; intros) | fail)
     ·(refine HO_k 2 rfl ?_; refine HO_loT rfl rfl rfl rfl rfl rfl soA ?_)
      (refine HO_2p 1 7 (by decide +kernel) rfl rfl (by decide +kernel) ?_ ?_)
      ·(refine HO_k 2 rfl ?_; refine HO_loT rfl rfl rfl rfl rfl rfl soA ?_)
       first | refine SK ?_ | exact HO_seg rfl rfl | refine S1 ?_ | (refine T2 ?_; intros) | (refine HO_g 2 rfl ?_; first | apply HO_a1 rfl | apply HO_o1 rfl)
       refine HO_or3 (b := clo0) (v := clo1) (i0 := 3) (i1 := 4) (i2 := 5) (d := 71) (fun K' hk hb => by subst hb; (iterate 3 (first | refine SK ?_ | exact HO_seg rfl rfl | refine S1 ?_ | (refine T2 ?_; intros) | (refine HO_g 2 rfl ?_; first | apply HO_a1 rfl | apply HO_o1 rfl))); exact HO_drop2 rfl rfl hk) (fun K' hk hb => by subst hb; (iterate 3 (first | refine SK ?_ | exact HO_seg rfl rfl | refine S1 ?_ | (refine T2 ?_; intros) | (refine HO_g 2 rfl ?_; first | apply HO_a1 rfl | apply HO_o1 rfl))); exact HO_drop2 rfl rfl hk) ?_
       (refine HO_k 2 rfl ?_; refine HO_loT rfl rfl rfl rfl rfl rfl soA ?_)
       first | refine SK ?_ | exact HO_seg rfl rfl | refine S1 ?_ | (refine T2 ?_; intros) | (refine HO_g 2 rfl ?_; first | apply HO_a1 rfl | apply HO_o1 rfl)
       refine HO_or3 (b := up0) (v := up1) (i0 := 9) (i1 := 10) (i2 := 11) (d := 77) (fun K' hk hb => by subst hb; (iterate 3 (first | refine SK ?_ | exact HO_seg rfl rfl | refine S1 ?_ | (refine T2 ?_; intros) | (refine HO_g 2 rfl ?_; first | apply HO_a1 rfl | apply HO_o1 rfl))); exact HO_drop2 rfl rfl hk) (fun K' hk hb => by subst hb; (iterate 3 (first | refine SK ?_ | exact HO_seg rfl rfl | refine S1 ?_ | (refine T2 ?_; intros) | (refine HO_g 2 rfl ?_; first | apply HO_a1 rfl | apply HO_o1 rfl))); exact HO_drop2 rfl rfl hk) ?_
       first | refine SK ?_ | exact HO_seg rfl rfl | refine S1 ?_ | (refine T2 ?_; intros) | (refine HO_g 2 rfl ?_; first | apply HO_a1 rfl | apply HO_o1 rfl)
       refine HO_or3 (b := dn0) (v := dn1) (i0 := 15) (i1 := 16) (i2 := 17) (d := 83) (fun K' hk hb => by subst hb; (iterate 3 (first | refine SK ?_ | exact HO_seg rfl rfl | refine S1 ?_ | (refine T2 ?_; intros) | (refine HO_g 2 rfl ?_; first | apply HO_a1 rfl | apply HO_o1 rfl))); exact HO_drop2 rfl rfl hk) (fun K' hk hb => by subst hb; (iterate 3 (first | refine SK ?_ | exact HO_seg rfl rfl | refine S1 ?_ | (refine T2 ?_; intros) | (refine HO_g 2 rfl ?_; first | apply HO_a1 rfl | apply HO_o1 rfl))); exact HO_drop2 rfl rfl hk) ?_
       first | refine SK ?_ | exact HO_seg rfl rfl | refine S1 ?_ | (refine T2 ?_; intros) | (refine HO_g 2 rfl ?_; first | apply HO_a1 rfl | apply HO_o1 rfl)
       refine HO_or3 (b := con0) (v := con1) (i0 := 21) (i1 := 22) (i2 := 23) (d := 89) (fun K' hk hb => by subst hb; (iterate 3 (first | refine SK ?_ | exact HO_seg rfl rfl | refine S1 ?_ | (refine T2 ?_; intros) | (refine HO_g 2 rfl ?_; first | apply HO_a1 rfl | apply HO_o1 rfl))); exact HO_drop2 rfl rfl hk) (fun K' hk hb => by subst hb; (iterate 3 (first | refine SK ?_ | exact HO_seg rfl rfl | refine S1 ?_ | (refine T2 ?_; intros) | (refine HO_g 2 rfl ?_; first | apply HO_a1 rfl | apply HO_o1 rfl))); exact HO_drop2 rfl rfl hk) ?_
       repeat' (first | (exact HX_atK () trivial ⟨rfl, rfl, rfl, rfl, rfl, rfl, rfl, trivial⟩ permA) | refine S1 ?_ | (refine T2 ?_; intros) | fail)
      ·(refine HO_k 2 rfl ?_; refine HO_loT rfl rfl rfl rfl rfl rfl soA ?_)
       (refine HO_k 2 rfl ?_; refine HO_loT rfl rfl rfl rfl rfl rfl soA ?_)
       first | refine SK ?_ | exact HO_seg rfl rfl | refine S1 ?_ | (refine T2 ?_; intros) | (refine HO_g 2 rfl ?_; first | apply HO_a1 rfl | apply HO_o1 rfl)
       refine HO_or3 (b := clo0) (v := clo1) (i0 := 3) (i1 := 4) (i2 := 5) (d := 71) (fun K' hk hb => by subst hb; (iterate 3 (first | refine SK ?_ | exact HO_seg rfl rfl | refine S1 ?_ | (refine T2 ?_; intros) | (refine HO_g 2 rfl ?_; first | apply HO_a1 rfl | apply HO_o1 rfl))); exact HO_drop2 rfl rfl hk) (fun K' hk hb => by subst hb; (iterate 3 (first | refine SK ?_ | exact HO_seg rfl rfl | refine S1 ?_ | (refine T2 ?_; intros) | (refine HO_g 2 rfl ?_; first | apply HO_a1 rfl | apply HO_o1 rfl))); exact HO_drop2 rfl rfl hk) ?_
       first | refine SK ?_ | exact HO_seg rfl rfl | refine S1 ?_ | (refine T2 ?_; intros) | (refine HO_g 2 rfl ?_; first | apply HO_a1 rfl | apply HO_o1 rfl)
       refine HO_or3 (b := up0) (v := up1) (i0 := 9) (i1 := 10) (i2 := 11) (d := 77) (fun K' hk hb => by subst hb; (iterate 3 (first | refine SK ?_ | exact HO_seg rfl rfl | refine S1 ?_ | (refine T2 ?_; intros) | (refine HO_g 2 rfl ?_; first | apply HO_a1 rfl | apply HO_o1 rfl))); exact HO_drop2 rfl rfl hk) (fun K' hk hb => by subst hb; (iterate 3 (first | refine SK ?_ | exact HO_seg rfl rfl | refine S1 ?_ | (refine T2 ?_; intros) | (refine HO_g 2 rfl ?_; first | apply HO_a1 rfl | apply HO_o1 rfl))); exact HO_drop2 rfl rfl hk) ?_
       first | refine SK ?_ | exact HO_seg rfl rfl | refine S1 ?_ | (refine T2 ?_; intros) | (refine HO_g 2 rfl ?_; first | apply HO_a1 rfl | apply HO_o1 rfl)
       refine HO_or3 (b := dn0) (v := dn1) (i0 := 15) (i1 := 16) (i2 := 17) (d := 83) (fun K' hk hb => by subst hb; (iterate 3 (first | refine SK ?_ | exact HO_seg rfl rfl | refine S1 ?_ | (refine T2 ?_; intros) | (refine HO_g 2 rfl ?_; first | apply HO_a1 rfl | apply HO_o1 rfl))); exact HO_drop2 rfl rfl hk) (fun K' hk hb => by subst hb; (iterate 3 (first | refine SK ?_ | exact HO_seg rfl rfl | refine S1 ?_ | (refine T2 ?_; intros) | (refine HO_g 2 rfl ?_; first | apply HO_a1 rfl | apply HO_o1 rfl))); exact HO_drop2 rfl rfl hk) ?_
       first | refine SK ?_ | exact HO_seg rfl rfl | refine S1 ?_ | (refine T2 ?_; intros) | (refine HO_g 2 rfl ?_; first | apply HO_a1 rfl | apply HO_o1 rfl)
       refine HO_or3 (b := con0) (v := con1) (i0 := 21) (i1 := 22) (i2 := 23) (d := 89) (fun K' hk hb => by subst hb; (iterate 3 (first | refine SK ?_ | exact HO_seg rfl rfl | refine S1 ?_ | (refine T2 ?_; intros) | (refine HO_g 2 rfl ?_; first | apply HO_a1 rfl | apply HO_o1 rfl))); exact HO_drop2 rfl rfl hk) (fun K' hk hb => by subst hb; (iterate 3 (first | refine SK ?_ | exact HO_seg rfl rfl | refine S1 ?_ | (refine T2 ?_; intros) | (refine HO_g 2 rfl ?_; first | apply HO_a1 rfl | apply HO_o1 rfl))); exact HO_drop2 rfl rfl hk) ?_
       repeat' (first | (exact HX_atK () trivial ⟨rfl, rfl, rfl, rfl, rfl, rfl, rfl, trivial⟩ permA) | refine S1 ?_ | (refine T2 ?_; intros) | fail)
   rintro ⟨⟩ -
   repeat' (first | refine SK ?_ | refine SD ?_ | refine SB ?_ | (refine T2 ?_; intros) | fail)
   rename_i A2 c2'
   have hn : PcI A b ⟨i + k, cutA B2 1 m k, m - k, ⟨z.us ++ y.us, (A1, c1'), (A2, c2')⟩⟩ := ⟨by show i + k ≤ b.length; omega, by show b.length - (i + k) ≤ m - k; omega, fun S w h => by
    have h5 := arr_drop m k (fun e => by rw [List.length_drop]; omega) S w (hE S w h)
    rwa [List.drop_drop] at h5, by
    show RsOk (pcM b (i + k)).2 _
    rw [h1]
    exact radd_ok hz hy _ _⟩
   refine HX_atK ⟨i + k, cutA B2 1 m k, m - k, ⟨z.us ++ y.us, (A1, c1'), (A2, c2')⟩⟩ ⟨hn, by show b.length - (i + k) < b.length - i; omega⟩ ⟨(by show _ = some (Value.slice (cutA B2 1 m k) (b.length - (i + k)) (m - k)); rw [← hlen]; rfl), rfl, rfl, rfl, rfl, rfl, trivial⟩ ?_
   dsimp only [pcP, rsP, rsC]
   rw [h1]
   dsimp only
   rw [List.length_append, List.map_append, show upsL (z.us ++ y.us) = upsL z.us ++ upsL y.us from List.flatMap_append, show (last0 ++ last1).length = last0.length + last1.length from List.length_append]
   have hob : own idE 5 1 A2 (last0.length + last1.length) c2' (List.map bE last0 ++ List.map bE last1) = ownB (A2, c2') (last0 ++ last1) := by
    unfold ownB
    rw [List.length_append, List.map_append]
   rw [hob]
   exact Keeps.pick 8 rfl rfl (Keeps.pick 8 rfl rfl (Keeps.pick 8 rfl rfl (Keeps.pick 8 rfl rfl (Keeps.pick 8 rfl rfl (Keeps.pick 7 rfl rfl (Keeps.pick 1 rfl rfl (Keeps.pick 1 rfl rfl (Keeps.comp (Keeps.pick 2 rfl rfl (Keeps.pick 2 rfl rfl (Keeps.pick 0 rfl rfl Keeps.nil))) (inn_flat Keeps.refl)))))))))
 ·obtain rfl : i = b.length := by omega
  have hz0 : ¬ ((b.length - b.length : Nat) : Int) > 0 := by omega
  have c4 := fun hz => rpsame_t (pcM b b.length).2 z1 z hz1 hz hIi.2.u hIi.2.l
  have hq := hIi.1.ok.q
  have hrm := hIi.1.ok.room
  have c5 := fun p t => pstate_t p t (pcM b b.length).1
  have c6 := fun p t => pout_t p t (pcM b b.length).1 hIi.1.ok 65536
  obtain ⟨⟨X, R⟩, hX⟩ : ∃ X, pcM b b.length = X := ⟨_, rfl⟩
  rw [hX] at c4 c5 c6 hz ⊢
  have c4 := c4 hz
  dsimp only at c5 c6
  obtain ⟨q, hq2⟩ : ∃ q, X.q.take (tkN 65536 X.q.length) = q := ⟨_, rfl⟩
  rw [hq2] at c6
  have hstr : (ByteArray.toList ⟨q.toArray⟩ == ByteArray.toList ⟨q.toArray⟩) = true := beq_self_eq_true _
  have hst : (decide (X.st.ph = X.st.ph) && (decide (X.st.hold = X.st.hold) && (decide (X.st.four = X.st.four) && (decide (X.st.paths = X.st.paths) && decide (X.st.id = X.st.id))))) = true := by simp
  dsimp only [rsV, rsC, staV] at c4 c5 ⊢
  repeat' (first | refine SK ?_ | refine SD ?_ | refine S1 ?_ | (refine T2 ?_; intros) | refine S5n ?_ | fail)
  refine HC_lex rfl rfl (by decide +kernel) rfl rfl ?_
  refine HO_names (l' := [0, 1, 2, 3, 4, 6, 5, 7, 8, 9, 10, 11, 14, 12, 13, 15, 16, 17, 18, 19]) (by decide +kernel) ?_
  repeat' (first | refine SK ?_ | refine SD ?_ | (with_reducible refine HO_rw (congrArg Value.bool hst) ?_) | (with_reducible refine HO_rw (congrArg Value.bool hstr) ?_) | (refine KC ?_; refine HO_callq rfl rfl rfl rfl (c4) (fun _ _ => rfl) (by first | exact rs_src 4 5 6 9 10 11 rfl rfl rfl rfl rfl rfl | exact rs_src 5 6 7 9 10 11 rfl rfl rfl rfl rfl rfl | exact rs_src 5 6 7 10 11 12 rfl rfl rfl rfl rfl rfl | exact rs_src 4 5 6 8 9 10 rfl rfl rfl rfl rfl rfl) rfl rfl sqA ?_) | (refine KC ?_; refine HO_callP rfl rfl rfl rfl (c5 _ _) findA (trivial) rfl rfl soA ?_; intro v hv5; dsimp only [lca, lna]) | (refine HO_k 7 rfl ?_; (first | (refine HO_holdA 0 rfl rfl ?_; refine HO_b2sr (l := q) 0 rfl rfl rfl rfl rfl rfl rfl rdA ?_) | (refine HO_holdA 1 rfl rfl ?_; refine HO_b2sr (l := q) 0 rfl rfl rfl rfl rfl rfl rfl rdA ?_) | (refine HO_holdA 2 rfl rfl ?_; refine HO_b2sr (l := q) 0 rfl rfl rfl rfl rfl rfl rfl rdA ?_) | (refine HO_holdA 3 rfl rfl ?_; refine HO_b2sr (l := q) 0 rfl rfl rfl rfl rfl rfl rfl rdA ?_) | (refine HO_holdA 4 rfl rfl ?_; refine HO_b2sr (l := q) 0 rfl rfl rfl rfl rfl rfl rfl rdA ?_) | (refine HO_holdA 5 rfl rfl ?_; refine HO_b2sr (l := q) 0 rfl rfl rfl rfl rfl rfl rfl rdA ?_) | (refine HO_holdA 6 rfl rfl ?_; refine HO_b2sr (l := q) 0 rfl rfl rfl rfl rfl rfl rfl rdA ?_) | (refine HO_holdA 7 rfl rfl ?_; refine HO_b2sr (l := q) 0 rfl rfl rfl rfl rfl rfl rfl rdA ?_) | (refine HO_holdA 8 rfl rfl ?_; refine HO_b2sr (l := q) 0 rfl rfl rfl rfl rfl rfl rfl rdA ?_) | (refine HO_holdA 9 rfl rfl ?_; refine HO_b2sr (l := q) 0 rfl rfl rfl rfl rfl rfl rfl rdA ?_) | (refine HO_holdA 10 rfl rfl ?_; refine HO_b2sr (l := q) 0 rfl rfl rfl rfl rfl rfl rfl rdA ?_) | (refine HO_holdA 11 rfl rfl ?_; refine HO_b2sr (l := q) 0 rfl rfl rfl rfl rfl rfl rfl rdA ?_))) | (refine KC ?_; refine HO_callP rfl rfl rfl rfl (c6 _ _) findA (trivial) rfl rfl soA ?_; intro ⟨o1, o2⟩ ho; dsimp only [lca, lna]) | refine SB ?_ | (refine T2 ?_; intros) | fail)
  (refine SRt ?_; refine RU ?_)
  rfl
end Go.Proofs.YteeogabkkblkgaaGreatDoor
