/- Part of a proof of many texts: what the theorem at its end leans on. -/
import Derived.Test.YteeogabkkblkgaaGreatDoorXTLpD
import Derived.Test.YteeogabkkblkgaaGreatDoorXTLpE
namespace Go.Proofs.YteeogabkkblkgaaGreatDoor
set_option maxHeartbeats 1000000000
set_option linter.unusedVariables false
set_option linter.unusedSimpArgs false
open Go.RowKit
attribute [local irreducible] HC HX HO Tri eP adr
structure MsS where
 k : Int
 A : Option Addr
 c : Nat
 b : List UInt8
def MsS.q (m : MsS) : Int × List UInt8 := (m.k, m.b)
@[reducible] def MsS.e (m : MsS) : List Value := [.int .i64 m.k, .slice m.A m.b.length m.c]
instance : EncOk MsS.e 2 := ⟨fun _ => ⟨rfl, rfl⟩⟩
def msL (l : List MsS) : List SL := l.map fun m => ownB (m.A, m.c) m.b
theorem ms_ent {ws : List MsS} {m : MsS} (h : m ∈ ws) : Ent (inn (msL ws)) (arr bE 1 m.A m.b) := fun S w hp hne => by
 obtain ⟨F, hF, h1⟩ := hp _ (List.mem_map.2 ⟨m, h, rfl⟩)
 obtain ⟨ad, h2, h3, h4⟩ := own_byte F w h1 hne
 exact ⟨ad, h2, hF _ h3, h4⟩
theorem msL_app (ws : List MsS) (m : MsS) : msL (ws ++ [m]) = msL ws ++ [ownB (m.A, m.c) m.b] := List.map_append
theorem ms_keeps {ws : List MsS} {m : MsS} {A : Option Addr} {c : Nat} {rw rw' : List SL} (h : Keeps (own idE 60 2 A (ws ++ [m]).length c ((ws ++ [m]).map MsS.e) :: inn (msL (ws ++ [m])) :: rw) rw') :
  Keeps (own idE 60 2 A (ws.length + 1) c (ws.map MsS.e ++ [m.e]) :: inn (msL ws) :: ownB (m.A, m.c) m.b :: rw) rw' := by
 rw [List.length_append, List.map_append, msL_app] at h
 refine Keeps.comp (Keeps.pick 1 rfl rfl (Keeps.pick 1 rfl rfl (Keeps.pick 0 rfl rfl Keeps.refl))) ?_
 exact Keeps.inn_snoc (Keeps.comp (Keeps.pick 1 rfl rfl (Keeps.pick 0 rfl rfl Keeps.refl)) h)
structure SlI (l : List UpS) (i : Nat) (x : PrQ) (s : StQ) (W : List (Int × List UInt8)) : Prop where
 il : i ≤ l.length
 p : SdP x (if i = 0 then q0B else [])
 s : if i = 0 then s = st0 ∧ W = [] else SdS s W
 w : WOk W
theorem SlI.s0 {l : List UpS} {i : Nat} {x : PrQ} {s : StQ} {W : List (Int × List UInt8)} (h : SlI l i x s W) : s.n = nt0 ∧ s.b.length ≤ 65536 := by
 have := h.s
 split at this
 ·rw [this.1]
  exact ⟨rfl, Nat.zero_le _⟩
 ·exact ⟨this.n, this.l⟩
theorem tk_all {q : List UInt8} (h : q.length ≤ 65536) : tkN 65536 q.length = q.length := by
 unfold tkN
 omega
theorem SlI.next {l : List UpS} {i : Nat} {x : PrQ} {s : StQ} {W : List (Int × List UInt8)} (h : SlI l i x s W) (hi : i < l.length) (ok : Bool) (b : List UInt8) (hb : ok = true → msgOk 2 b.length = true) :
  (putM x ok b).2 = (if ok = true then 0 else 70) ∧ (putM x ok b).1.q.length ≤ 65536 ∧
  SlI l (i + 1) { (putM x ok b).1 with q := [] } (feedM s (putM x ok b).1.q).1 (W ++ putD ok b) := by
 have h0 := q0_len
 obtain ⟨e1, e2, e3⟩ := put_sd h.p (by split <;> simp [h0]) ok b hb
 have hq := e2.q
 have hD := frs_len e3
 have hDl : (putD ok b).length ≤ 1 := by
  unfold putD
  split <;> simp
 have hs := h.s
 have hfeed : SdS (feedM s (putM x ok b).1.q).1 (W ++ putD ok b) := by
  rw [hq]
  by_cases h1 : i = 0
  ·rw [if_pos h1] at hs ⊢
   rw [hs.1, hs.2]
   exact feed_0 e3 (by omega)
  ·rw [if_neg h1] at hs ⊢
   exact feed_1 hs h.w e3
 refine ⟨e1, by have h1 := e2.i.ok.q; rw [e2.i.room] at h1; exact h1, hi, ?_, ?_, ?_⟩
 ·rw [if_neg (Nat.succ_ne_zero i)]
  exact ⟨⟨{ e2.i.ok with q := Nat.zero_le _ }, e2.i.ho, e2.i.s, e2.i.lo, e2.i.n, e2.i.room⟩, e2.ph, e2.four, e2.hold, rfl⟩
 ·rw [if_neg (Nat.succ_ne_zero i)]
  exact hfeed
 ·exact fun m hm => (List.mem_append.1 hm).elim (h.w m) (e3 m)
structure BtI (beats : Nat) (Q : List UInt8) (W : List (Int × List UInt8)) (j : Nat) (x : PrQ) (V : List (Int × List UInt8)) : Prop where
 jl : j ≤ beats
 p : SdP x (Q ++ frs (keeps j))
 v : V = W ++ keeps j
theorem BtI.next {beats : Nat} {Q : List UInt8} {W : List (Int × List UInt8)} {j : Nat} {x : PrQ} {V : List (Int × List UInt8)} (h : BtI beats Q W j x V) (hQ : Q.length ≤ 68) (hb : beats ≤ 20) (hj : j < beats) : BtI beats Q W (j + 1) (doM (j : Int) x 11 : PrQ × RsQ UpP).1 (V ++ [(4, [])]) := by
 have hk := keeps_len j
 have h1 := beat_sd h.p (by rw [List.length_append, hk]; omega) (now := (j : Int)) (by omega)
 rw [List.append_assoc, keeps_app] at h1
 refine ⟨hj, h1, ?_⟩
 rw [h.v, List.append_assoc]
 congr 1
 exact (List.replicate_succ' ..).symm
theorem SlI.fin {l : List UpS} {x : PrQ} {s : StQ} {W : List (Int × List UInt8)} (h : SlI l l.length x s W) {beats : Nat} (hb : beats ≤ 20) : SdS (feedM s ((if l.length = 0 then q0B else []) ++ frs (keeps beats))).1 (W ++ keeps beats) := by
 have hs := h.s
 have hk := keeps_len beats
 by_cases h1 : l.length = 0
 ·rw [if_pos h1] at hs ⊢
  rw [hs.1, hs.2]
  exact feed_0 (keeps_ok beats) (by omega)
 ·rw [if_neg h1] at hs ⊢
  exact feed_1 hs h.w (keeps_ok beats)
theorem HX_atK {N : Nat} {w0 : World} {S0 : Foot} {env : Env} {ro rw : List SL} {Q : Exit → Act → World → Prop} {α : Type} {φ : α → Prop} {E : α → Env} {R : α → List SL} (x : α) (hφ : φ x) (hE : SubE (E x) env) (hk : Keeps rw (R x)) : HX N w0 S0 .normal env ro rw (Exit.then (At N w0 S0 ro φ E R) Q) :=
 HX_keeps hk (HX_at x hφ hE rfl)
structure RdZ where
 i : Nat
 s : StQ
 z : OA
 d : OA
structure BtZ where
 j : Nat
 x : PrQ
 ws : List MsS
 w : OA
@[reducible] def btE (A : Option Addr) (c n : Nat) (bt : Nat) (p s : Nat) (y : BtZ) : Env := [(0, .slice A n c), (1, .int .i64 bt), (5, pt p), (7, pt s), (8, .slice y.w.1 y.ws.length y.w.2), (10, .int .i64 y.j)]
structure SlZ where
 i : Nat
 x : PrQ
 st : StQ
 ws : List MsS
 w : OA
 z : OA
 d : OA
@[reducible] def slE (A : Option Addr) (c n : Nat) (bt : Nat) (p s : Nat) (y : SlZ) : Env := [(0, .slice A n c), (1, .int .i64 bt), (5, pt p), (7, pt s), (8, .slice y.w.1 y.ws.length y.w.2), (9, .int .i64 y.i)]
@[reducible] def msP (ws : List MsS) (w : OA) : List SL := [own idE 60 2 w.1 ws.length w.2 (ws.map MsS.e), inn (msL ws)]
@[reducible] def slP (p t s : Nat) (y : SlZ) : List SL := peP p t y.x :: (rdsS s y.st y.z y.d ++ msP y.ws y.w)
theorem ms_app (ws : List MsS) (m : MsS) : (ws ++ [m]).map MsS.q = ws.map MsS.q ++ [m.q] := List.map_append
theorem wmap_ok {ws : List MsS} (h : WOk (ws.map MsS.q)) : ∀ m ∈ ws, m.b.length ≤ 4077 := fun m hm => by
 have := (msgOk_iff.1 (h m.q (List.mem_map.2 ⟨m, hm, rfl⟩))).2.2.1
 show m.q.2.length ≤ 4077
 omega
set_option maxRecDepth 100000 in
theorem sends_t (A : Option Addr) (c : Nat) (l : List UpS) (hv : ∀ u ∈ l, UpV u) (beats : Int) :
  Tri Tryz.prog 4 [.slice A l.length c, .int .i64 beats] [leW, arr UpS.e 9 A l, inn (upsL l)] [] (fun _ : Unit => True) (fun _ => .bool true) (fun _ => []) := by
 have cl := lives_t
 by_cases g1 : (l.length : Int) > 30
 ·refine Tri_in Tryz.func4 rfl (fun w0 S0 => ?_)
  repeat' (first | refine SY ?_ | (refine KC ?_; refine HO_callq rfl rfl rfl rfl (cl) (fun _ _ => rfl) (srcsA) rfl rfl sqA ?_) | refine SB ?_ | (refine T2 ?_; intros) | fail)
  (refine SRt ?_; refine RU ?_)
  rfl
 by_cases g2 : beats < 0
 ·refine Tri_in Tryz.func4 rfl (fun w0 S0 => ?_)
  repeat' (first | refine SY ?_ | (refine KC ?_; refine HO_callq rfl rfl rfl rfl (cl) (fun _ _ => rfl) (srcsA) rfl rfl sqA ?_) | refine SB ?_ | (refine T2 ?_; intros) | fail)
  (refine SRt ?_; refine RU ?_)
  rfl
 by_cases g3 : beats > 20
 ·refine Tri_in Tryz.func4 rfl (fun w0 S0 => ?_)
  repeat' (first | refine SY ?_ | (refine KC ?_; refine HO_callq rfl rfl rfl rfl (cl) (fun _ _ => rfl) (srcsA) rfl rfl sqA ?_) | refine SB ?_ | (refine T2 ?_; intros) | fail)
  (refine SRt ?_; refine RU ?_)
  rfl
 obtain ⟨bt, rfl⟩ : ∃ k : Nat, beats = (k : Int) := ⟨beats.toNat, by omega⟩
 have hbt : bt ≤ 20 := by omega
 have c0 := begun_t
 have co := other_t
 have ct := theirs_t
 have c1 := fun p t A c => pfeed_t p t 0 bg2.1 ok_bg2 (by decide +kernel) (by kernel_rfl) A c theirB (by decide +kernel)
 have e1 : inM updM 0 bg2.1 theirB = fd := rfl
 simp only [e1] at c1
 clear e1
 have hfd := sd_fd
 obtain ⟨⟨P, R⟩, hF⟩ : ∃ D, fd = D := ⟨_, rfl⟩
 rw [hF] at c1 hfd
 obtain ⟨B, hB⟩ : ∃ B, bg2.1 = B := ⟨_, rfl⟩
 rw [hB] at c0 c1
 obtain ⟨T, hT⟩ : ∃ T, theirB = T := ⟨_, rfl⟩
 rw [hT] at ct c1
 clear hB hT hF
 dsimp only [opV, otherQ, rsV, rsC, rsP] at co ct c1 hfd
 refine Tri_in Tryz.func4 rfl (fun w0 S0 => ?_)
 repeat' (first | refine SY ?_ | (refine KC ?_; refine HO_callP rfl rfl rfl rfl (c0) findA (srcsA) rfl rfl soA ?_; intro ⟨p, t⟩ hp; dsimp only [lca, lna]) | (refine KC ?_; refine HO_callq rfl rfl rfl rfl (cl) (fun _ _ => rfl) (srcsA) rfl rfl sqA ?_) | (refine KC ?_; refine HO_callq rfl rfl rfl rfl (co) (fun _ _ => rfl) (trivial) rfl rfl sqA ?_) | (refine KC ?_; refine HO_callP rfl rfl rfl rfl (ct) findA (trivial) rfl rfl soA ?_; intro ⟨y1, y2⟩ hy; dsimp only [lca, lna]) | (refine KC ?_; refine HO_callP rfl rfl rfl rfl (c1 _ _ _ _) findA (srcsA) rfl rfl soA ?_; intro z hz; dsimp only [lca, lna]) | refine SB ?_ | (refine T2 ?_; intros) | fail)
 rename_i bs
 clear ct c0 c1 co
 refine HC_keeps (rw' := slP p t bs ⟨0, P, st0, [], (none, 0), (none, 0), (none, 0)⟩) ?_ ?_
 ·refine Keeps.comp (b := [peP p t P, cel bs 46 [.slice none 0 0, .int .i64 0, .int .i64 0, .slice none 0 0]]) permA ?_
  exact Keeps.pick 0 rfl rfl (Keeps.pick 0 rfl rfl (Keeps.add (fun w => own_nil w) (Keeps.add (fun w => own_nil w) (Keeps.add (fun w => inn_nil w) Keeps.nil))))
 refine HC_loop (α := SlZ) (fun y => SlI l y.i y.x y.st (y.ws.map MsS.q) ∧ y.ws.length ≤ y.i) (slE A c l.length bt p bs) (slP p t bs) (fun y => l.length - y.i) rfl ⟨0, P, st0, [], (none, 0), (none, 0), (none, 0)⟩
  ⟨⟨Nat.zero_le _, hfd, ⟨rfl, rfl⟩, fun m hm => (by cases hm)⟩, Nat.le_refl 0⟩ ⟨rfl, rfl, rfl, rfl, rfl, rfl, trivial⟩ rfl ?_
 rintro ⟨i, x, st, ws, w, zb, zd⟩ ⟨hI, hws⟩
 dsimp only [slE, slP, msP, rdsS, lca, lna] at hI hws ⊢
 have hi30 := hI.il
 have hws30 : ws.length ≤ 30 := by omega
 rcases Nat.lt_or_ge i l.length with hlt | hge
 ·obtain ⟨u, hu⟩ : ∃ u, l[i]? = some u := ⟨l[i], List.getElem?_eq_getElem hlt⟩
  have hmem := List.mem_of_getElem? hu
  have hltz : (i : Int) < (l.length : Int) := by omega
  have c2 := rlarge7_t u
  have src0 : ∀ (src L : List SL), src[2]? = some (inn (upsL l)) → AllSrc src L → AllSrc src (u.ro ++ L) := fun src L h hL => ups_src hmem 2 h hL
  have src1 : ∀ src : List SL, src[2]? = some (inn (upsL l)) → AllSrc src u.ro := fun src h => by
   have := src0 src [] h trivial
   rwa [List.append_nil] at this
  cases hb : bigU u with
  | true =>
   rw [hb] at c2
   dsimp only [UpS.e] at c2
   repeat' (first | refine SY ?_ | (refine KC ?_; refine HO_callq rfl rfl rfl rfl (c2) (fun _ _ => rfl) (src1 _ rfl) rfl rfl sqA ?_) | refine SB ?_ | (refine T2 ?_; intros) | fail)
   (refine SRt ?_; refine RU ?_)
   rfl
  | false =>
   rw [hb] at c2
   have hw := (hv u hmem).w hb
   have hs0 := hI.s0
   obtain ⟨n1, n2, n3⟩ := hI.next hlt (upOk true false u) (upB true false u) upB_ok
   have c3 := pputu_t p t x hI.p.i.ok u hw
   rw [hI.p.four] at c3
   have c4 := pout_t p t (putM x (upOk true false u) (upB true false u)).1 (hI.p.i.put _ _).ok 65536
   rw [tk_all n2, List.take_length, List.drop_length] at c4
   have c5 := fun A c => rsfeedS_t bs st hs0.2 (by rw [hs0.1]; rfl) zb zd A c (putM x (upOk true false u) (upB true false u)).1.q (by omega)
   have c6 := fun h : upOk true false u = true => rbody_t u hw true false (pre_parts (ok_parts h).1).2.1 (pre_parts (ok_parts h).1).2.2.1 (pre_parts (ok_parts h).1).2.2.2
   obtain ⟨⟨x2, K⟩, hD⟩ : ∃ D, putM x (upOk true false u) (upB true false u) = D := ⟨_, rfl⟩
   rw [hD] at n1 n2 n3 c3 c4 c5
   obtain ⟨⟨st2, e⟩, hE⟩ : ∃ D, feedM st x2.q = D := ⟨_, rfl⟩
   dsimp only at n1 n2 n3 c3 c4 c5
   rw [hE] at n3 c5
   obtain ⟨BD, hBD⟩ : ∃ BD, upB true false u = BD := ⟨_, rfl⟩
   rw [hBD] at n3 c6
   clear hD hE hBD
   dsimp only [UpS.e, rdsS] at c2 c3 c4 c5 c6
   cases hok : upOk true false u with
   | false =>
    rw [hok, if_neg (by decide)] at n1
    rw [hok, show putD false BD = [] from rfl, List.append_nil] at n3
    subst n1
    repeat' (first | refine SY ?_ | (refine KC ?_; refine HO_callq rfl rfl rfl rfl (c2) (fun _ _ => rfl) (src1 _ rfl) rfl rfl sqA ?_) | (refine KC ?_; refine HO_callP rfl rfl rfl rfl (c3) findA ((src0 _ _ rfl (AllSrc.at_ 0 rfl trivial))) rfl rfl soA ?_; intro v hv1; dsimp only [lca, lna]) | (refine KC ?_; refine HO_callP rfl rfl rfl rfl (c4) findA (trivial) rfl rfl soA ?_; intro o ho1; dsimp only [lca, lna]) | (refine KC ?_; refine HO_callP rfl rfl rfl rfl (c5 _ _) findA (srcsA) rfl rfl soA ?_; intro y hy1; dsimp only [lca, lna]) | refine SB ?_ | (refine T2 ?_; intros) | fail)
    exact HX_atK ⟨i + 1, { x2 with q := [] }, st2, ws, w, y, zd⟩ ⟨⟨n3, by show ws.length ≤ i + 1; omega⟩, by show l.length - (i + 1) < l.length - i; omega⟩ ⟨rfl, rfl, rfl, rfl, rfl, rfl, trivial⟩ permA
   | true =>
    rw [hok, if_pos rfl] at n1
    rw [hok, show putD true BD = [(2, BD)] from rfl] at n3
    have c6 := c6 hok
    subst n1
    repeat' (first | refine SY ?_ | (refine KC ?_; refine HO_callq rfl rfl rfl rfl (c2) (fun _ _ => rfl) (src1 _ rfl) rfl rfl sqA ?_) | (refine KC ?_; refine HO_callP rfl rfl rfl rfl (c3) findA ((src0 _ _ rfl (AllSrc.at_ 0 rfl trivial))) rfl rfl soA ?_; intro v hv1; dsimp only [lca, lna]) | (refine KC ?_; refine HO_callP rfl rfl rfl rfl (c6) findA (src1 _ rfl) rfl rfl soA ?_; intro ⟨bA, bc⟩ hb1; dsimp only [lca, lna]) | (refine KC ?_; refine HO_callP rfl rfl rfl rfl (c4) findA (trivial) rfl rfl soA ?_; intro o ho1; dsimp only [lca, lna]) | (refine KC ?_; refine HO_callP rfl rfl rfl rfl (c5 _ _) findA (srcsA) rfl rfl soA ?_; intro y hy1; dsimp only [lca, lna]) | refine SB ?_ | (refine T2 ?_; intros) | fail)
    rename_i wA wc
    have n4 : SlI l (i + 1) { x2 with q := [] } st2 ((ws ++ [(⟨2, bA, bc, BD⟩ : MsS)]).map MsS.q) := by rw [ms_app]; exact n3
    exact HX_atK ⟨i + 1, { x2 with q := [] }, st2, ws ++ [(⟨2, bA, bc, BD⟩ : MsS)], (wA, wc), y, zd⟩ ⟨⟨n4, by show (ws ++ [_]).length ≤ i + 1; rw [List.length_append]; show ws.length + 1 ≤ i + 1; omega⟩, by show l.length - (i + 1) < l.length - i; omega⟩ ⟨rfl, rfl, rfl, rfl, by rw [List.length_append]; rfl, rfl, trivial⟩
     (Keeps.comp (b := own idE 60 2 wA (ws.length + 1) wc (ws.map MsS.e ++ [MsS.e ⟨2, bA, bc, BD⟩]) :: inn (msL ws) :: ownB (bA, bc) BD :: [peP p t { x2 with q := [] }, cel bs 46 [.slice y.1 st2.b.length y.2, .int .i64 st2.n.c, .int .i64 st2.n.s, .slice zd.1 st2.n.d.length zd.2], ownB y st2.b]) permA (ms_keeps (m := ⟨2, bA, bc, BD⟩) (Keeps.pick 2 rfl rfl (Keeps.pick 2 rfl rfl (Keeps.pick 2 rfl rfl (Keeps.pick 0 rfl rfl (Keeps.pick 0 rfl rfl Keeps.nil)))))))
 obtain rfl : i = l.length := by omega
 obtain ⟨W0, hW0⟩ : ∃ W0, ws.map MsS.q = W0 := ⟨_, rfl⟩
 have hWl : W0.length = ws.length := by rw [← hW0, List.length_map]
 rw [hW0] at hI
 obtain ⟨Q, hQ⟩ : ∃ Q, (if l.length = 0 then q0B else []) = Q := ⟨_, rfl⟩
 have hQl : Q.length ≤ 68 := by
  have := q0_len
  rw [← hQ]
  split
  ·omega
  ·exact Nat.zero_le _
 have hp0 := hI.p
 have hfin := hI.fin hbt
 have hs0 := hI.s0
 have hw0 := hI.w
 rw [hQ] at hp0 hfin
 clear hQ hI
 repeat' (first | refine SY ?_ | refine S1 ?_ | (refine T2 ?_; intros) | refine S5n ?_ | fail)
 refine HC_loop (α := BtZ) (fun y => BtI bt Q W0 y.j y.x (y.ws.map MsS.q)) (btE A c l.length bt p bs) (fun y => peP p t y.x :: (rdsS bs st zb zd ++ msP y.ws y.w)) (fun y => bt - y.j) rfl ⟨0, x, ws, w⟩ ⟨Nat.zero_le _, by rw [show frs (keeps 0) = [] from rfl, List.append_nil]; exact hp0, by rw [hW0]; exact (List.append_nil _).symm⟩ ⟨rfl, rfl, rfl, rfl, rfl, rfl, trivial⟩ rfl ?_
 have hW30 : W0.length ≤ 30 := by omega
 clear hws hws30 hWl hp0
 rintro ⟨j, x, ws, w⟩ hB
 dsimp only [btE, msP, rdsS, lca, lna] at hB ⊢
 have hjl := hB.jl
 have hwl : ws.length = W0.length + j := by
  have := congrArg List.length hB.v
  rwa [List.length_map, List.length_append, show (keeps j).length = j from List.length_replicate ..] at this
 have hws50 : ws.length ≤ 50 := by omega
 by_cases hj : j < bt
 ·have hjz : (j : Int) < (bt : Int) := by omega
  have c7 := pdo_t p t 11 (j : Int) x hB.p.i.ok (by rw [hB.p.i.lo]; decide)
  have hN := hB.next hQl hbt hj
  obtain ⟨⟨x2, r2⟩, hD⟩ : ∃ D, (doM (j : Int) x 11 : PrQ × RsQ UpP) = D := ⟨_, rfl⟩
  rw [hD] at c7 hN
  clear hD
  dsimp only [rsV, rsC, rsP, lca, lna] at c7 hN
  repeat' (first | refine SY ?_ | (refine KC ?_; refine HO_callP rfl rfl rfl rfl (c7) findA (srcsA) rfl rfl soA ?_; intro o ho1; dsimp only [lca, lna]) | refine SB ?_ | (refine T2 ?_; intros) | fail)
  rename_i wA wc
  have n4 : BtI bt Q W0 (j + 1) x2 ((ws ++ [(⟨4, none, 0, []⟩ : MsS)]).map MsS.q) := by rw [ms_app]; exact hN
  exact HX_atK ⟨j + 1, x2, ws ++ [(⟨4, none, 0, []⟩ : MsS)], (wA, wc)⟩ ⟨n4, by show bt - (j + 1) < bt - j; omega⟩ ⟨rfl, rfl, rfl, rfl, by rw [List.length_append]; rfl, rfl, trivial⟩
   (Keeps.comp (b := own idE 60 2 wA (ws.length + 1) wc (ws.map MsS.e ++ [MsS.e ⟨4, none, 0, []⟩]) :: inn (msL ws) :: [peP p t x2, cel bs 46 [.slice zb.1 st.b.length zb.2, .int .i64 st.n.c, .int .i64 st.n.s, .slice zd.1 st.n.d.length zd.2], ownB zb st.b]) permA
    (Keeps.comp (Keeps.pick 0 rfl rfl (Keeps.pick 0 rfl rfl (Keeps.add (fun w => own_nil w) Keeps.refl))) (ms_keeps (m := ⟨4, none, 0, []⟩) (Keeps.pick 2 rfl rfl (Keeps.pick 2 rfl rfl (Keeps.pick 2 rfl rfl (Keeps.pick 0 rfl rfl (Keeps.pick 0 rfl rfl Keeps.nil))))))))
 obtain rfl : j = bt := by omega
 have hpb := hB.p
 have hql : x.q.length ≤ 65536 := by
  have := hpb.i.ok.q
  rw [hpb.i.room] at this
  exact this
 have hV := hB.v
 rw [← hV] at hfin
 have hVk : WOk (ws.map MsS.q) := by
  rw [hV]
  exact fun m hm => (List.mem_append.1 hm).elim (hw0 m) (keeps_ok _ m)
 have hwm := wmap_ok hVk
 have c4 := pout_t p t x hpb.i.ok 65536
 rw [tk_all hql, List.take_length, List.drop_length] at c4
 have c5 := fun A c => rsfeedS_t bs st hs0.2 (by rw [hs0.1]; rfl) zb zd A c x.q (by omega)
 rw [← hpb.q] at hfin
 obtain ⟨⟨st2, e⟩, hE⟩ : ∃ D, feedM st x.q = D := ⟨_, rfl⟩
 rw [hE] at hfin c5
 dsimp only at hfin c5
 obtain ⟨R, hR, hRl, e1, e2⟩ := read_1 hfin
 have d1 := fun z dA => rsnextS_t bs st2 hfin.l (by rw [hfin.n]; rfl) z dA
 have d2 := fun z dA => rsnextS_t bs ⟨frB 4 [] ++ R, nt0⟩ (by
  have h1 := next_some (s := st2) (by rw [hfin.n]; rfl) (by rw [e1]) []
  rw [e1] at h1
  have h2 := hfin.l
  show (frB 4 [] ++ R).length ≤ 65536
  have h3 := h1.2.2.1
  dsimp only at h3
  omega) rfl z dA
 rw [e1] at d1
 rw [e2] at d2
 clear e1 e2 hE
 obtain ⟨FR, hFR⟩ : ∃ FR, frB 4 [] ++ R = FR := ⟨_, rfl⟩
 rw [hFR] at d1 d2
 obtain ⟨OB, hOB⟩ : ∃ OB, opnB = OB := ⟨_, rfl⟩
 rw [hOB] at d1
 clear hFR hOB
 dsimp only [mgK, mgB, mgV, noV, rdsS, Option.isSome, lca, lna] at c4 c5 d1 d2
 have hSR := read_0 hR hRl
 repeat' (first | refine SY ?_ | (refine KC ?_; refine HO_callP rfl rfl rfl rfl (c4) findA (trivial) rfl rfl soA ?_; intro o ho1; dsimp only [lca, lna]) | (refine KC ?_; refine HO_callP rfl rfl rfl rfl (c5 _ _) findA (srcsA) rfl rfl soA ?_; intro y hy1; dsimp only [lca, lna]) | (refine KC ?_; refine HO_callP rfl rfl rfl rfl (d1 _ _) findA (trivial) rfl rfl soA ?_; intro ⟨ya, yb, yc, yd⟩ hyd; dsimp only [lca, lna]) | (refine KC ?_; refine HO_callP rfl rfl rfl rfl (d2 _ _) findA (trivial) rfl rfl soA ?_; intro ⟨xa, xb, xc, xd⟩ hxd; dsimp only [lca, lna]) | refine S1 ?_ | (refine T2 ?_; intros) | refine S5n ?_ | fail)
 refine HC_keeps (rw' := rdsS bs ⟨R, nt0⟩ xc xd ++ msP ws w) permA ?_
 have hwl2 : (ws.map MsS.q).length = ws.length := List.length_map _
 obtain ⟨V, hVV⟩ : ∃ V, ws.map MsS.q = V := ⟨_, rfl⟩
 rw [hVV] at hSR hVk hwl2
 clear hB hwl hwl2 hV hfin d1 d2 c4 c5 hR
 have hwl2 : V.length = ws.length := by rw [← hVV, List.length_map]
 refine HC_loop (α := RdZ) (fun y => y.i ≤ ws.length ∧ SdR y.s V y.i) (fun y => [(7, pt bs), (8, .slice w.1 ws.length w.2), (17, .int .i64 (y.i : Nat))]) (fun y => rdsS bs y.s y.z y.d ++ msP ws w) (fun y => ws.length - y.i) rfl ⟨0, ⟨R, nt0⟩, xc, xd⟩ ⟨Nat.zero_le _, hSR⟩ ⟨rfl, rfl, rfl, trivial⟩ rfl ?_
 rintro ⟨i, s, z, d⟩ ⟨hi, hS⟩
 dsimp only [msP, rdsS, lca, lna] at hi hS ⊢
 have hsl := hS.l
 have hsn := hS.n
 have g7 : ws.length = (ws.map MsS.e).length := (List.length_map _).symm
 by_cases hlt : i < ws.length
 case neg =>
  obtain rfl : i = ws.length := by omega
  by_cases h12 : V.length ≤ 12
  ·have hb := hS.b h12
   rw [← hwl2, List.drop_length] at hb
   subst hb
   have hz : ((frs []).length : Int) = 0 := rfl
   repeat' (first | refine SY ?_ | refine SB ?_ | (refine T2 ?_; intros) | fail)
   (refine SRt ?_; refine RU ?_)
   rfl
  ·have h12z : (ws.length : Int) > 12 := by omega
   by_cases hz : (s.b.length : Int) = 0
   ·repeat' (first | refine SY ?_ | refine SB ?_ | (refine T2 ?_; intros) | fail)
    (refine SRt ?_; refine RU ?_)
    rfl
   ·repeat' (first | refine SY ?_ | refine SB ?_ | (refine T2 ?_; intros) | fail)
    (refine SRt ?_; refine RU ?_)
    rfl
 obtain ⟨m, hm⟩ : ∃ m, ws[i]? = some m := ⟨ws[i], List.getElem?_eq_getElem hlt⟩
 have hmem := List.mem_of_getElem? hm
 have hltz : (i : Int) < (ws.length : Int) := by omega
 have g6 : (ws.map MsS.e)[i]? = some (MsS.e m) := map_at (enc := MsS.e) hm
 have hmb := hwm m hmem
 have c9 := rsnextS_t bs s hsl hsn z d
 by_cases h12 : V.length ≤ 12
 ·obtain ⟨e1, e2⟩ := read_S hS (by omega) hVk h12
  have hVi : V[i]'(by omega) = (m.k, m.b) := by
   have h1 : V[i]? = some (m.k, m.b) := by rw [← hVV, List.getElem?_map, hm]; rfl
   exact Option.some.inj ((List.getElem?_eq_getElem (by omega)).symm.trans h1)
  rw [e1, hVi] at c9
  clear e1
  obtain ⟨FS, hFS⟩ : ∃ FS, frs (V.drop (i + 1)) = FS := ⟨_, rfl⟩
  rw [hFS] at c9 e2
  have d3 := fun A c => rsame3_t m.k m.k A m.A c m.c m.b m.b (by omega) (by omega)
  simp only [decide_true, Bool.and_self] at d3
  dsimp only [mgK, mgB, mgV, noV, rdsS, Option.isSome, lca, lna] at c9 d3
  repeat' (first | refine SY ?_ | (refine KC ?_; refine HO_callP rfl rfl rfl rfl (c9) findA (trivial) rfl rfl soA ?_; intro ⟨ya, yb, yc, yd⟩ hyd; dsimp only [lca, lna]) | (refine KC ?_; refine HO_callq rfl rfl rfl rfl (d3 _ _) (fun _ _ => rfl) ((by first | exact AllSrc.via 7 rfl own_byte (AllSrc.via 10 rfl (ms_ent hmem) trivial) | exact AllSrc.via 7 rfl own_byte (AllSrc.via 9 rfl (ms_ent hmem) trivial) | exact AllSrc.via 6 rfl own_byte (AllSrc.via 9 rfl (ms_ent hmem) trivial) | exact AllSrc.via 8 rfl own_byte (AllSrc.via 11 rfl (ms_ent hmem) trivial) | exact AllSrc.via 6 rfl own_byte (AllSrc.via 10 rfl (ms_ent hmem) trivial) | exact AllSrc.via 7 rfl own_byte (AllSrc.via 11 rfl (ms_ent hmem) trivial) | exact AllSrc.via 6 rfl own_byte (AllSrc.via 8 rfl (ms_ent hmem) trivial))) rfl rfl sqA ?_) | refine SB ?_ | (refine T2 ?_; intros) | fail)
  exact HX_atK ⟨i + 1, ⟨FS, nt0⟩, yc, yd⟩ ⟨⟨hlt, e2⟩, by show ws.length - (i + 1) < ws.length - i; omega⟩ ⟨rfl, rfl, rfl, trivial⟩ permA
 have h12z : (ws.length : Int) > 12 := by omega
 have hRL := fun mm => read_L hS h12 (m := mm)
 obtain ⟨⟨s2, om, nn⟩, hN⟩ : ∃ N, nextM s = N := ⟨_, rfl⟩
 rw [hN] at c9 hRL
 have hnx : ∀ mm, om = some mm → mm.2.length ≤ 4077 := fun mm h => by
  subst h
  have h4 := next_some (s := s) hsn (m := mm) (by rw [hN]) []
  have := (msgOk_iff.1 h4.2.2.2.2).2.2.1
  omega
 clear hN
 dsimp only at c9 hRL
 cases om with
 | none =>
  dsimp only [mgK, mgB, mgV, noV, rdsS, Option.isSome, lca, lna] at c9
  repeat' (first | refine SY ?_ | (refine KC ?_; refine HO_callP rfl rfl rfl rfl (c9) findA (trivial) rfl rfl soA ?_; intro ⟨ya, yb, yc, yd⟩ hyd; dsimp only [lca, lna]) | refine SB ?_ | (refine T2 ?_; intros) | fail)
  (refine SRt ?_; refine RU ?_)
  rfl
 | some mm =>
  have hml := hnx mm rfl
  have hR2 := hRL mm rfl
  have d3 := fun A c => rsame3_t mm.1 m.k A m.A c m.c mm.2 m.b (by omega) (by omega)
  obtain ⟨bb, hbb⟩ : ∃ bb, (decide (mm.1 = m.k) && decide (mm.2 = m.b)) = bb := ⟨_, rfl⟩
  rw [hbb] at d3
  clear hbb hnx hRL
  dsimp only [mgK, mgB, mgV, noV, rdsS, Option.isSome, lca, lna] at c9 d3
  cases bb with
  | true =>
   repeat' (first | refine SY ?_ | (refine KC ?_; refine HO_callP rfl rfl rfl rfl (c9) findA (trivial) rfl rfl soA ?_; intro ⟨ya, yb, yc, yd⟩ hyd; dsimp only [lca, lna]) | (refine KC ?_; refine HO_callq rfl rfl rfl rfl (d3 _ _) (fun _ _ => rfl) ((by first | exact AllSrc.via 7 rfl own_byte (AllSrc.via 10 rfl (ms_ent hmem) trivial) | exact AllSrc.via 7 rfl own_byte (AllSrc.via 9 rfl (ms_ent hmem) trivial) | exact AllSrc.via 6 rfl own_byte (AllSrc.via 9 rfl (ms_ent hmem) trivial) | exact AllSrc.via 8 rfl own_byte (AllSrc.via 11 rfl (ms_ent hmem) trivial) | exact AllSrc.via 6 rfl own_byte (AllSrc.via 10 rfl (ms_ent hmem) trivial) | exact AllSrc.via 7 rfl own_byte (AllSrc.via 11 rfl (ms_ent hmem) trivial) | exact AllSrc.via 6 rfl own_byte (AllSrc.via 8 rfl (ms_ent hmem) trivial))) rfl rfl sqA ?_) | refine SB ?_ | (refine T2 ?_; intros) | fail)
   exact HX_atK ⟨i + 1, s2, yc, yd⟩ ⟨⟨hlt, hR2⟩, by show ws.length - (i + 1) < ws.length - i; omega⟩ ⟨rfl, rfl, rfl, trivial⟩ permA
  | false =>
   repeat' (first | refine SY ?_ | (refine KC ?_; refine HO_callP rfl rfl rfl rfl (c9) findA (trivial) rfl rfl soA ?_; intro ⟨ya, yb, yc, yd⟩ hyd; dsimp only [lca, lna]) | (refine KC ?_; refine HO_callq rfl rfl rfl rfl (d3 _ _) (fun _ _ => rfl) ((by first | exact AllSrc.via 7 rfl own_byte (AllSrc.via 10 rfl (ms_ent hmem) trivial) | exact AllSrc.via 7 rfl own_byte (AllSrc.via 9 rfl (ms_ent hmem) trivial) | exact AllSrc.via 6 rfl own_byte (AllSrc.via 9 rfl (ms_ent hmem) trivial) | exact AllSrc.via 8 rfl own_byte (AllSrc.via 11 rfl (ms_ent hmem) trivial) | exact AllSrc.via 6 rfl own_byte (AllSrc.via 10 rfl (ms_ent hmem) trivial) | exact AllSrc.via 7 rfl own_byte (AllSrc.via 11 rfl (ms_ent hmem) trivial) | exact AllSrc.via 6 rfl own_byte (AllSrc.via 8 rfl (ms_ent hmem) trivial))) rfl rfl sqA ?_) | refine SB ?_ | (refine T2 ?_; intros) | fail)
   (refine SRt ?_; refine RU ?_)
   rfl
end Go.Proofs.YteeogabkkblkgaaGreatDoor
