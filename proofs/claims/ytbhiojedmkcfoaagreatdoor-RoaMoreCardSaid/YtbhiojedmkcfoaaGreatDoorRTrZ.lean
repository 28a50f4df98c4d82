/- Part of a proof of many texts: what the theorem at its end leans on. -/
import Derived.Test.YtbhiojedmkcfoaaGreatDoorRTrP
import Derived.Test.YtbhiojedmkcfoaaGreatDoorRTrC
import Derived.Test.YtbhiojedmkcfoaaGreatDoorRSc0
import Derived.Test.YtbhiojedmkcfoaaGreatDoorRRowM
namespace Go.Proofs.YtbhiojedmkcfoaaGreatDoor
set_option linter.unusedVariables false
set_option linter.unusedSimpArgs false
open Go.RowKit Go.Deep
attribute [local irreducible] HC HX HO Tri eP adr
def SrcOk (src : List SL) (e : SL) : Prop := (∃ e0 ∈ src, Ent e0 e) ∨ ∃ L, e = inn L ∧ ∀ f ∈ L, ∃ e0 ∈ src, Ent e0 f
theorem Tri_src {P : Program} {g : Nat} {args : List Value} {ro src rw : List SL} {α : Type} {φ : α → Prop} {val : α → Value} {es : α → List SL}
  (h : Tri P g args ro rw φ val es) (hs : ∀ e ∈ ro, SrcOk src e) : Tri P g args src rw φ val es := by
 unfold Tri at h ⊢
 exact fun w S hf => (h w S ⟨hf.fr, hf.lt, hf.sub, hf.star, fun f hm => by
  rcases hs f hm with ⟨e0, he0, hent⟩ | ⟨L, rfl, hL⟩
  ·obtain ⟨F, hF, hp⟩ := hf.ros e0 he0
   exact ⟨F, hF, hent _ _ hp⟩
  ·exact ⟨fun b => b < w.heap.size ∧ ¬ S b, fun b hb => hb, fun e he => by
    obtain ⟨e0, he0, hent⟩ := hL e he
    obtain ⟨F, hF, hp⟩ := hf.ros e0 he0
    exact ⟨F, hF, hent _ _ hp⟩⟩⟩).mono fun _ w' ⟨x, T, hx, he', hfx⟩ => ⟨x, T, hx, he', hfx.fr, hfx.lt, hfx.sub, hfx.star, fun f hm => by
  obtain ⟨F, hF, hp⟩ := hf.ros f hm
  exact ⟨F, fun b hb => ⟨Nat.lt_of_lt_of_le (hF b hb).1 hfx.fr.size, fun hT => (hfx.sub b hT).elim (hF b hb).2 (fun hge => by have := (hF b hb).1; omega)⟩, f.st F w w' (fun b hb => hfx.fr.block b (hF b hb).1 (hF b hb).2) hp⟩⟩
@[reducible] def segShp : Shp := .agg [.bool, .sl (.int .i64)]
@[reducible] def attShp : Shp := .agg [.int .i64, .sl segShp, .int .u32, .int .i64, .int .i64, .sl (.int .i64)]
def toI : Tr → Int
 | .int _ n => n
 | _ => 0
def toSeg : Tr → SegS
 | .agg [.bool b, .sl A c l] => ⟨b, A, c, l.map toI⟩
 | _ => ⟨false, none, 0, []⟩
theorem int_of {t : Tr} (h : Tr.of (.int .i64) t) : t.cells = iE (toI t) := by
 simp only [Tr.of] at h
 obtain ⟨n, rfl, hw⟩ := h
 simp [Tr.cells, iE, toI]
theorem ints_of {l : List Tr} (h : ∀ x ∈ l, Tr.of (.int .i64) x) : l.map Tr.cells = (l.map toI).map iE := by
 rw [List.map_map]
 exact List.map_congr_left fun x hx => int_of (h x hx)
theorem seg_of {t : Tr} (h : Tr.of segShp t) : t.cells = (toSeg t).e ∧ pcs segShp t = [arr idE 1 (toSeg t).A ((toSeg t).ns.map iE)] := by
 simp only [segShp, Tr.of, ofAll] at h
 obtain ⟨_, rfl, ⟨_, _, rfl, ⟨b, rfl⟩, ⟨_, _, rfl, ⟨A, c, l, rfl, _, _, _, hl⟩, rfl⟩⟩⟩ := h
 have e2 : l.flatMap (pcs (.int .i64)) = [] := List.flatMap_eq_nil_iff.2 fun x _ => by simp [pcs]
 have e := ints_of (fun x hx => by simp only [Tr.of]; exact hl x hx)
 refine ⟨by simp [Tr.cells, cellsAll, toSeg, SegS.e], ?_⟩
 simp [segShp, pcs, pcsAll, toSeg, e, e2, Shp.sz]
def mkTt (org : Int) (pA : Option Addr) (pc : Nat) (path : List Tr) (nxt med pref : Int) (cA : Option Addr) (cc : Nat) (comms : List Tr) : AttS := ⟨org, pA, pc, path.map toSeg, nxt, med, pref, cA, cc, comms.map toI⟩
theorem mkTt_e (org : Int) (pA : Option Addr) (pc : Nat) (path : List Tr) (nxt med pref : Int) (cA : Option Addr) (cc : Nat) (comms : List Tr) :
  (mkTt org pA pc path nxt med pref cA cc comms).e = [.int .i64 org, .slice pA path.length pc, .int .u32 nxt, .int .i64 med, .int .i64 pref, .slice cA comms.length cc] := by simp [mkTt, AttS.e]
theorem mkTt_src {src : List SL} {org : Int} {pA : Option Addr} {pc : Nat} {path : List Tr} {nxt med pref : Int} {cA : Option Addr} {cc : Nat} {comms : List Tr} (hp : ∀ x ∈ path, Tr.of segShp x) (hc : ∀ x ∈ comms, Tr.of (.int .i64) x)
  (h1 : arr idE 2 pA (path.map Tr.cells) ∈ src) (h2 : ∀ e ∈ path.flatMap (pcs segShp), e ∈ src) (h3 : arr idE 1 cA (comms.map Tr.cells) ∈ src) : ∀ e ∈ (mkTt org pA pc path nxt med pref cA cc comms).ro, SrcOk src e := fun e he => by
 have e1 : path.map Tr.cells = (path.map toSeg).map SegS.e := by
  rw [List.map_map]
  exact List.map_congr_left fun x hx => (seg_of (hp x hx)).1
 rw [e1] at h1
 rw [ints_of hc] at h3
 simp only [AttS.ro, mkTt, List.mem_cons, List.not_mem_nil, or_false] at he
 rcases he with rfl | rfl | rfl
 ·refine .inr ⟨_, rfl, fun f hf => ?_⟩
  obtain ⟨s, hs, rfl⟩ := List.mem_map.1 hf
  obtain ⟨t, ht, rfl⟩ := List.mem_map.1 hs
  exact ⟨_, h2 _ (List.mem_flatMap.2 ⟨t, ht, by rw [(seg_of (hp t ht)).2]; exact List.mem_singleton.2 rfl⟩), arr_typed _⟩
 ·exact .inl ⟨_, h1, arr_typed _⟩
 ·exact .inl ⟨_, h3, arr_typed _⟩
theorem SrcOk.mono {src src' : List SL} {e : SL} (h : SrcOk src e) (hs : ∀ f ∈ src, f ∈ src') : SrcOk src' e := by
 rcases h with ⟨e0, h0, he⟩ | ⟨L, rfl, hL⟩
 ·exact .inl ⟨e0, hs _ h0, he⟩
 ·exact .inr ⟨L, rfl, fun f hf => let ⟨e0, h0, he⟩ := hL f hf; ⟨e0, hs _ h0, he⟩⟩
@[reducible] def nlShp : Shp := .agg [.int .i64, .agg [.int .u32, .int .i64]]
def toNl : Tr → Nl
 | .agg [.int _ i, .agg [.int _ a, .int _ n]] => ⟨i, a.toNat, n⟩
 | _ => ⟨0, 0, 0⟩
theorem nl_of {t : Tr} (h : Tr.of nlShp t) : t.cells = (toNl t).e ∧ (toNl t).a < 4294967296 ∧ pcs nlShp t = [] := by
 simp only [nlShp, Tr.of, ofAll] at h
 obtain ⟨_, rfl, ⟨_, _, rfl, ⟨i, rfl, wi⟩, ⟨_, _, rfl, ⟨_, rfl, ⟨_, _, rfl, ⟨a, rfl, wa⟩, ⟨_, _, rfl, ⟨n, rfl, wn⟩, rfl⟩⟩⟩, rfl⟩⟩⟩ := h
 have hw := wf_u32 wa
 obtain ⟨k, rfl⟩ : ∃ k : Nat, a = k := ⟨a.toNat, by omega⟩
 refine ⟨by simp [Tr.cells, cellsAll, toNl, Nl.e], ?_, by simp [nlShp, pcs, pcsAll]⟩
 show ((k : Int)).toNat < 4294967296
 omega
theorem nls_of {l : List Tr} (h : ∀ x ∈ l, Tr.of nlShp x) : l.map Tr.cells = (l.map toNl).map Nl.e ∧ NlsOk (l.map toNl) := by
 constructor
 ·rw [List.map_map]
  exact List.map_congr_left fun x hx => (nl_of (h x hx)).1
 ·intro x hx
  obtain ⟨t, ht, rfl⟩ := List.mem_map.1 hx
  exact (nl_of (h t ht)).2.1
@[reducible] def pfShp : Shp := .agg [.int .u32, .int .i64]
@[reducible] def roaShp : Shp := .agg [.agg [.int .u32, .int .i64], .int .i64, .int .i64]
@[reducible] def updShp : Shp := .agg [.sl nlShp, .sl nlShp, attShp, .bool]
theorem att_of {t : Tr} (h : Tr.of attShp t) : ∃ a : AttS, t.cells = a.e ∧ ∀ e ∈ a.ro, SrcOk (pcs attShp t) e := by
 have h' : ∃ org pA pc path nxt med pref cA cc comms, t = .agg [.int .i64 org, .sl pA pc path, .int .u32 nxt, .int .i64 med, .int .i64 pref, .sl cA cc comms] ∧ (∀ x ∈ path, Tr.of segShp x) ∧ ∀ x ∈ comms, Tr.of (.int .i64) x := by
  unfold attShp at h
  rw [Tr.of] at h
  obtain ⟨l, rfl, h⟩ := h
  rw [ofAll] at h
  obtain ⟨t1, l1, rfl, h1, h⟩ := h
  rw [ofAll] at h
  obtain ⟨t2, l2, rfl, h2, h⟩ := h
  rw [ofAll] at h
  obtain ⟨t3, l3, rfl, h3, h⟩ := h
  rw [ofAll] at h
  obtain ⟨t4, l4, rfl, h4, h⟩ := h
  rw [ofAll] at h
  obtain ⟨t5, l5, rfl, h5, h⟩ := h
  rw [ofAll] at h
  obtain ⟨t6, l6, rfl, h6, h⟩ := h
  rw [ofAll] at h
  subst h
  unfold Tr.of at h1 h2 h3 h4 h5 h6
  obtain ⟨org, rfl, _⟩ := h1
  obtain ⟨pA, pc, path, rfl, _, _, _, hp⟩ := h2
  obtain ⟨nxt, rfl, _⟩ := h3
  obtain ⟨med, rfl, _⟩ := h4
  obtain ⟨pref, rfl, _⟩ := h5
  obtain ⟨cA, cc, comms, rfl, _, _, _, hc⟩ := h6
  exact ⟨org, pA, pc, path, nxt, med, pref, cA, cc, comms, rfl, hp, hc⟩
 obtain ⟨org, pA, pc, path, nxt, med, pref, cA, cc, comms, rfl, hp, hc⟩ := h'
 refine ⟨mkTt org pA pc path nxt med pref cA cc comms, by rw [mkTt_e]; simp [Tr.cells, cellsAll], mkTt_src hp hc ?_ (fun e he => ?_) ?_⟩
 ·simp [pcs, pcsAll, Shp.sz, szAll]
 ·simp only [attShp, pcs, pcsAll, List.append_nil, List.nil_append, List.cons_append, List.mem_cons, List.mem_append]
  exact .inr (.inl he)
 ·simp [pcs, pcsAll, Shp.sz, szAll]
theorem pf_of {t : Tr} (h : Tr.of pfShp t) : ∃ (a : Nat) (n : Int), t.val = pfV a n ∧ a < 4294967296 := by
 simp only [pfShp, Tr.of, ofAll] at h
 obtain ⟨_, rfl, ⟨_, _, rfl, ⟨a, rfl, wa⟩, ⟨_, _, rfl, ⟨n, rfl, _⟩, rfl⟩⟩⟩ := h
 have h1 := wf_u32 wa
 refine ⟨a.toNat, n, ?_, by omega⟩
 have h2 : ((a.toNat : Nat) : Int) = a := by omega
 simp [Tr.val, Tr.cells, cellsAll, pfV, h2]
def toRoa : Tr → RoQ
 | .agg [.agg [.int _ a, .int _ n], .int _ m, .int _ s] => ⟨a.toNat, n, m, s⟩
 | _ => ⟨0, 0, 0, 0⟩
theorem roa_of {t : Tr} (h : Tr.of roaShp t) : t.cells = (toRoa t).e ∧ t.val = .agg (toRoa t).e.toArray ∧ (toRoa t).a < 4294967296 := by
 simp only [roaShp, Tr.of, ofAll] at h
 obtain ⟨_, rfl, ⟨_, _, rfl, ⟨_, rfl, ⟨_, _, rfl, ⟨a, rfl, wa⟩, ⟨_, _, rfl, ⟨n, rfl, _⟩, rfl⟩⟩⟩, ⟨_, _, rfl, ⟨k, rfl, _⟩, ⟨_, _, rfl, ⟨s, rfl, _⟩, rfl⟩⟩⟩⟩ := h
 have h1 := wf_u32 wa
 have h2 : ((a.toNat : Nat) : Int) = a := by omega
 refine ⟨?_, ?_, by show a.toNat < 4294967296; omega⟩
 ·simp [Tr.cells, cellsAll, toRoa, RoQ.e, h2]
 ·simp [Tr.val, Tr.cells, cellsAll, toRoa, RoQ.e, h2]
theorem roas_of {t : Tr} (h : Tr.of (.sl roaShp) t) : ∃ (A : Option Addr) (c : Nat) (l : List Tr), t = .sl A c l ∧ t.val = .slice A (l.map toRoa).length c ∧ (∀ x ∈ l.map toRoa, x.a < 4294967296) ∧ SrcOk (pcs (.sl roaShp) t) (arr RoQ.e 4 A (l.map toRoa)) := by
 rw [Tr.of] at h
 obtain ⟨A, c, l, rfl, _, _, _, hx⟩ := h
 have e : l.map Tr.cells = (l.map toRoa).map RoQ.e := by
  rw [List.map_map]
  exact List.map_congr_left fun x hx' => (roa_of (hx x hx')).1
 refine ⟨A, c, l, rfl, by simp [Tr.val], fun x hx' => ?_, .inl ⟨arr idE 4 A (l.map Tr.cells), ?_, by rw [e]; exact arr_typed _⟩⟩
 ·obtain ⟨y, hy, rfl⟩ := List.mem_map.1 hx'
  exact (roa_of (hx y hy)).2.2
 ·simp [pcs, Shp.sz, szAll]
theorem upd_of {t : Tr} (h : Tr.of updShp t) : ∃ u : UpS, t.val = .agg u.e.toArray ∧ NlsOk u.gone ∧ NlsOk u.routes ∧ ∀ e ∈ u.ro, SrcOk (pcs updShp t) e := by
 have h' : ∃ gA gc gone rA rc routes ta sf, t = .agg [.sl gA gc gone, .sl rA rc routes, ta, .bool sf] ∧ (∀ x ∈ gone, Tr.of nlShp x) ∧ (∀ x ∈ routes, Tr.of nlShp x) ∧ Tr.of attShp ta := by
  unfold updShp at h
  rw [Tr.of] at h
  obtain ⟨l, rfl, h⟩ := h
  rw [ofAll] at h
  obtain ⟨t1, l1, rfl, h1, h⟩ := h
  rw [ofAll] at h
  obtain ⟨t2, l2, rfl, h2, h⟩ := h
  rw [ofAll] at h
  obtain ⟨t3, l3, rfl, h3, h⟩ := h
  rw [ofAll] at h
  obtain ⟨t4, l4, rfl, h4, h⟩ := h
  rw [ofAll] at h
  subst h
  unfold Tr.of at h1 h2 h4
  obtain ⟨gA, gc, gone, rfl, _, _, _, hg⟩ := h1
  obtain ⟨rA, rc, routes, rfl, _, _, _, hr⟩ := h2
  obtain ⟨sf, rfl⟩ := h4
  exact ⟨gA, gc, gone, rA, rc, routes, t3, sf, rfl, hg, hr, h3⟩
 obtain ⟨gA, gc, gone, rA, rc, routes, ta, sf, rfl, hg, hr, h3⟩ := h'
 obtain ⟨a, a1, a2⟩ := att_of h3
 obtain ⟨g1, g2⟩ := nls_of hg
 obtain ⟨r1, r2⟩ := nls_of hr
 refine ⟨⟨gA, gc, gone.map toNl, rA, rc, routes.map toNl, a, sf⟩, ?_, g2, r2, fun e he => ?_⟩
 ·simp [Tr.val, Tr.cells, cellsAll, UpS.e, a1, AttS.e]
 ·have hp : pcs updShp (.agg [.sl gA gc gone, .sl rA rc routes, ta, .bool sf]) = arr idE 3 gA (gone.map Tr.cells) :: gone.flatMap (pcs nlShp) ++ (arr idE 3 rA (routes.map Tr.cells) :: routes.flatMap (pcs nlShp) ++ pcs attShp ta) := by
   simp only [updShp, pcs, pcsAll, List.append_nil]
   rfl
  rw [hp]
  rcases List.mem_cons.1 he with rfl | he
  ·exact .inl ⟨arr idE 3 gA (gone.map Tr.cells), by simp, by rw [g1]; exact arr_typed _⟩
  rcases List.mem_cons.1 he with rfl | he
  ·exact .inl ⟨arr idE 3 rA (routes.map Tr.cells), by simp, by rw [r1]; exact arr_typed _⟩
  ·exact (a2 e he).mono fun f hf => List.mem_append.2 (.inr (List.mem_append.2 (.inr hf)))
theorem rowStates {f : Nat} {ro0 : List SL} {l : List Tr} (hl : ofAll [.sl roaShp, pfShp, attShp] l)
  (h : ∀ (A : Option Addr) (c : Nat) (l : List RoQ), (∀ x ∈ l, x.a < 4294967296) → ∀ a : Nat, a < 4294967296 → ∀ (n : Int) (at_ : AttS), Tri Tryz.prog f [.slice A l.length c, pfV a n, .agg at_.e.toArray] (ro0 ++ (arr RoQ.e 4 A l :: at_.ro)) [] (fun _ : Unit => True) (fun _ => .bool true) (fun _ => [])) :
  Tri Tryz.prog f (l.map Tr.val) (ro0 ++ pcsAll [.sl roaShp, pfShp, attShp] l) [] (fun _ : Unit => True) (fun _ => .bool true) (fun _ => []) := by
 rw [ofAll] at hl
 obtain ⟨t1, l1, rfl, h1, hl⟩ := hl
 rw [ofAll] at hl
 obtain ⟨t2, l2, rfl, h2, hl⟩ := hl
 rw [ofAll] at hl
 obtain ⟨t3, l3, rfl, h3, hl⟩ := hl
 rw [ofAll] at hl
 subst hl
 obtain ⟨A, c, l, rfl, s1, s2, s3⟩ := roas_of h1
 obtain ⟨a, n, p1, p2⟩ := pf_of h2
 obtain ⟨at_, u1, u2⟩ := att_of h3
 have u0 : t3.val = .agg at_.e.toArray := by
  have h3' := h3
  rw [attShp, Tr.of] at h3'
  obtain ⟨l, rfl, _⟩ := h3'
  rw [← u1]
  simp [Tr.val, Tr.cells]
 have := h A c _ s2 a p2 n at_
 simp only [List.map_cons, List.map_nil, s1, p1, u0]
 refine Tri_src this fun e he => ?_
 simp only [pcsAll, List.append_nil]
 rcases List.mem_append.1 he with he | he
 ·exact .inl ⟨e, List.mem_append.2 (.inl he), Ent.rfl_⟩
 rcases List.mem_cons.1 he with rfl | he
 ·exact s3.mono fun f hf => List.mem_append.2 (.inr (List.mem_append.2 (.inl hf)))
 ·exact (u2 e he).mono fun f hf => List.mem_append.2 (.inr (List.mem_append.2 (.inr (List.mem_append.2 (.inr hf)))))
theorem rowFilters {f : Nat} {ro0 : List SL} {l : List Tr} (hl : ofAll [.sl roaShp, updShp] l)
  (h : ∀ (A : Option Addr) (c : Nat) (l : List RoQ), (∀ x ∈ l, x.a < 4294967296) → ∀ u : UpS, NlsOk u.routes → Tri Tryz.prog f [.slice A l.length c, .agg u.e.toArray] (ro0 ++ (arr RoQ.e 4 A l :: u.ro)) [] (fun _ : Unit => True) (fun _ => .bool true) (fun _ => [])) :
  Tri Tryz.prog f (l.map Tr.val) (ro0 ++ pcsAll [.sl roaShp, updShp] l) [] (fun _ : Unit => True) (fun _ => .bool true) (fun _ => []) := by
 rw [ofAll] at hl
 obtain ⟨t1, l1, rfl, h1, hl⟩ := hl
 rw [ofAll] at hl
 obtain ⟨t2, l2, rfl, h2, hl⟩ := hl
 rw [ofAll] at hl
 subst hl
 obtain ⟨A, c, l, rfl, s1, s2, s3⟩ := roas_of h1
 obtain ⟨u, u0, _, u1, u2⟩ := upd_of h2
 have := h A c _ s2 u u1
 simp only [List.map_cons, List.map_nil, s1, u0]
 refine Tri_src this fun e he => ?_
 simp only [pcsAll, List.append_nil]
 rcases List.mem_append.1 he with he | he
 ·exact .inl ⟨e, List.mem_append.2 (.inl he), Ent.rfl_⟩
 rcases List.mem_cons.1 he with rfl | he
 ·exact s3.mono fun f hf => List.mem_append.2 (.inr (List.mem_append.2 (.inl hf)))
 ·exact (u2 e he).mono fun f hf => List.mem_append.2 (.inr (List.mem_append.2 (.inr hf)))
theorem rowMore {f : Nat} {ro0 : List SL} {l : List Tr} {H : Type} {ds : List (DataW H)} {T1 T2 T3 T4 : TypeId} (hl : ofAll [.sl roaShp, roaShp, pfShp, attShp] l) (hr : relAll l ds)
  (hw : ∃ X, (DataW.weightsEach Tryz.prog ([T1, T2, T3, T4] ++ X) ds).all (· ≤ reachBytes) = true) (hT : Tryz.prog.underlying T1 = some (.slice 73))
  (h : ∀ (A : Option Addr) (c : Nat) (l : List RoQ), l.length * 32 ≤ 140737488351232 → (∀ x ∈ l, x.a < 4294967296) → ∀ x : RoQ, x.a < 4294967296 → ∀ a : Nat, a < 4294967296 → ∀ (n : Int) (at_ : AttS), Tri Tryz.prog f [.slice A l.length c, .agg x.e.toArray, pfV a n, .agg at_.e.toArray] (ro0 ++ (arr RoQ.e 4 A l :: at_.ro)) [] (fun _ : Unit => True) (fun _ => .bool true) (fun _ => [])) :
  Tri Tryz.prog f (l.map Tr.val) (ro0 ++ pcsAll [.sl roaShp, roaShp, pfShp, attShp] l) [] (fun _ : Unit => True) (fun _ => .bool true) (fun _ => []) := by
 rw [ofAll] at hl
 obtain ⟨t1, l1, rfl, h1, hl⟩ := hl
 rw [ofAll] at hl
 obtain ⟨t4, l4, rfl, h4, hl⟩ := hl
 rw [ofAll] at hl
 obtain ⟨t2, l2, rfl, h2, hl⟩ := hl
 rw [ofAll] at hl
 obtain ⟨t3, l3, rfl, h3, hl⟩ := hl
 rw [ofAll] at hl
 subst hl
 obtain ⟨A, c, l, rfl, s1, s2, s3⟩ := roas_of h1
 obtain ⟨a, n, p1, p2⟩ := pf_of h2
 obtain ⟨at_, u1, u2⟩ := att_of h3
 obtain ⟨_, x1, x2⟩ := roa_of h4
 have u0 : t3.val = .agg at_.e.toArray := by
  have h3' := h3
  rw [attShp, Tr.of] at h3'
  obtain ⟨l, rfl, _⟩ := h3'
  rw [← u1]
  simp [Tr.val, Tr.cells]
 have hn : (l.map toRoa).length * 32 ≤ 140737488351232 := by
  rcases ds with _ | ⟨d1, r⟩
  ·exact absurd hr (by simp [relAll])
  ·have hr1 : rel _ d1 := (by simpa [relAll] using hr : _ ∧ _).1
   obtain ⟨X, hw⟩ := hw
   simp only [List.cons_append, DataW.weightsEach, List.all_append, Bool.and_eq_true] at hw
   have := sl_fits hT hr1 hw.1
   rw [show Tryz.prog.bytesOf 73 = 32 by kernel_rfl] at this
   rw [List.length_map]
   exact this
 have := h A c _ hn s2 _ x2 a p2 n at_
 simp only [List.map_cons, List.map_nil, s1, p1, u0, x1]
 refine Tri_src this fun e he => ?_
 simp only [pcsAll, List.append_nil]
 rcases List.mem_append.1 he with he | he
 ·exact .inl ⟨e, List.mem_append.2 (.inl he), Ent.rfl_⟩
 rcases List.mem_cons.1 he with rfl | he
 ·exact s3.mono fun f hf => List.mem_append.2 (.inr (List.mem_append.2 (.inl hf)))
 ·exact (u2 e he).mono fun f hf => List.mem_append.2 (.inr (List.mem_append.2 (.inr (List.mem_append.2 (.inr (List.mem_append.2 (.inr hf)))))))
end Go.Proofs.YtbhiojedmkcfoaaGreatDoor
