/- Part of a proof of many texts: what the theorem at its end leans on. -/
import Derived.Test.YtbhiojedmkcfoaaGreatDoorZCgZ
import Derived.Test.YtbhiojedmkcfoaaGreatDoorZScE
namespace Go.Proofs.YtbhiojedmkcfoaaGreatDoor
set_option linter.unusedVariables false
set_option linter.unusedSimpArgs false
open Go.RowKit
attribute [local irreducible] HC HX HO Tri eP adr
def SrcOk (src : List SL) (e : SL) : Prop := (∃ e0 ∈ src, Ent e0 e) ∨ ∃ L, e = inn L ∧ ∀ f ∈ L, ∃ e0 ∈ src, Ent e0 f
theorem SrcOk.mono {src src' : List SL} {e : SL} (h : SrcOk src e) (hs : ∀ f ∈ src, f ∈ src') : SrcOk src' e := by
 rcases h with ⟨e0, h0, he⟩ | ⟨L, rfl, hL⟩
 ·exact .inl ⟨e0, hs _ h0, he⟩
 ·exact .inr ⟨L, rfl, fun f hf => let ⟨e0, h0, he⟩ := hL f hf; ⟨e0, hs _ h0, he⟩⟩
theorem Tri_src {P : Program} {g : Nat} {args : List Value} {ro src rw : List SL} {α : Type} {φ : α → Prop} {val : α → Value} {es : α → List SL}
  (h : Tri P g args ro rw φ val es) (hs : ∀ e ∈ ro, SrcOk src e) : Tri P g args src rw φ val es := by
 unfold Tri at h ⊢
 exact fun w S hf => (h w S ⟨hf.fr, hf.lt, hf.sub, hf.star, fun f hm => by
  rcases hs f hm with ⟨e0, he0, hent⟩ | ⟨L, rfl, hL⟩
  ·obtain ⟨F, hF, hp⟩ := hf.ros e0 he0
   exact ⟨F, hF, hent _ _ hp⟩
  ·exact ⟨fun b => b < w.heap.size ∧ ¬ S b, fun b hb => hb, fun e he => by
    obtain ⟨e0, he0, hent⟩ := hL e he
    obtain ⟨F, hF, hp⟩ := hf.ros e0 he0
    exact ⟨F, hF, hent _ _ hp⟩⟩⟩).mono fun _ w' ⟨x, T, hx, he', hfx⟩ => ⟨x, T, hx, he', hfx.fr, hfx.lt, hfx.sub, hfx.star, fun f hm => by
  obtain ⟨F, hF, hp⟩ := hf.ros f hm
  exact ⟨F, fun b hb => ⟨Nat.lt_of_lt_of_le (hF b hb).1 hfx.fr.size, fun hT => (hfx.sub b hT).elim (hF b hb).2 (fun hge => by have := (hF b hb).1; omega)⟩, f.st F w w' (fun b hb => hfx.fr.block b (hF b hb).1 (hF b hb).2) hp⟩⟩
@[reducible] def cntShp : Shp := .agg [.agg [.int .u32, .int .i64], .int .i64]
@[reducible] def carShp : Shp := .agg [.int .i64, .int .i64, .bool]
@[reducible] def doShp : Shp := .agg [.int .i64, .int .i64, .int .i64, .sl (.int .u8), .agg [.int .i64, .int .i64, .sl cntShp], .agg [.int .i64, .int .i64, .sl carShp]]
@[reducible] def scShp : Shp := .agg [confShp, .sl doShp]
def toCnt : Tr → CntQ
 | .agg [.agg [.int _ a, .int _ n], .int _ k] => ⟨a.toNat, n, k⟩
 | _ => ⟨0, 0, 0⟩
def toCar : Tr → CarQ
 | .agg [.int _ i, .int _ c, .bool d] => ⟨i, c, d⟩
 | _ => ⟨0, 0, false⟩
def toB8 : Tr → UInt8
 | .int _ n => UInt8.ofNat n.toNat
 | _ => 0
def toDo : Tr → DoS
 | .agg [.int _ k, .int _ r, .int _ n, .sl dA dc dl, .agg [.int _ cs, .int _ cq, .sl cA cc cl], .agg [.int _ rs, .int _ rq, .sl rA rc rl]] => ⟨⟨k, r, n, dl.map toB8, cs, cq, cl.map toCnt, rs, rq, rl.map toCar⟩, dA, dc, cA, cc, rA, rc⟩
 | _ => ⟨do0, none, 0, none, 0, none, 0⟩
theorem byte8_of {t : Tr} (h : Tr.of (.int .u8) t) : t.cells = bE (toB8 t) := by
 simp only [Tr.of] at h
 obtain ⟨n, rfl, hw⟩ := h
 have h1 : 0 ≤ n ∧ n ≤ 255 := wf_u8 hw
 have : ((n.toNat % 256 : Nat) : Int) = n := by omega
 simp [Tr.cells, bE, toB8, this]
theorem bytes8_of {l : List Tr} (h : ∀ x ∈ l, Tr.of (.int .u8) x) : l.map Tr.cells = (l.map toB8).map bE := by
 rw [List.map_map]
 exact List.map_congr_left fun x hx => byte8_of (h x hx)
theorem cnt_of {t : Tr} (h : Tr.of cntShp t) : t.cells = (toCnt t).e ∧ (toCnt t).a < 4294967296 := by
 simp only [cntShp, Tr.of, ofAll] at h
 obtain ⟨_, rfl, ⟨_, _, rfl, ⟨_, rfl, ⟨_, _, rfl, ⟨a, rfl, wa⟩, ⟨_, _, rfl, ⟨n, rfl, _⟩, rfl⟩⟩⟩, ⟨_, _, rfl, ⟨k, rfl, _⟩, rfl⟩⟩⟩ := h
 have h1 := wf_u32 wa
 refine ⟨?_, by show a.toNat < 4294967296; omega⟩
 have h2 : ((a.toNat : Nat) : Int) = a := by omega
 simp [Tr.cells, cellsAll, toCnt, CntQ.e, h2]
theorem cnts_of {l : List Tr} (h : ∀ x ∈ l, Tr.of cntShp x) : l.map Tr.cells = (l.map toCnt).map CntQ.e := by
 rw [List.map_map]
 exact List.map_congr_left fun x hx => (cnt_of (h x hx)).1
theorem car_of {t : Tr} (h : Tr.of carShp t) : t.cells = (toCar t).e := by
 simp only [carShp, Tr.of, ofAll] at h
 obtain ⟨_, rfl, ⟨_, _, rfl, ⟨i, rfl, _⟩, ⟨_, _, rfl, ⟨c, rfl, _⟩, ⟨_, _, rfl, ⟨d, rfl⟩, rfl⟩⟩⟩⟩ := h
 simp [Tr.cells, cellsAll, toCar, CarQ.e]
theorem cars_of {l : List Tr} (h : ∀ x ∈ l, Tr.of carShp x) : l.map Tr.cells = (l.map toCar).map CarQ.e := by
 rw [List.map_map]
 exact List.map_congr_left fun x hx => car_of (h x hx)
def DoV (d : DoQ) : Prop := DoR d ∧ ∀ c ∈ d.cl, c.a < 4294967296
theorem do_of {t : Tr} (h : Tr.of doShp t) : t.cells = (toDo t).e ∧ DoV (toDo t).q ∧ ∀ e ∈ (toDo t).ro, ∃ e0 ∈ pcs doShp t, Ent e0 e := by
 have hS := @Tr.of.eq_def
 simp only [doShp, Tr.of, ofAll] at h
 obtain ⟨_, rfl, ⟨_, _, rfl, ⟨k, rfl, _⟩, ⟨_, _, rfl, ⟨r, rfl, _⟩, ⟨_, _, rfl, ⟨n, rfl, _⟩, ⟨_, _, rfl, ⟨dA, dc, dl, rfl, _, _, _, hd⟩, ⟨_, _, rfl, ⟨_, rfl, ⟨_, _, rfl, ⟨cs, rfl, wcs⟩, ⟨_, _, rfl, ⟨cq, rfl, wcq⟩, ⟨_, _, rfl, ⟨cA, cc, cl, rfl, _, _, _, hc⟩, rfl⟩⟩⟩⟩, ⟨_, _, rfl, ⟨_, rfl, ⟨_, _, rfl, ⟨rs, rfl, wrs⟩, ⟨_, _, rfl, ⟨rq, rfl, wrq⟩, ⟨_, _, rfl, ⟨rA, rc, rl, rfl, _, _, _, hr⟩, rfl⟩⟩⟩⟩, rfl⟩⟩⟩⟩⟩⟩⟩ := h
 have hd' : ∀ x ∈ dl, Tr.of (.int .u8) x := fun x hx => by simp only [Tr.of]; exact hd x hx
 have hc' : ∀ x ∈ cl, Tr.of cntShp x := fun x hx => by simp only [cntShp, Tr.of, ofAll]; exact hc x hx
 have hr' : ∀ x ∈ rl, Tr.of carShp x := fun x hx => by simp only [carShp, Tr.of, ofAll]; exact hr x hx
 have e1 := bytes8_of hd'
 have e2 := cnts_of hc'
 have e3 := cars_of hr'
 refine ⟨by simp [Tr.cells, cellsAll, toDo, DoS.e], ⟨⟨wf_i64 wcs, wf_i64 wcq, wf_i64 wrs, wf_i64 wrq⟩, fun c hm => ?_⟩, fun e he => ?_⟩
 ·obtain ⟨x, hx, rfl⟩ := List.mem_map.1 hm
  exact (cnt_of (hc' x hx)).2
 ·simp only [DoS.ro, toDo, List.mem_cons, List.not_mem_nil, or_false] at he
  rcases he with rfl | rfl | rfl
  ·refine ⟨arr idE 1 dA (dl.map Tr.cells), ?_, by rw [e1]; exact arr_typed _⟩
   simp [pcs, pcsAll, Shp.sz, szAll]
  ·refine ⟨arr idE 3 cA (cl.map Tr.cells), ?_, by rw [e2]; exact arr_typed _⟩
   simp [pcs, pcsAll, Shp.sz, szAll]
  ·refine ⟨arr idE 3 rA (rl.map Tr.cells), ?_, by rw [e3]; exact arr_typed _⟩
   simp [pcs, pcsAll, Shp.sz, szAll]
theorem dos_of {l : List Tr} (h : ∀ x ∈ l, Tr.of doShp x) : l.map Tr.cells = (l.map toDo).map DoS.e := by
 rw [List.map_map]
 exact List.map_congr_left fun x hx => (do_of (h x hx)).1
def ScV (s : ScS) : Prop := CfW s.c.q ∧ ∀ d ∈ s.l, DoV d.q
theorem conf_of {t : Tr} (h : Tr.of confShp t) : ∃ c : CfS, t.cells = c.e ∧ CfW c.q ∧ ∀ e ∈ c.ro, ∃ e0 ∈ pcs confShp t, Ent e0 e := by
 simp only [confShp, ifShp, Tr.of, ofAll] at h
 obtain ⟨_, rfl, ⟨_, _, rfl, ⟨xas, rfl, w_xas⟩, ⟨_, _, rfl, ⟨xid, rfl, w_xid⟩, ⟨_, _, rfl, ⟨xhold, rfl, w_xhold⟩, ⟨_, _, rfl, ⟨xretry, rfl, w_xretry⟩, ⟨_, _, rfl, ⟨xrouters, rfl, w_xrouters⟩, ⟨_, _, rfl, ⟨xcounts, rfl, w_xcounts⟩, ⟨_, _, rfl, ⟨xcarries, rfl, w_xcarries⟩, ⟨_, _, rfl, ⟨xifsA, xifsc, xifs, rfl, xifs_n, xifs_c, xifs_m, xifs_w⟩, ⟨_, _, rfl, ⟨xhigh, rfl, w_xhigh⟩, ⟨_, _, rfl, ⟨xlow, rfl, w_xlow⟩, ⟨_, _, rfl, ⟨xmoves, rfl, w_xmoves⟩, ⟨_, _, rfl, ⟨xcycle, rfl, w_xcycle⟩, ⟨_, _, rfl, ⟨xstale, rfl, w_xstale⟩, ⟨_, _, rfl, ⟨xwarm, rfl, w_xwarm⟩, ⟨_, _, rfl, ⟨xexpire, rfl, w_xexpire⟩, ⟨_, _, rfl, ⟨xpref, rfl, w_xpref⟩, ⟨_, _, rfl, ⟨xlonger, rfl, w_xlonger⟩, ⟨_, _, rfl, ⟨xdenyA, xdenyc, xdeny, rfl, xdeny_n, xdeny_c, xdeny_m, xdeny_w⟩, ⟨_, _, rfl, ⟨xroutes, rfl, w_xroutes⟩, ⟨_, _, rfl, ⟨xqueue, rfl, w_xqueue⟩, rfl⟩⟩⟩⟩⟩⟩⟩⟩⟩⟩⟩⟩⟩⟩⟩⟩⟩⟩⟩⟩⟩ := h
 have xI : ∀ x ∈ xifs, Tr.of ifShp x := fun x hx => by simp only [ifShp, Tr.of, ofAll]; exact xifs_w x hx
 have xD : ∀ x ∈ xdeny, Tr.of (.int .i64) x := fun x hx => by simp only [Tr.of]; exact xdeny_w x hx
 refine ⟨mkC xas xid xhold xretry xrouters xcounts xcarries xifsA xifsc xifs xhigh xlow xmoves xcycle xstale xwarm xexpire xpref xlonger xdenyA xdenyc xdeny xroutes xqueue, ?_, mkC_w xI w_xid, mkC_ro xI xD⟩
 have h1 := wf_u32 w_xid
 have h2 : ((xid.toNat : Nat) : Int) = xid := by omega
 simp [cellsAll, Tr.cells, mkC, CfS.e, num, h2]
theorem sc_of {t : Tr} (h : Tr.of scShp t) : ∃ s : ScS, t.val = .agg s.e.toArray ∧ ScV s ∧ ∀ e ∈ s.ro, SrcOk (pcs scShp t) e := by
 have h' : ∃ t1 A c l, t = .agg [t1, .sl A c l] ∧ Tr.of confShp t1 ∧ ∀ x ∈ l, Tr.of doShp x := by
  unfold scShp at h
  rw [Tr.of] at h
  obtain ⟨l, rfl, hl⟩ := h
  rw [ofAll] at hl
  obtain ⟨t1, l1, rfl, h1, hl⟩ := hl
  rw [ofAll] at hl
  obtain ⟨t2, l2, rfl, h2, hl⟩ := hl
  rw [ofAll] at hl
  subst hl
  rw [Tr.of] at h2
  obtain ⟨A, c, l, rfl, _, _, _, hx⟩ := h2
  exact ⟨t1, A, c, l, rfl, h1, hx⟩
 obtain ⟨t1, A, c, l, rfl, h1, hl⟩ := h'
 obtain ⟨cf, c1, c2, c3⟩ := conf_of h1
 have e1 := dos_of hl
 refine ⟨⟨cf, A, c, l.map toDo⟩, ?_, ⟨c2, fun d hd => ?_⟩, fun e he => ?_⟩
 ·simp [Tr.val, cellsAll, Tr.cells, c1, ScS.e]
 ·obtain ⟨x, hx, rfl⟩ := List.mem_map.1 hd
  exact (do_of (hl x hx)).2.1
 ·have hp : pcs scShp (.agg [t1, .sl A c l]) = pcs confShp t1 ++ (arr idE 10 A (l.map Tr.cells) :: l.flatMap (pcs doShp)) := by
   simp only [scShp, pcs, pcsAll, List.append_nil]
   rfl
  rw [hp]
  simp only [ScS.ro, List.mem_cons, List.not_mem_nil, or_false] at he
  rcases he with rfl | rfl | rfl | rfl
  ·obtain ⟨e0, h0, h2⟩ := c3 (arr IfQ.e 5 cf.iA cf.q.ifs) (by simp [CfS.ro])
   exact .inl ⟨e0, List.mem_append.2 (.inl h0), h2⟩
  ·obtain ⟨e0, h0, h2⟩ := c3 (arr iE 1 cf.dA cf.q.deny) (by simp [CfS.ro])
   exact .inl ⟨e0, List.mem_append.2 (.inl h0), h2⟩
  ·exact .inl ⟨arr idE 10 A (l.map Tr.cells), by simp, by rw [e1]; exact arr_typed _⟩
  ·refine .inr ⟨_, rfl, fun f hf => ?_⟩
   obtain ⟨d, hd, hf⟩ := List.mem_flatMap.1 hf
   obtain ⟨x, hx, rfl⟩ := List.mem_map.1 hd
   obtain ⟨e0, h0, h2⟩ := (do_of (hl x hx)).2.2 f hf
   exact ⟨e0, List.mem_append.2 (.inr (List.mem_cons_of_mem _ (List.mem_flatMap.2 ⟨x, hx, h0⟩))), h2⟩
theorem do1_of {t : Tr} (h : Tr.of doShp t) : ∃ d : DoS, t.val = .agg d.e.toArray ∧ DoV d.q ∧ ∀ e ∈ d.ro, SrcOk (pcs doShp t) e := by
 obtain ⟨h1, h2, h3⟩ := do_of h
 refine ⟨toDo t, ?_, h2, fun e he => .inl (h3 e he)⟩
 have h' := h
 simp only [doShp, Tr.of] at h'
 obtain ⟨l, rfl, _⟩ := h'
 rw [← h1]
 simp [Tr.val, Tr.cells]
theorem rowS2 {f : Nat} {ro0 : List SL} {l : List Tr} (hl : ofAll [scShp, scShp] l) (h : ∀ s t : ScS, ScV s → ScV t → Tri Tryz.prog f [.agg s.e.toArray, .agg t.e.toArray] (ro0 ++ (s.ro ++ t.ro)) [] (fun _ : Unit => True) (fun _ => .bool true) (fun _ => [])) :
  Tri Tryz.prog f (l.map Tr.val) (ro0 ++ pcsAll [scShp, scShp] l) [] (fun _ : Unit => True) (fun _ => .bool true) (fun _ => []) := by
 rw [ofAll] at hl
 obtain ⟨t1, l1, rfl, h1, hl⟩ := hl
 rw [ofAll] at hl
 obtain ⟨t2, l2, rfl, h2, hl⟩ := hl
 rw [ofAll] at hl
 subst hl
 obtain ⟨s, s1, s2, s3⟩ := sc_of h1
 obtain ⟨t, u1, u2, u3⟩ := sc_of h2
 have := h s t s2 u2
 simp only [List.map_cons, List.map_nil, s1, u1]
 refine Tri_src this fun e he => ?_
 simp only [pcsAll, List.append_nil]
 rcases List.mem_append.1 he with he | he
 ·exact .inl ⟨e, List.mem_append.2 (.inl he), Ent.rfl_⟩
 rcases List.mem_append.1 he with he | he
 ·exact (s3 e he).mono fun f hf => List.mem_append.2 (.inr (List.mem_append.2 (.inl hf)))
 ·exact (u3 e he).mono fun f hf => List.mem_append.2 (.inr (List.mem_append.2 (.inr hf)))
theorem rowSD {f : Nat} {ro0 : List SL} {l : List Tr} (hl : ofAll [scShp, doShp] l) (h : ∀ (s : ScS) (d : DoS), ScV s → DoV d.q → Tri Tryz.prog f [.agg s.e.toArray, .agg d.e.toArray] (ro0 ++ (s.ro ++ d.ro)) [] (fun _ : Unit => True) (fun _ => .bool true) (fun _ => [])) :
  Tri Tryz.prog f (l.map Tr.val) (ro0 ++ pcsAll [scShp, doShp] l) [] (fun _ : Unit => True) (fun _ => .bool true) (fun _ => []) := by
 rw [ofAll] at hl
 obtain ⟨t1, l1, rfl, h1, hl⟩ := hl
 rw [ofAll] at hl
 obtain ⟨t2, l2, rfl, h2, hl⟩ := hl
 rw [ofAll] at hl
 subst hl
 obtain ⟨s, s1, s2, s3⟩ := sc_of h1
 obtain ⟨t, u1, u2, u3⟩ := do1_of h2
 have := h s t s2 u2
 simp only [List.map_cons, List.map_nil, s1, u1]
 refine Tri_src this fun e he => ?_
 simp only [pcsAll, List.append_nil]
 rcases List.mem_append.1 he with he | he
 ·exact .inl ⟨e, List.mem_append.2 (.inl he), Ent.rfl_⟩
 rcases List.mem_append.1 he with he | he
 ·exact (s3 e he).mono fun f hf => List.mem_append.2 (.inr (List.mem_append.2 (.inl hf)))
 ·exact (u3 e he).mono fun f hf => List.mem_append.2 (.inr (List.mem_append.2 (.inr hf)))
theorem rowB {f : Nat} {ro0 : List SL} {l : List Tr} (hl : ofAll [.sl (.int .u8)] l) (h : ∀ (A : Option Addr) (c : Nat) (b : List UInt8), b.length ≤ c → Tri Tryz.prog f [.slice A b.length c] (ro0 ++ [arr bE 1 A b]) [] (fun _ : Unit => True) (fun _ => .bool true) (fun _ => [])) :
  Tri Tryz.prog f (l.map Tr.val) (ro0 ++ pcsAll [.sl (.int .u8)] l) [] (fun _ : Unit => True) (fun _ => .bool true) (fun _ => []) := by
 rw [ofAll] at hl
 obtain ⟨t1, l1, rfl, h1, hl⟩ := hl
 rw [ofAll] at hl
 subst hl
 rw [Tr.of] at h1
 obtain ⟨A, c, x, rfl, q1, q2, q3, hx⟩ := h1
 have e := bytes8_of hx
 have := h A c (x.map toB8) (by rw [List.length_map]; exact q2)
 rw [List.length_map] at this
 simp only [List.map_cons, List.map_nil, Tr.val]
 refine Tri_src this fun f hf => ?_
 rcases List.mem_append.1 hf with hf | hf
 ·exact .inl ⟨f, List.mem_append.2 (.inl hf), Ent.rfl_⟩
 ·have := List.mem_singleton.1 hf
  subst this
  refine .inl ⟨arr idE 1 A (x.map Tr.cells), List.mem_append.2 (.inr ?_), by rw [e]; exact arr_typed _⟩
  simp [pcsAll, pcs, Shp.sz]
end Go.Proofs.YtbhiojedmkcfoaaGreatDoor
