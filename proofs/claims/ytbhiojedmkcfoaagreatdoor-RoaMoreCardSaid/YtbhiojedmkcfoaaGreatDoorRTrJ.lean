/- Part of a proof of many texts: what the theorem at its end leans on. -/
import Derived.Test.YtbhiojedmkcfoaaGreatDoorRTrH
namespace Go.Proofs.YtbhiojedmkcfoaaGreatDoor
set_option linter.unusedVariables false
set_option linter.unusedSimpArgs false
open Go.RowKit
attribute [local irreducible] HC HX HO Tri eP adr
set_option maxHeartbeats 1000000000 in
theorem wrong_t (pA : Option Addr) (b2 b3 : Nat) (u : UpS) (roT : List SL) (x : Nl) (s : Int)
  (hst : Tri Tryz.prog 34 [.pointer pA, pfV x.a x.n, .agg u.a.e.toArray] (u.a.ro ++ roT) [] (fun _ : Unit => True) (fun _ => .int .i64 s) (fun _ => [])) :
  Tri Tryz.prog 105 (.agg x.e.toArray :: [pt b2, pt b3]) (cel b2 54 [.pointer pA] :: cel b3 66 u.e :: (u.a.ro ++ roT)) [] (fun _ : Unit => True) (fun _ => .bool (decide (s = 3))) (fun _ => []) := by
 unfold pfV at hst
 dsimp only [Nl.e, UpS.e, AttS.e, AttS.ro, lca, lna] at hst ⊢
 refine Tri_of (N := Tryz.f105.ntmps) (c := bodyOf Tryz.f105) Tryz.func105 rfl rfl rfl rfl (fun w0 S0 => ?_)
 repeat' (first | refine SW ?_ | refine SD ?_ | (refine HO_k 12 rfl ?_; refine HO_callq rfl rfl rfl rfl (hst) (fun _ _ => rfl) ((AllSrc.at_ 2 rfl (AllSrc.at_ 3 rfl (AllSrc.at_ 4 rfl (AllSrc.of fun f hf => ⟨f, List.mem_append.2 (.inl (.tail _ (.tail _ (.tail _ (.tail _ (.tail _ hf)))))), Ent.rfl_⟩))))) rfl rfl sqA ?_) | exact HO_seg rfl rfl | refine S1 ?_ | (refine S2 ?_; intro _) | (refine S3 ?_; intro _ _) | (refine S4 ?_; intro _ _ _) | (refine HO_g 2 rfl ?_; first | apply HO_a1 rfl | apply HO_o1 rfl) | refine S5 ?_ | (intro hb; try replace hb := simB hb; try exact kill hb))
 (refine SRt ?_; unfold RetQ; refine ⟨(), trivial, ?_, Keeps.nil⟩)
 rfl
theorem outn_seg (l : List SegS) : Ent (outn (l.map segOw)) (inn (segPs l)) := fun S w h f hf => by
 obtain ⟨s, hs, rfl⟩ := List.mem_map.1 hf
 obtain ⟨F, hF, hp⟩ := outn_mem h (segOw s) (List.mem_map.2 ⟨s, hs, rfl⟩)
 exact ⟨F, hF, own_e (enc := iE) _ _ hp⟩
def att00 : AttS := ⟨0, none, 0, [], 0, 0, 0, none, 0, []⟩
def flU (u : UpS) (wr : Nl → Bool) (y : OA) (z : (OA × OA × OA × OA) × List SegS) : UpS :=
 ⟨y.1, y.2, u.gone ++ u.routes.filter wr, z.1.2.1.1, z.1.2.1.2, keptF wr u.routes, if keptF wr u.routes = [] ∧ u.routes ≠ [] then att00 else (cpU u z).a, u.soft⟩
theorem filter_snoc {α : Type} {p : α → Bool} {l : List α} {j : Nat} {x : α} (h : l[j]? = some x) : (l.take (j + 1)).filter p = if p x = true then (l.take j).filter p ++ [x] else (l.take j).filter p := by
 rw [take_snoc h, List.filter_append]
 cases hp : p x <;> simp [hp]
set_option maxHeartbeats 1000000000 in
theorem filter_t (pA : Option Addr) (u : UpS) (hu : UpL u) (roT : List SL) (st : Nl → Int)
  (hst : ∀ x ∈ u.routes, Tri Tryz.prog 34 [.pointer pA, pfV x.a x.n, .agg u.a.e.toArray] (u.a.ro ++ roT) [] (fun _ : Unit => True) (fun _ => .int .i64 (st x)) (fun _ => [])) :
  Tri Tryz.prog 38 [.pointer pA, .agg u.e.toArray] (u.ro ++ roT) [] (fun yz : OA × ((OA × OA × OA × OA) × List SegS) => yz.2.2.map segQ = u.a.path.map segQ)
   (fun yz => .agg (flU u (fun x => decide (st x = 3)) yz.1 yz.2).e.toArray) (fun yz => (flU u (fun x => decide (st x = 3)) yz.1 yz.2).ro) := by
 have c1 := copy_t u hu
 have hL := hu.r
 have hG := hu.g
 have cW := fun b2 b3 x hx => wrong_t pA b2 b3 u roT x (st x) (hst x hx)
 have cD := fun b2 b3 A c => delete_t A c u.routes hL 105 [pt b2, pt b3] (cel b2 54 [.pointer pA] :: cel b3 66 u.e :: (u.a.ro ++ roT)) (fun x => decide (st x = 3)) (fun x hx => cW b2 b3 x hx)
 obtain ⟨wr, hwr⟩ : ∃ wr : Nl → Bool, (fun x => decide (st x = 3)) = wr := ⟨_, rfl⟩
 have cW2 : ∀ b2 b3 x, x ∈ u.routes → Tri Tryz.prog 105 (.agg x.e.toArray :: [pt b2, pt b3]) (cel b2 54 [.pointer pA] :: cel b3 66 u.e :: (u.a.ro ++ roT)) [] (fun _ : Unit => True) (fun _ => .bool (wr x)) (fun _ => []) := fun b2 b3 x hx => by
  rw [← hwr]
  exact cW b2 b3 x hx
 rw [hwr] at cD ⊢
 clear cW hwr hst
 dsimp only [cpU, cpP, UpS.e, UpS.ro, AttS.ro, lca, lna] at c1 cD cW2 ⊢
 refine Tri_of (N := Tryz.f38.ntmps) (c := bodyOf Tryz.f38) Tryz.func38 rfl rfl rfl rfl (fun w0 S0 => ?_)
 repeat' (first | refine SW ?_ | refine SD ?_ | (refine HO_k 12 rfl ?_; refine HO_call rfl rfl rfl rfl (c1) rfl ((AllSrc.at_ 0 rfl (AllSrc.at_ 1 rfl (AllSrc.at_ 2 rfl (AllSrc.at_ 3 rfl (AllSrc.at_ 4 rfl trivial)))))) rfl rfl soA ?_; intro z hz; dsimp only [lca, lna]) | (refine HO_k 12 rfl ?_; refine HO_mv 1 rfl rfl ?_; refine HO_call rfl rfl rfl rfl (cD _ _ _ _) rfl ((AllSrc.mem_ (by simp only [List.mem_cons, List.mem_append, List.cons_append, List.nil_append, true_or, or_true, eq_self]) (AllSrc.mem_ (by simp only [List.mem_cons, List.mem_append, List.cons_append, List.nil_append, true_or, or_true, eq_self]) (AllSrc.mem_ (by simp only [List.mem_cons, List.mem_append, List.cons_append, List.nil_append, true_or, or_true, eq_self]) (AllSrc.mem_ (by simp only [List.mem_cons, List.mem_append, List.cons_append, List.nil_append, true_or, or_true, eq_self]) (AllSrc.mem_ (by simp only [List.mem_cons, List.mem_append, List.cons_append, List.nil_append, true_or, or_true, eq_self]) (AllSrc.of fun f hf => ⟨f, (by simp only [List.mem_cons, List.mem_append, List.cons_append, List.nil_append, hf, true_or, or_true]), Ent.rfl_⟩))))))) rfl rfl soA ?_; intro y hy; dsimp only [lca, lna]) | exact HO_seg rfl rfl | refine S1 ?_ | (refine S2 ?_; intro _) | (refine S3 ?_; intro _ _) | (refine S4 ?_; intro _ _ _) | (refine HO_g 2 rfl ?_; first | apply HO_a1 rfl | apply HO_o1 rfl) | refine S5 ?_ | (intro hb; try replace hb := simB hb; try exact kill hb))
 rename_i b2 b3 b4 b5
 clear c1 cD
 refine HC_keeps (rw' := [own idE 151 3 z.1.1.1 u.gone.length z.1.1.2 (u.gone.map Nl.e), cel b5 66 [.slice z.1.1.1 u.gone.length z.1.1.2, .slice z.1.2.1.1 (keptF wr u.routes).length z.1.2.1.2, .int .i64 u.a.org, .slice z.1.2.2.2.1 z.2.length z.1.2.2.2.2, .int .u32 u.a.nxt, .int .i64 u.a.med, .int .i64 u.a.pref, .slice z.1.2.2.1.1 u.a.comms.length z.1.2.2.1.2, .bool u.soft], own idE 151 3 z.1.2.1.1 (keptF wr u.routes).length z.1.2.1.2 ((keptF wr u.routes).map Nl.e), own idE 3 1 z.1.2.2.1.1 u.a.comms.length z.1.2.2.1.2 (u.a.comms.map iE), own idE 146 2 z.1.2.2.2.1 z.2.length z.1.2.2.2.2 (z.2.map SegS.e), outn (z.2.map segOw), cel b4 66 [.slice none 0 0, .slice none 0 0, .int .i64 0, .slice none 0 0, .int .u32 0, .int .i64 0, .int .i64 0, .slice none 0 0, .bool false], cel b3 66 [.slice u.gA u.gone.length u.gc, .slice u.rA u.routes.length u.rc, .int .i64 u.a.org, .slice u.a.pA u.a.path.length u.a.pc, .int .u32 u.a.nxt, .int .i64 u.a.med, .int .i64 u.a.pref, .slice u.a.cA u.a.comms.length u.a.cc, .bool u.soft], cel b2 54 [.pointer pA]]) permA ?_
 refine HC_loop (α := Nat × OA) (fun y => y.1 ≤ u.routes.length) (fun y => [(20, .int .i64 y.1), (19, .int .i64 u.routes.length), (18, .slice u.rA u.routes.length u.rc), (6, .func (.func 105) #[] #[pt b2, pt b3]), (5, pt b5), (4, pt b4), (3, pt b3)])
  (fun y => [own idE 151 3 y.2.1 (u.gone ++ (u.routes.take y.1).filter wr).length y.2.2 ((u.gone ++ (u.routes.take y.1).filter wr).map Nl.e), cel b5 66 [.slice y.2.1 (u.gone ++ (u.routes.take y.1).filter wr).length y.2.2, .slice z.1.2.1.1 (keptF wr u.routes).length z.1.2.1.2, .int .i64 u.a.org, .slice z.1.2.2.2.1 z.2.length z.1.2.2.2.2, .int .u32 u.a.nxt, .int .i64 u.a.med, .int .i64 u.a.pref, .slice z.1.2.2.1.1 u.a.comms.length z.1.2.2.1.2, .bool u.soft], own idE 151 3 z.1.2.1.1 (keptF wr u.routes).length z.1.2.1.2 ((keptF wr u.routes).map Nl.e), own idE 3 1 z.1.2.2.1.1 u.a.comms.length z.1.2.2.1.2 (u.a.comms.map iE), own idE 146 2 z.1.2.2.2.1 z.2.length z.1.2.2.2.2 (z.2.map SegS.e), outn (z.2.map segOw), cel b4 66 [.slice none 0 0, .slice none 0 0, .int .i64 0, .slice none 0 0, .int .u32 0, .int .i64 0, .int .i64 0, .slice none 0 0, .bool false], cel b3 66 [.slice u.gA u.gone.length u.gc, .slice u.rA u.routes.length u.rc, .int .i64 u.a.org, .slice u.a.pA u.a.path.length u.a.pc, .int .u32 u.a.nxt, .int .i64 u.a.med, .int .i64 u.a.pref, .slice u.a.cA u.a.comms.length u.a.cc, .bool u.soft], cel b2 54 [.pointer pA]]) (fun y => u.routes.length - y.1) rfl (0, z.1.1) (Nat.zero_le _) ⟨rfl, rfl, rfl, rfl, rfl, rfl, rfl, trivial⟩ (by simp only [List.take_zero, List.filter_nil, List.append_nil]) ?_
 rintro ⟨i, y⟩ hi
 dsimp only at hi ⊢
 have hGl : (u.gone ++ (u.routes.take i).filter wr).length ≤ 2000000 := by
  rw [List.length_append]
  have h1 := List.length_filter_le wr (u.routes.take i)
  rw [List.length_take] at h1
  omega
 rcases Nat.lt_or_ge i u.routes.length with hlt | hge
 ·obtain ⟨x, hx⟩ : ∃ x, u.routes[i]? = some x := ⟨u.routes[i], List.getElem?_eq_getElem hlt⟩
  have cW := cW2 b2 b3 x (List.mem_of_getElem? hx)
  have hfs := filter_snoc (p := wr) hx
  obtain ⟨G, hG2⟩ : ∃ G, u.gone ++ (u.routes.take i).filter wr = G := ⟨_, rfl⟩
  rw [hG2] at hGl ⊢
  clear cW2
  cases hw : wr x with
  | false =>
   rw [hw] at cW hfs
   simp only [Bool.false_eq_true, if_false] at hfs
   have hG3 : u.gone ++ (u.routes.take (i + 1)).filter wr = G := by rw [hfs]; exact hG2
   repeat' (first | refine SW ?_ | refine SD ?_ | (refine HO_k 12 rfl ?_; refine HO_callq rfl rfl rfl rfl (cW) (fun _ _ => rfl) ((AllSrc.mem_ (by simp only [List.mem_cons, List.mem_append, List.cons_append, List.nil_append, true_or, or_true, eq_self]) (AllSrc.mem_ (by simp only [List.mem_cons, List.mem_append, List.cons_append, List.nil_append, true_or, or_true, eq_self]) (AllSrc.mem_ (by simp only [List.mem_cons, List.mem_append, List.cons_append, List.nil_append, true_or, or_true, eq_self]) (AllSrc.mem_ (by simp only [List.mem_cons, List.mem_append, List.cons_append, List.nil_append, true_or, or_true, eq_self]) (AllSrc.mem_ (by simp only [List.mem_cons, List.mem_append, List.cons_append, List.nil_append, true_or, or_true, eq_self]) (AllSrc.of fun f hf => ⟨f, (by simp only [List.mem_cons, List.mem_append, List.cons_append, List.nil_append, hf, true_or, or_true]), Ent.rfl_⟩))))))) rfl rfl sqA ?_) | exact HO_seg rfl rfl | refine S1 ?_ | (refine S2 ?_; intro _) | (refine S3 ?_; intro _ _) | (refine S4 ?_; intro _ _ _) | (refine HO_g 2 rfl ?_; first | apply HO_a1 rfl | apply HO_o1 rfl) | refine S5 ?_ | (intro hb; try replace hb := simB hb; try exact kill hb))
   refine HX_keeps (rw' := [own idE 151 3 y.1 G.length y.2 (G.map Nl.e), cel b5 66 [.slice y.1 G.length y.2, .slice z.1.2.1.1 (keptF wr u.routes).length z.1.2.1.2, .int .i64 u.a.org, .slice z.1.2.2.2.1 z.2.length z.1.2.2.2.2, .int .u32 u.a.nxt, .int .i64 u.a.med, .int .i64 u.a.pref, .slice z.1.2.2.1.1 u.a.comms.length z.1.2.2.1.2, .bool u.soft], own idE 151 3 z.1.2.1.1 (keptF wr u.routes).length z.1.2.1.2 ((keptF wr u.routes).map Nl.e), own idE 3 1 z.1.2.2.1.1 u.a.comms.length z.1.2.2.1.2 (u.a.comms.map iE), own idE 146 2 z.1.2.2.2.1 z.2.length z.1.2.2.2.2 (z.2.map SegS.e), outn (z.2.map segOw), cel b4 66 [.slice none 0 0, .slice none 0 0, .int .i64 0, .slice none 0 0, .int .u32 0, .int .i64 0, .int .i64 0, .slice none 0 0, .bool false], cel b3 66 [.slice u.gA u.gone.length u.gc, .slice u.rA u.routes.length u.rc, .int .i64 u.a.org, .slice u.a.pA u.a.path.length u.a.pc, .int .u32 u.a.nxt, .int .i64 u.a.med, .int .i64 u.a.pref, .slice u.a.cA u.a.comms.length u.a.cc, .bool u.soft], cel b2 54 [.pointer pA]]) permA ?_
   exact HX_at (i + 1, y) ⟨hlt, by show u.routes.length - (i + 1) < u.routes.length - i; omega⟩ ⟨rfl, rfl, rfl, rfl, rfl, rfl, rfl, trivial⟩ (by dsimp only; rw [hG3])
  | true =>
   rw [hw] at cW hfs
   simp only [if_true] at hfs
   have hG3 : u.gone ++ (u.routes.take (i + 1)).filter wr = G ++ [x] := by rw [hfs, ← List.append_assoc, hG2]
   have hG4 : G.length + 1 = (G ++ [x]).length := by simp
   repeat' (first | refine SW ?_ | refine SD ?_ | (refine HO_k 12 rfl ?_; refine HO_callq rfl rfl rfl rfl (cW) (fun _ _ => rfl) ((AllSrc.mem_ (by simp only [List.mem_cons, List.mem_append, List.cons_append, List.nil_append, true_or, or_true, eq_self]) (AllSrc.mem_ (by simp only [List.mem_cons, List.mem_append, List.cons_append, List.nil_append, true_or, or_true, eq_self]) (AllSrc.mem_ (by simp only [List.mem_cons, List.mem_append, List.cons_append, List.nil_append, true_or, or_true, eq_self]) (AllSrc.mem_ (by simp only [List.mem_cons, List.mem_append, List.cons_append, List.nil_append, true_or, or_true, eq_self]) (AllSrc.mem_ (by simp only [List.mem_cons, List.mem_append, List.cons_append, List.nil_append, true_or, or_true, eq_self]) (AllSrc.of fun f hf => ⟨f, (by simp only [List.mem_cons, List.mem_append, List.cons_append, List.nil_append, hf, true_or, or_true]), Ent.rfl_⟩))))))) rfl rfl sqA ?_) | (refine HO_k 11 rfl ?_; refine HO_appw rfl rfl rfl rfl rfl rfl rfl rfl ?h1 ?h2 rfl rfl ?h3 ?h4 rfl rfl rfl ?h5 ?_; (case h1 => simp only [List.length_append, List.length_map, List.length_cons, List.length_nil, be_length]); (case h2 => repeat (first | exact WfL.nil | exact WfL.map | apply WfL.append | refine WfL.cons rfl rfl ?_ | assumption)); (case h3 => (try simp only [List.length_append, List.length_map, List.length_cons, List.length_nil, be_length]); (try omega)); (case h4 => (try simp only [List.length_append, List.length_map, List.length_cons, List.length_nil, be_length]); (try omega)); (case h5 => exact soA); intro _ _) | exact HO_seg rfl rfl | refine S1 ?_ | (refine S2 ?_; intro _) | (refine S3 ?_; intro _ _) | (refine S4 ?_; intro _ _ _) | (refine HO_g 2 rfl ?_; first | apply HO_a1 rfl | apply HO_o1 rfl) | refine S5 ?_ | (intro hb; try replace hb := simB hb; try exact kill hb))
   rename_i b8 b9 A' c'
   have hGm : List.map Nl.e G ++ [[Value.int .i64 x.i, .int .u32 x.a, .int .i64 x.n]] = List.map Nl.e (G ++ [x]) := by simp [Nl.e]
   rw [hG4, hGm]
   refine HX_keeps (rw' := [own idE 151 3 (A', c').1 (G ++ [x]).length (A', c').2 ((G ++ [x]).map Nl.e), cel b5 66 [.slice (A', c').1 (G ++ [x]).length (A', c').2, .slice z.1.2.1.1 (keptF wr u.routes).length z.1.2.1.2, .int .i64 u.a.org, .slice z.1.2.2.2.1 z.2.length z.1.2.2.2.2, .int .u32 u.a.nxt, .int .i64 u.a.med, .int .i64 u.a.pref, .slice z.1.2.2.1.1 u.a.comms.length z.1.2.2.1.2, .bool u.soft], own idE 151 3 z.1.2.1.1 (keptF wr u.routes).length z.1.2.1.2 ((keptF wr u.routes).map Nl.e), own idE 3 1 z.1.2.2.1.1 u.a.comms.length z.1.2.2.1.2 (u.a.comms.map iE), own idE 146 2 z.1.2.2.2.1 z.2.length z.1.2.2.2.2 (z.2.map SegS.e), outn (z.2.map segOw), cel b4 66 [.slice none 0 0, .slice none 0 0, .int .i64 0, .slice none 0 0, .int .u32 0, .int .i64 0, .int .i64 0, .slice none 0 0, .bool false], cel b3 66 [.slice u.gA u.gone.length u.gc, .slice u.rA u.routes.length u.rc, .int .i64 u.a.org, .slice u.a.pA u.a.path.length u.a.pc, .int .u32 u.a.nxt, .int .i64 u.a.med, .int .i64 u.a.pref, .slice u.a.cA u.a.comms.length u.a.cc, .bool u.soft], cel b2 54 [.pointer pA]]) permA ?_
   exact HX_at (i + 1, (A', c')) ⟨hlt, by show u.routes.length - (i + 1) < u.routes.length - i; omega⟩ ⟨rfl, rfl, rfl, rfl, rfl, rfl, rfl, trivial⟩ (by dsimp only; rw [hG3])
 ·obtain rfl : i = u.routes.length := by omega
  rw [List.take_length] at hGl ⊢
  clear cW2
  rcases Nat.eq_zero_or_pos (keptF wr u.routes).length with hk | hk
  ·have hkz : ((keptF wr u.routes).length : Int) = 0 := by omega
   rcases Nat.eq_zero_or_pos u.routes.length with hr | hr
   ·have hfl : flU u wr y z = ⟨y.1, y.2, u.gone ++ u.routes.filter wr, z.1.2.1.1, z.1.2.1.2, keptF wr u.routes, (cpU u z).a, u.soft⟩ := by
     unfold flU
     rw [if_neg (fun h => h.2 (List.length_eq_zero_iff.1 hr))]
    have hrz : ¬ (0 : Int) < (u.routes.length : Int) := by omega
    repeat' (first | refine SW ?_ | ((refine HO_g 2 rfl ?_); (refine HO_skip rfl rfl rfl rfl rdA ?_)) | refine SD ?_ | exact HO_seg rfl rfl | refine S1 ?_ | (refine S2 ?_; intro _) | (refine S3 ?_; intro _ _) | (refine S4 ?_; intro _ _ _) | (refine HO_g 2 rfl ?_; first | apply HO_a1 rfl | apply HO_o1 rfl) | refine S5 ?_ | (intro hb; try replace hb := simB hb; try exact kill hb))
    ((first | apply HX_ret | apply HX_retn); (repeat (first | exact Res_nil | apply Res_tmp rfl | apply Res_ce rfl rfl rfl)); unfold RetQ)
    refine ⟨(y, z), hz, ?_, ?_⟩
    ·show tupV _ = Value.agg (flU u wr y z).e.toArray
     rw [hfl]
     rfl
    ·show Keeps _ (flU u wr y z).ro
     rw [hfl]
     exact (Keeps.pickE 0 rfl rfl own_e (Keeps.pickE 1 rfl rfl own_e (Keeps.pickE 3 rfl rfl (outn_seg z.2) (Keeps.pickE 2 rfl rfl own_e (Keeps.pickE 1 rfl rfl own_e Keeps.nil)))))
   ·have hfl : flU u wr y z = ⟨y.1, y.2, u.gone ++ u.routes.filter wr, z.1.2.1.1, z.1.2.1.2, keptF wr u.routes, att00, u.soft⟩ := by
     unfold flU
     rw [if_pos ⟨List.length_eq_zero_iff.1 hk, fun h => by rw [h] at hr; exact Nat.lt_irrefl _ hr⟩]
    have hrz : (0 : Int) < (u.routes.length : Int) := by omega
    repeat' (first | refine SW ?_ | ((refine HO_g 2 rfl ?_); (refine HO_skip rfl rfl rfl rfl rdA ?_)) | refine SD ?_ | exact HO_seg rfl rfl | refine S1 ?_ | (refine S2 ?_; intro _) | (refine S3 ?_; intro _ _) | (refine S4 ?_; intro _ _ _) | (refine HO_g 2 rfl ?_; first | apply HO_a1 rfl | apply HO_o1 rfl) | refine S5 ?_ | (intro hb; try replace hb := simB hb; try exact kill hb))
    ((first | apply HX_ret | apply HX_retn); (repeat (first | exact Res_nil | apply Res_tmp rfl | apply Res_ce rfl rfl rfl)); unfold RetQ)
    refine ⟨(y, z), hz, ?_, ?_⟩
    ·show tupV _ = Value.agg (flU u wr y z).e.toArray
     rw [hfl]
     rfl
    ·show Keeps _ (flU u wr y z).ro
     rw [hfl]
     exact (Keeps.pickE 0 rfl rfl own_e (Keeps.pickE 1 rfl rfl own_e (Keeps.add inn_nil (Keeps.add (fun w => arr_nil _ w) (Keeps.add (fun w => arr_nil _ w) Keeps.nil)))))
  ·have hfl : flU u wr y z = ⟨y.1, y.2, u.gone ++ u.routes.filter wr, z.1.2.1.1, z.1.2.1.2, keptF wr u.routes, (cpU u z).a, u.soft⟩ := by
    unfold flU
    rw [if_neg (fun h => by rw [h.1] at hk; exact Nat.lt_irrefl _ hk)]
   have hkz : ¬ ((keptF wr u.routes).length : Int) = 0 := by omega
   repeat' (first | refine SW ?_ | ((refine HO_g 2 rfl ?_); (refine HO_skip rfl rfl rfl rfl rdA ?_)) | refine SD ?_ | exact HO_seg rfl rfl | refine S1 ?_ | (refine S2 ?_; intro _) | (refine S3 ?_; intro _ _) | (refine S4 ?_; intro _ _ _) | (refine HO_g 2 rfl ?_; first | apply HO_a1 rfl | apply HO_o1 rfl) | refine S5 ?_ | (intro hb; try replace hb := simB hb; try exact kill hb))
   ((first | apply HX_ret | apply HX_retn); (repeat (first | exact Res_nil | apply Res_tmp rfl | apply Res_ce rfl rfl rfl)); unfold RetQ)
   refine ⟨(y, z), hz, ?_, ?_⟩
   ·show tupV _ = Value.agg (flU u wr y z).e.toArray
    rw [hfl]
    rfl
   ·show Keeps _ (flU u wr y z).ro
    rw [hfl]
    exact (Keeps.pickE 0 rfl rfl own_e (Keeps.pickE 1 rfl rfl own_e (Keeps.pickE 3 rfl rfl (outn_seg z.2) (Keeps.pickE 2 rfl rfl own_e (Keeps.pickE 1 rfl rfl own_e Keeps.nil)))))
end Go.Proofs.YtbhiojedmkcfoaaGreatDoor
