/- Part of a proof of many texts: what the theorem at its end leans on. -/
import Derived.Test.YtbhiojedmkcfoaaGreatDoorRTrY
import Derived.Test.YtbhiojedmkcfoaaGreatDoorRTrG
namespace Go.Proofs.YtbhiojedmkcfoaaGreatDoor
set_option linter.unusedVariables false
set_option linter.unusedSimpArgs false
open Go.RowKit
attribute [local irreducible] HC HX HO Tri eP adr
def frU (u : UpS) (wr : Nl → Bool) (y z : OA) : UpS :=
 ⟨y.1, y.2, u.gone ++ u.routes.filter wr, z.1, z.2, keptF wr u.routes, if keptF wr u.routes = [] ∧ u.routes ≠ [] then att00 else u.a, u.soft⟩
set_option maxHeartbeats 1000000000 in
theorem rfilter_t (A : Option Addr) (c : Nat) (l : List RoQ) (hl : l.length ≤ 1000000) (hla : ∀ x ∈ l, x.a < 4294967296) (u : UpS) (hu : UpL u) (hN : NlsOk u.routes) :
  Tri Tryz.prog 39 [.slice A l.length c, .agg u.e.toArray] (arr RoQ.e 4 A l :: u.ro) [] (fun _ : OA × OA => True)
   (fun yz => .agg (frU u (fun x => decide (stQ l x.a x.n (lastQ u.a) = 3)) yz.1 yz.2).e.toArray)
   (fun yz => [arr Nl.e 3 yz.1.1 (frU u (fun x => decide (stQ l x.a x.n (lastQ u.a) = 3)) yz.1 yz.2).gone, arr Nl.e 3 yz.2.1 (frU u (fun x => decide (stQ l x.a x.n (lastQ u.a) = 3)) yz.1 yz.2).routes]) := by
 have c1 := fun (x : Nl) (hx : x ∈ u.routes) => rstate_t A c l hl hla x.a (hN x hx) x.n u.a hu.p
 have hL := hu.r
 have hG := hu.g
 obtain ⟨st, hst⟩ : ∃ st : Nl → Int, (fun x : Nl => stQ l x.a x.n (lastQ u.a)) = st := ⟨_, rfl⟩
 have hst2 : ∀ x : Nl, stQ l x.a x.n (lastQ u.a) = st x := fun x => congrFun hst x
 simp only [hst2] at c1 ⊢
 clear hst hst2
 obtain ⟨wr, hwr⟩ : ∃ wr : Nl → Bool, (fun x => decide (st x = 3)) = wr := ⟨_, rfl⟩
 have hw2 : ∀ x : Nl, decide (st x = 3) = wr x := fun x => congrFun hwr x
 rw [hwr]
 unfold pfV at c1
 have eL : 0 + u.gone.length = u.gone.length := Nat.zero_add _
 have hmap : [] ++ List.map Nl.e u.gone = List.map Nl.e u.gone := rfl
 dsimp only [UpS.e, UpS.ro, AttS.e, AttS.ro, lca, lna] at c1 ⊢
 refine Tri_of (N := Tryz.f39.ntmps) (c := bodyOf Tryz.f39) Tryz.func39 rfl rfl rfl rfl (fun w0 S0 => ?_)
 repeat' (first | refine SW ?_ | refine SD ?_ | exact HO_seg rfl rfl | refine S1 ?_ | (refine S2 ?_; intro _) | (refine S3 ?_; intro _ _) | (refine S4 ?_; intro _ _ _) | (refine HO_g 2 rfl ?_; first | apply HO_a1 rfl | apply HO_o1 rfl) | refine S5n ?_ | (intro hb; try replace hb := simB hb; try exact kill hb))
 rename_i b3 b4
 refine HC_cutP (α := Nat × OA) (fun _ => True) (fun z => [(5, pt z.1), (4, pt b4), (3, pt b3), (0, .slice A l.length c)]) (fun z => [own idE 151 3 z.2.1 u.gone.length z.2.2 (u.gone.map Nl.e), cel z.1 66 [.slice z.2.1 u.gone.length z.2.2, .slice none 0 0, .int .i64 u.a.org, .slice u.a.pA u.a.path.length u.a.pc, .int .u32 u.a.nxt, .int .i64 u.a.med, .int .i64 u.a.pref, .slice u.a.cA u.a.comms.length u.a.cc, .bool u.soft], cel b4 66 [.slice none 0 0, .slice none 0 0, .int .i64 0, .slice none 0 0, .int .u32 0, .int .i64 0, .int .i64 0, .slice none 0 0, .bool false], cel b3 66 [.slice u.gA u.gone.length u.gc, .slice u.rA u.routes.length u.rc, .int .i64 u.a.org, .slice u.a.pA u.a.path.length u.a.pc, .int .u32 u.a.nxt, .int .i64 u.a.med, .int .i64 u.a.pref, .slice u.a.cA u.a.comms.length u.a.cc, .bool u.soft]]) ?_ ?_
 ·repeat' (first | refine SW ?_ | (refine HC_lex rfl rfl (by decide +kernel) rfl rfl ?_) | refine SD ?_ | (first | refine HO_2p 0 9 (by decide +kernel) rfl rfl (by decide +kernel) ?_ ?_ | refine HO_2p 3 9 (by decide +kernel) rfl rfl (by decide +kernel) ?_ ?_) | (refine HO_k 11 rfl ?_; refine HO_appw rfl rfl rfl rfl rfl rfl rfl rfl ?h1 ?h2 rfl rfl ?h3 ?h4 rfl rfl rfl ?h5 ?_; (case h1 => simp only [List.length_append, List.length_map, List.length_cons, List.length_nil, be_length]); (case h2 => repeat (first | exact WfL.nil | exact WfL.map | apply WfL.append | refine WfL.cons rfl rfl ?_ | assumption)); (case h3 => (try simp only [List.length_append, List.length_map, List.length_cons, List.length_nil, be_length]); (try omega)); (case h4 => (try simp only [List.length_append, List.length_map, List.length_cons, List.length_nil, be_length]); (try omega)); (case h5 => exact soA); intro _ _) | (refine HO_k 11 rfl ?_; refine HO_appr rfl rfl rfl rfl rfl rfl rfl rfl ?h1 ?h2 rfl rfl ?h3 ?h4 rfl rfl rfl ?h5 ?_; (case h1 => simp only [List.length_append, List.length_map, List.length_cons, List.length_nil, be_length]); (case h2 => repeat (first | exact WfL.nil | exact WfL.map | apply WfL.append | refine WfL.cons rfl rfl ?_ | assumption)); (case h3 => (try simp only [List.length_append, List.length_map, List.length_cons, List.length_nil, be_length]); (try omega)); (case h4 => (try simp only [List.length_append, List.length_map, List.length_cons, List.length_nil, be_length]); (try omega)); (case h5 => exact soA); intro _ _) | exact HO_seg rfl rfl | refine S1 ?_ | (refine S2 ?_; intro _) | (refine S3 ?_; intro _ _) | (refine S4 ?_; intro _ _ _) | (refine HO_g 2 rfl ?_; first | apply HO_a1 rfl | apply HO_o1 rfl) | refine S5 ?_ | (intro hb; try replace hb := simB hb; try exact kill hb))
  all_goals
   rw [eL]
   first
    | (rename_i A2 c2 b9; exact HX_keeps permA (HX_at (b9, A2, c2) trivial ⟨rfl, rfl, rfl, rfl, trivial⟩ rfl))
    | (rename_i b9 A2 c2; exact HX_keeps permA (HX_at (b9, A2, c2) trivial ⟨rfl, rfl, rfl, rfl, trivial⟩ rfl))
    | (rename_i b9 bs A2 c2; exact HX_keeps permA (HX_at (b9, A2, c2) trivial ⟨rfl, rfl, rfl, rfl, trivial⟩ rfl))
 rintro ⟨b5, A1, c1'⟩ -
 dsimp only
 refine HC_keeps (rw' := [own idE 151 3 none (([] : List Nl)).length 0 ((([] : List Nl)).map Nl.e), own idE 151 3 A1 (u.gone).length c1' ((u.gone).map Nl.e), cel b5 66 [.slice A1 (u.gone).length c1', .slice none (([] : List Nl)).length 0, .int .i64 u.a.org, .slice u.a.pA u.a.path.length u.a.pc, .int .u32 u.a.nxt, .int .i64 u.a.med, .int .i64 u.a.pref, .slice u.a.cA u.a.comms.length u.a.cc, .bool u.soft], cel b4 66 [.slice none 0 0, .slice none 0 0, .int .i64 0, .slice none 0 0, .int .u32 0, .int .i64 0, .int .i64 0, .slice none 0 0, .bool false], cel b3 66 [.slice u.gA u.gone.length u.gc, .slice u.rA u.routes.length u.rc, .int .i64 u.a.org, .slice u.a.pA u.a.path.length u.a.pc, .int .u32 u.a.nxt, .int .i64 u.a.med, .int .i64 u.a.pref, .slice u.a.cA u.a.comms.length u.a.cc, .bool u.soft]]) (Keeps.add (fun w => own_nil w) permA) ?_
 repeat' (first | refine SW ?_ | refine SD ?_ | exact HO_seg rfl rfl | refine S1 ?_ | (refine S2 ?_; intro _) | (refine S3 ?_; intro _ _) | (refine S4 ?_; intro _ _ _) | (refine HO_g 2 rfl ?_; first | apply HO_a1 rfl | apply HO_o1 rfl) | refine S5n ?_ | (intro hb; try replace hb := simB hb; try exact kill hb))
 refine HC_loop (α := Nat × OA × OA) (fun y => y.1 ≤ u.routes.length) (fun y => [(6, .int .i64 y.1), (5, pt b5), (4, pt b4), (3, pt b3), (0, .slice A l.length c)])
  (fun y => [own idE 151 3 y.2.2.1 (keptF wr (u.routes.take y.1)).length y.2.2.2 ((keptF wr (u.routes.take y.1)).map Nl.e), own idE 151 3 y.2.1.1 (u.gone ++ (u.routes.take y.1).filter wr).length y.2.1.2 ((u.gone ++ (u.routes.take y.1).filter wr).map Nl.e), cel b5 66 [.slice y.2.1.1 (u.gone ++ (u.routes.take y.1).filter wr).length y.2.1.2, .slice y.2.2.1 (keptF wr (u.routes.take y.1)).length y.2.2.2, .int .i64 u.a.org, .slice u.a.pA u.a.path.length u.a.pc, .int .u32 u.a.nxt, .int .i64 u.a.med, .int .i64 u.a.pref, .slice u.a.cA u.a.comms.length u.a.cc, .bool u.soft], cel b4 66 [.slice none 0 0, .slice none 0 0, .int .i64 0, .slice none 0 0, .int .u32 0, .int .i64 0, .int .i64 0, .slice none 0 0, .bool false], cel b3 66 [.slice u.gA u.gone.length u.gc, .slice u.rA u.routes.length u.rc, .int .i64 u.a.org, .slice u.a.pA u.a.path.length u.a.pc, .int .u32 u.a.nxt, .int .i64 u.a.med, .int .i64 u.a.pref, .slice u.a.cA u.a.comms.length u.a.cc, .bool u.soft]]) (fun y => u.routes.length - y.1) rfl (0, (A1, c1'), (none, 0)) (Nat.zero_le _) ⟨rfl, rfl, rfl, rfl, rfl, trivial⟩ (by simp only [List.take_zero, List.filter_nil, List.append_nil]; rfl) ?_
 rintro ⟨i, y, z⟩ hi
 dsimp only at hi ⊢
 have hGl : (u.gone ++ (u.routes.take i).filter wr).length ≤ 2000000 := by
  rw [List.length_append]
  have h1 := List.length_filter_le wr (u.routes.take i)
  rw [List.length_take] at h1
  omega
 have hKl : (keptF wr (u.routes.take i)).length ≤ 2000000 := by
  have h1 := List.length_filter_le (fun x => !wr x) (u.routes.take i)
  rw [List.length_take] at h1
  unfold keptF
  omega
 rcases Nat.lt_or_ge i u.routes.length with hlt | hge
 ·obtain ⟨x, hx⟩ : ∃ x, u.routes[i]? = some x := ⟨u.routes[i], List.getElem?_eq_getElem hlt⟩
  have cW := c1 x (List.mem_of_getElem? hx)
  have hfs := filter_snoc (p := wr) hx
  have hks := keptF_snoc (p := wr) hx
  obtain ⟨G, hG2⟩ : ∃ G, u.gone ++ (u.routes.take i).filter wr = G := ⟨_, rfl⟩
  obtain ⟨K, hK2⟩ : ∃ K, keptF wr (u.routes.take i) = K := ⟨_, rfl⟩
  rw [hG2] at hGl ⊢
  rw [hK2] at hKl hks ⊢
  clear c1
  have hwx := hw2 x
  clear hwr hw2
  cases hw : wr x with
  | true =>
   rw [hw] at hfs hks hwx
   simp only [if_true] at hfs hks
   have h3 : st x = 3 := of_decide_eq_true hwx
   have hG3 : u.gone ++ (u.routes.take (i + 1)).filter wr = G ++ [x] := by rw [hfs, ← List.append_assoc, hG2]
   have hG4 : G.length + 1 = (G ++ [x]).length := by simp
   have hGm : List.map Nl.e G ++ [[Value.int .i64 x.i, .int .u32 x.a, .int .i64 x.n]] = List.map Nl.e (G ++ [x]) := by simp [Nl.e]
   repeat' (first | refine SW ?_ | refine SD ?_ | (refine HO_k 12 rfl ?_; refine HO_callq rfl rfl rfl rfl (cW) (fun _ _ => rfl) (srcsA) rfl rfl sqA ?_) | (refine HO_k 11 rfl ?_; refine HO_appw rfl rfl rfl rfl rfl rfl rfl rfl ?h1 ?h2 rfl rfl ?h3 ?h4 rfl rfl rfl ?h5 ?_; (case h1 => simp only [List.length_append, List.length_map, List.length_cons, List.length_nil, be_length]); (case h2 => repeat (first | exact WfL.nil | exact WfL.map | apply WfL.append | refine WfL.cons rfl rfl ?_ | assumption)); (case h3 => (try simp only [List.length_append, List.length_map, List.length_cons, List.length_nil, be_length]); (try omega)); (case h4 => (try simp only [List.length_append, List.length_map, List.length_cons, List.length_nil, be_length]); (try omega)); (case h5 => exact soA); intro _ _) | exact HO_seg rfl rfl | refine S1 ?_ | (refine S2 ?_; intro _) | (refine S3 ?_; intro _ _) | (refine S4 ?_; intro _ _ _) | (refine HO_g 2 rfl ?_; first | apply HO_a1 rfl | apply HO_o1 rfl) | refine S5 ?_ | (intro hb; try replace hb := simB hb; try exact kill hb))
   rename_i A' c'
   rw [hG4, hGm]
   refine HX_keeps (rw' := [own idE 151 3 z.1 (K).length z.2 ((K).map Nl.e), own idE 151 3 (A', c').1 (G ++ [x]).length (A', c').2 ((G ++ [x]).map Nl.e), cel b5 66 [.slice (A', c').1 (G ++ [x]).length (A', c').2, .slice z.1 (K).length z.2, .int .i64 u.a.org, .slice u.a.pA u.a.path.length u.a.pc, .int .u32 u.a.nxt, .int .i64 u.a.med, .int .i64 u.a.pref, .slice u.a.cA u.a.comms.length u.a.cc, .bool u.soft], cel b4 66 [.slice none 0 0, .slice none 0 0, .int .i64 0, .slice none 0 0, .int .u32 0, .int .i64 0, .int .i64 0, .slice none 0 0, .bool false], cel b3 66 [.slice u.gA u.gone.length u.gc, .slice u.rA u.routes.length u.rc, .int .i64 u.a.org, .slice u.a.pA u.a.path.length u.a.pc, .int .u32 u.a.nxt, .int .i64 u.a.med, .int .i64 u.a.pref, .slice u.a.cA u.a.comms.length u.a.cc, .bool u.soft]]) permA ?_
   exact HX_at (i + 1, (A', c'), z) ⟨hlt, by show u.routes.length - (i + 1) < u.routes.length - i; omega⟩ ⟨rfl, rfl, rfl, rfl, rfl, trivial⟩ (by dsimp only; rw [hG3, hks])
  | false =>
   rw [hw] at hfs hks hwx
   simp only [Bool.false_eq_true, if_false] at hfs hks
   have h3 : ¬ st x = 3 := of_decide_eq_false hwx
   have hG3 : u.gone ++ (u.routes.take (i + 1)).filter wr = G := by rw [hfs]; exact hG2
   have hK4 : K.length + 1 = (K ++ [x]).length := by simp
   have hKm : List.map Nl.e K ++ [[Value.int .i64 x.i, .int .u32 x.a, .int .i64 x.n]] = List.map Nl.e (K ++ [x]) := by simp [Nl.e]
   repeat' (first | refine SW ?_ | refine SD ?_ | (refine HO_k 12 rfl ?_; refine HO_callq rfl rfl rfl rfl (cW) (fun _ _ => rfl) (srcsA) rfl rfl sqA ?_) | (refine HO_k 11 rfl ?_; refine HO_appw rfl rfl rfl rfl rfl rfl rfl rfl ?h1 ?h2 rfl rfl ?h3 ?h4 rfl rfl rfl ?h5 ?_; (case h1 => simp only [List.length_append, List.length_map, List.length_cons, List.length_nil, be_length]); (case h2 => repeat (first | exact WfL.nil | exact WfL.map | apply WfL.append | refine WfL.cons rfl rfl ?_ | assumption)); (case h3 => (try simp only [List.length_append, List.length_map, List.length_cons, List.length_nil, be_length]); (try omega)); (case h4 => (try simp only [List.length_append, List.length_map, List.length_cons, List.length_nil, be_length]); (try omega)); (case h5 => exact soA); intro _ _) | exact HO_seg rfl rfl | refine S1 ?_ | (refine S2 ?_; intro _) | (refine S3 ?_; intro _ _) | (refine S4 ?_; intro _ _ _) | (refine HO_g 2 rfl ?_; first | apply HO_a1 rfl | apply HO_o1 rfl) | refine S5 ?_ | (intro hb; try replace hb := simB hb; try exact kill hb))
   rename_i A' c'
   rw [hK4, hKm]
   refine HX_keeps (rw' := [own idE 151 3 (A', c').1 (K ++ [x]).length (A', c').2 ((K ++ [x]).map Nl.e), own idE 151 3 y.1 (G).length y.2 ((G).map Nl.e), cel b5 66 [.slice y.1 (G).length y.2, .slice (A', c').1 (K ++ [x]).length (A', c').2, .int .i64 u.a.org, .slice u.a.pA u.a.path.length u.a.pc, .int .u32 u.a.nxt, .int .i64 u.a.med, .int .i64 u.a.pref, .slice u.a.cA u.a.comms.length u.a.cc, .bool u.soft], cel b4 66 [.slice none 0 0, .slice none 0 0, .int .i64 0, .slice none 0 0, .int .u32 0, .int .i64 0, .int .i64 0, .slice none 0 0, .bool false], cel b3 66 [.slice u.gA u.gone.length u.gc, .slice u.rA u.routes.length u.rc, .int .i64 u.a.org, .slice u.a.pA u.a.path.length u.a.pc, .int .u32 u.a.nxt, .int .i64 u.a.med, .int .i64 u.a.pref, .slice u.a.cA u.a.comms.length u.a.cc, .bool u.soft]]) permA ?_
   exact HX_at (i + 1, y, (A', c')) ⟨hlt, by show u.routes.length - (i + 1) < u.routes.length - i; omega⟩ ⟨rfl, rfl, rfl, rfl, rfl, trivial⟩ (by dsimp only; rw [hG3, hks])
 ·obtain rfl : i = u.routes.length := by omega
  rw [List.take_length] at hGl hKl ⊢
  clear c1 hwr hw2
  have hfl1 : ∀ a, (if keptF wr u.routes = [] ∧ u.routes ≠ [] then att00 else u.a) = a → frU u wr y z = ⟨y.1, y.2, u.gone ++ u.routes.filter wr, z.1, z.2, keptF wr u.routes, a, u.soft⟩ := fun a ha => by
   unfold frU
   rw [ha]
  rcases Nat.eq_zero_or_pos (keptF wr u.routes).length with hk | hk
  ·have hkz : ((keptF wr u.routes).length : Int) = 0 := by omega
   rcases Nat.eq_zero_or_pos u.routes.length with hr | hr
   ·have hfl := hfl1 u.a (if_neg (fun h => h.2 (List.length_eq_zero_iff.1 hr)))
    have hrz : ¬ (0 : Int) < (u.routes.length : Int) := by omega
    repeat' (first | refine SW ?_ | ((refine HO_g 2 rfl ?_); (refine HO_skip rfl rfl rfl rfl rdA ?_)) | refine SD ?_ | exact HO_seg rfl rfl | refine S1 ?_ | (refine S2 ?_; intro _) | (refine S3 ?_; intro _ _) | (refine S4 ?_; intro _ _ _) | (refine HO_g 2 rfl ?_; first | apply HO_a1 rfl | apply HO_o1 rfl) | refine S5 ?_ | (intro hb; try replace hb := simB hb; try exact kill hb))
    ((first | apply HX_ret | apply HX_retn); (repeat (first | exact Res_nil | apply Res_tmp rfl | apply Res_ce rfl rfl rfl)); unfold RetQ)
    refine ⟨(y, z), trivial, ?_, ?_⟩
    ·show tupV _ = Value.agg (frU u wr y z).e.toArray
     rw [hfl]
     rfl
    ·show Keeps _ [arr Nl.e 3 y.1 (frU u wr y z).gone, arr Nl.e 3 z.1 (frU u wr y z).routes]
     rw [hfl]
     exact Keeps.pickE 1 rfl rfl own_e (Keeps.pickE 0 rfl rfl own_e Keeps.nil)
   ·have hfl := hfl1 att00 (if_pos ⟨List.length_eq_zero_iff.1 hk, fun h => by rw [h] at hr; exact Nat.lt_irrefl _ hr⟩)
    have hrz : (0 : Int) < (u.routes.length : Int) := by omega
    repeat' (first | refine SW ?_ | ((refine HO_g 2 rfl ?_); (refine HO_skip rfl rfl rfl rfl rdA ?_)) | refine SD ?_ | exact HO_seg rfl rfl | refine S1 ?_ | (refine S2 ?_; intro _) | (refine S3 ?_; intro _ _) | (refine S4 ?_; intro _ _ _) | (refine HO_g 2 rfl ?_; first | apply HO_a1 rfl | apply HO_o1 rfl) | refine S5 ?_ | (intro hb; try replace hb := simB hb; try exact kill hb))
    ((first | apply HX_ret | apply HX_retn); (repeat (first | exact Res_nil | apply Res_tmp rfl | apply Res_ce rfl rfl rfl)); unfold RetQ)
    refine ⟨(y, z), trivial, ?_, ?_⟩
    ·show tupV _ = Value.agg (frU u wr y z).e.toArray
     rw [hfl]
     rfl
    ·show Keeps _ [arr Nl.e 3 y.1 (frU u wr y z).gone, arr Nl.e 3 z.1 (frU u wr y z).routes]
     rw [hfl]
     exact Keeps.pickE 1 rfl rfl own_e (Keeps.pickE 0 rfl rfl own_e Keeps.nil)
  ·have hfl := hfl1 u.a (if_neg (fun h => by rw [h.1] at hk; exact Nat.lt_irrefl _ hk))
   have hkz : ¬ ((keptF wr u.routes).length : Int) = 0 := by omega
   repeat' (first | refine SW ?_ | ((refine HO_g 2 rfl ?_); (refine HO_skip rfl rfl rfl rfl rdA ?_)) | refine SD ?_ | exact HO_seg rfl rfl | refine S1 ?_ | (refine S2 ?_; intro _) | (refine S3 ?_; intro _ _) | (refine S4 ?_; intro _ _ _) | (refine HO_g 2 rfl ?_; first | apply HO_a1 rfl | apply HO_o1 rfl) | refine S5 ?_ | (intro hb; try replace hb := simB hb; try exact kill hb))
   ((first | apply HX_ret | apply HX_retn); (repeat (first | exact Res_nil | apply Res_tmp rfl | apply Res_ce rfl rfl rfl)); unfold RetQ)
   refine ⟨(y, z), trivial, ?_, ?_⟩
   ·show tupV _ = Value.agg (frU u wr y z).e.toArray
    rw [hfl]
    rfl
   ·show Keeps _ [arr Nl.e 3 y.1 (frU u wr y z).gone, arr Nl.e 3 z.1 (frU u wr y z).routes]
    rw [hfl]
    exact Keeps.pickE 1 rfl rfl own_e (Keeps.pickE 0 rfl rfl own_e Keeps.nil)
end Go.Proofs.YtbhiojedmkcfoaaGreatDoor
