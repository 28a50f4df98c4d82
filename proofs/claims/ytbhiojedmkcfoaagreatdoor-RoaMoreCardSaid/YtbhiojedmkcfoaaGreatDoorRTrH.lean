/- Part of a proof of many texts: what the theorem at its end leans on. -/
import Derived.Test.YtbhiojedmkcfoaaGreatDoorRTrG
import Derived.Test.YtbhiojedmkcfoaaGreatDoorRTrK
namespace Go.Proofs.YtbhiojedmkcfoaaGreatDoor
set_option linter.unusedVariables false
set_option linter.unusedSimpArgs false
open Go.RowKit
attribute [local irreducible] HC HX HO Tri eP adr
theorem clnN_t (A : Option Addr) (n c : Nat) (l : List Nl) (hn : n = l.length) (hb : l.length ≤ 1000000) :
  Tri Tryz.prog 156 [.slice A n c] [arr Nl.e 3 A l] [] (fun x : OA => True) (fun x => .slice x.1 l.length x.2) (fun x => [own idE 151 3 x.1 l.length x.2 (l.map Nl.e)]) := by
 refine Tri_know (C := A = none → l = []) (fun w h => arr_some 0 rfl h) (fun hA => ?_)
 cases A with
 | none =>
  obtain rfl := hA rfl
  refine Tri_of (N := Tryz.f156.ntmps) (c := bodyOf Tryz.f156) Tryz.func156 rfl rfl rfl rfl (fun w0 S0 => ?_)
  repeat' (first | refine SW ?_ | refine SD ?_ | exact HO_seg rfl rfl | refine S1 ?_ | (refine S2 ?_; intro _) | (refine S3 ?_; intro _ _) | (refine S4 ?_; intro _ _ _) | (refine HO_g 2 rfl ?_; first | apply HO_a1 rfl | apply HO_o1 rfl) | refine S5 ?_ | (intro hb; try replace hb := simB hb; try exact kill hb))
  (refine SRt ?_; unfold RetQ; apply Exists.intro (Prod.mk none 0); refine ⟨trivial, ?_, ?_⟩; rotate_left 1; (repeat (first | exact Keeps.nil | refine Keeps.own_cons ?_ ?_ ?_ | refine Keeps.arr_cons ?_ ?_ | refine Keeps.cons Ent.rfl_ ?_ | refine Keeps.skip ?_ | refine Keeps.own_none ?_ ?_ ?_ | refine Keeps.arr_none ?_ ?_)))
  all_goals rfl
 | some ad =>
  clear hA
  subst hn
  refine Tri_of (N := Tryz.f156.ntmps) (c := bodyOf Tryz.f156) Tryz.func156 rfl rfl rfl rfl (fun w0 S0 => ?_)
  repeat' (first | refine SW ?_ | refine SD ?_ | (refine HO_k 11 rfl ?_; refine HO_appr rfl rfl rfl rfl rfl rfl rfl rfl ?h1 ?h2 rfl rfl ?h3 ?h4 rfl rfl rfl ?h5 ?_; (case h1 => simp only [List.length_append, List.length_map, List.length_cons, List.length_nil, be_length]); (case h2 => repeat (first | exact WfL.nil | exact WfL.map | apply WfL.append | refine WfL.cons rfl rfl ?_ | assumption)); (case h3 => (try simp only [List.length_append, List.length_map, List.length_cons, List.length_nil, be_length]); (try omega)); (case h4 => (try simp only [List.length_append, List.length_map, List.length_cons, List.length_nil, be_length]); (try omega)); (case h5 => exact soA); intro _ _) | exact HO_seg rfl rfl | refine S1 ?_ | (refine S2 ?_; intro _) | (refine S3 ?_; intro _ _) | (refine S4 ?_; intro _ _ _) | (refine HO_g 2 rfl ?_; first | apply HO_a1 rfl | apply HO_o1 rfl) | refine S5 ?_ | (intro hb; try replace hb := simB hb; try exact kill hb))
  rename_i b' A' c'
  have e0 : 0 + l.length = l.length := Nat.zero_add _
  rw [e0]
  (refine SRt ?_; unfold RetQ; refine ⟨(A', c'), trivial, rfl, Keeps.pick 0 rfl rfl Keeps.nil⟩)
theorem clnI_t (A : Option Addr) (n c : Nat) (l : List Int) (hn : n = l.length) (hb : l.length ≤ 1000000) :
  Tri Tryz.prog 157 [.slice A n c] [arr iE 1 A l] [] (fun x : OA => True) (fun x => .slice x.1 l.length x.2) (fun x => [own idE 3 1 x.1 l.length x.2 (l.map iE)]) := by
 refine Tri_know (C := A = none → l = []) (fun w h => arr_some 0 rfl h) (fun hA => ?_)
 cases A with
 | none =>
  obtain rfl := hA rfl
  refine Tri_of (N := Tryz.f157.ntmps) (c := bodyOf Tryz.f157) Tryz.func157 rfl rfl rfl rfl (fun w0 S0 => ?_)
  repeat' (first | refine SW ?_ | refine SD ?_ | exact HO_seg rfl rfl | refine S1 ?_ | (refine S2 ?_; intro _) | (refine S3 ?_; intro _ _) | (refine S4 ?_; intro _ _ _) | (refine HO_g 2 rfl ?_; first | apply HO_a1 rfl | apply HO_o1 rfl) | refine S5 ?_ | (intro hb; try replace hb := simB hb; try exact kill hb))
  (refine SRt ?_; unfold RetQ; apply Exists.intro (Prod.mk none 0); refine ⟨trivial, ?_, ?_⟩; rotate_left 1; (repeat (first | exact Keeps.nil | refine Keeps.own_cons ?_ ?_ ?_ | refine Keeps.arr_cons ?_ ?_ | refine Keeps.cons Ent.rfl_ ?_ | refine Keeps.skip ?_ | refine Keeps.own_none ?_ ?_ ?_ | refine Keeps.arr_none ?_ ?_)))
  all_goals rfl
 | some ad =>
  clear hA
  subst hn
  refine Tri_of (N := Tryz.f157.ntmps) (c := bodyOf Tryz.f157) Tryz.func157 rfl rfl rfl rfl (fun w0 S0 => ?_)
  repeat' (first | refine SW ?_ | refine SD ?_ | (refine HO_k 11 rfl ?_; refine HO_appr rfl rfl rfl rfl rfl rfl rfl rfl ?h1 ?h2 rfl rfl ?h3 ?h4 rfl rfl rfl ?h5 ?_; (case h1 => simp only [List.length_append, List.length_map, List.length_cons, List.length_nil, be_length]); (case h2 => repeat (first | exact WfL.nil | exact WfL.map | apply WfL.append | refine WfL.cons rfl rfl ?_ | assumption)); (case h3 => (try simp only [List.length_append, List.length_map, List.length_cons, List.length_nil, be_length]); (try omega)); (case h4 => (try simp only [List.length_append, List.length_map, List.length_cons, List.length_nil, be_length]); (try omega)); (case h5 => exact soA); intro _ _) | exact HO_seg rfl rfl | refine S1 ?_ | (refine S2 ?_; intro _) | (refine S3 ?_; intro _ _) | (refine S4 ?_; intro _ _ _) | (refine HO_g 2 rfl ?_; first | apply HO_a1 rfl | apply HO_o1 rfl) | refine S5 ?_ | (intro hb; try replace hb := simB hb; try exact kill hb))
  rename_i b' A' c'
  have e0 : 0 + l.length = l.length := Nat.zero_add _
  rw [e0]
  (refine SRt ?_; unfold RetQ; refine ⟨(A', c'), trivial, rfl, Keeps.pick 0 rfl rfl Keeps.nil⟩)
theorem clnS_t (A : Option Addr) (n c : Nat) (l : List SegS) (hn : n = l.length) (hb : l.length ≤ 1000000) :
  Tri Tryz.prog 158 [.slice A n c] [arr SegS.e 2 A l] [] (fun x : OA => True) (fun x => .slice x.1 l.length x.2) (fun x => [own idE 146 2 x.1 l.length x.2 (l.map SegS.e)]) := by
 refine Tri_know (C := A = none → l = []) (fun w h => arr_some 0 rfl h) (fun hA => ?_)
 cases A with
 | none =>
  obtain rfl := hA rfl
  refine Tri_of (N := Tryz.f158.ntmps) (c := bodyOf Tryz.f158) Tryz.func158 rfl rfl rfl rfl (fun w0 S0 => ?_)
  repeat' (first | refine SW ?_ | refine SD ?_ | exact HO_seg rfl rfl | refine S1 ?_ | (refine S2 ?_; intro _) | (refine S3 ?_; intro _ _) | (refine S4 ?_; intro _ _ _) | (refine HO_g 2 rfl ?_; first | apply HO_a1 rfl | apply HO_o1 rfl) | refine S5 ?_ | (intro hb; try replace hb := simB hb; try exact kill hb))
  (refine SRt ?_; unfold RetQ; apply Exists.intro (Prod.mk none 0); refine ⟨trivial, ?_, ?_⟩; rotate_left 1; (repeat (first | exact Keeps.nil | refine Keeps.own_cons ?_ ?_ ?_ | refine Keeps.arr_cons ?_ ?_ | refine Keeps.cons Ent.rfl_ ?_ | refine Keeps.skip ?_ | refine Keeps.own_none ?_ ?_ ?_ | refine Keeps.arr_none ?_ ?_)))
  all_goals rfl
 | some ad =>
  clear hA
  subst hn
  refine Tri_of (N := Tryz.f158.ntmps) (c := bodyOf Tryz.f158) Tryz.func158 rfl rfl rfl rfl (fun w0 S0 => ?_)
  repeat' (first | refine SW ?_ | refine SD ?_ | (refine HO_k 11 rfl ?_; refine HO_appr rfl rfl rfl rfl rfl rfl rfl rfl ?h1 ?h2 rfl rfl ?h3 ?h4 rfl rfl rfl ?h5 ?_; (case h1 => simp only [List.length_append, List.length_map, List.length_cons, List.length_nil, be_length]); (case h2 => repeat (first | exact WfL.nil | exact WfL.map | apply WfL.append | refine WfL.cons rfl rfl ?_ | assumption)); (case h3 => (try simp only [List.length_append, List.length_map, List.length_cons, List.length_nil, be_length]); (try omega)); (case h4 => (try simp only [List.length_append, List.length_map, List.length_cons, List.length_nil, be_length]); (try omega)); (case h5 => exact soA); intro _ _) | exact HO_seg rfl rfl | refine S1 ?_ | (refine S2 ?_; intro _) | (refine S3 ?_; intro _ _) | (refine S4 ?_; intro _ _ _) | (refine HO_g 2 rfl ?_; first | apply HO_a1 rfl | apply HO_o1 rfl) | refine S5 ?_ | (intro hb; try replace hb := simB hb; try exact kill hb))
  rename_i b' A' c'
  have e0 : 0 + l.length = l.length := Nat.zero_add _
  rw [e0]
  (refine SRt ?_; unfold RetQ; refine ⟨(A', c'), trivial, rfl, Keeps.pick 0 rfl rfl Keeps.nil⟩)
def segOw (s : SegS) : SL := own idE 3 1 s.A s.ns.length s.c (s.ns.map iE)
def segQ (s : SegS) : Bool × List Int := (s.set, s.ns)
def cpU (u : UpS) (z : (OA × OA × OA × OA) × List SegS) : UpS := ⟨z.1.1.1, z.1.1.2, u.gone, z.1.2.1.1, z.1.2.1.2, u.routes, ⟨u.a.org, z.1.2.2.2.1, z.1.2.2.2.2, z.2, u.a.nxt, u.a.med, u.a.pref, z.1.2.2.1.1, z.1.2.2.1.2, u.a.comms⟩, u.soft⟩
def cpP (u : UpS) (z : (OA × OA × OA × OA) × List SegS) : List SL := [own idE 151 3 z.1.2.1.1 u.routes.length z.1.2.1.2 (u.routes.map Nl.e), own idE 151 3 z.1.1.1 u.gone.length z.1.1.2 (u.gone.map Nl.e),
 own idE 3 1 z.1.2.2.1.1 u.a.comms.length z.1.2.2.1.2 (u.a.comms.map iE), own idE 146 2 z.1.2.2.2.1 z.2.length z.1.2.2.2.2 (z.2.map SegS.e), outn (z.2.map segOw)]
structure UpL (u : UpS) : Prop where
 g : u.gone.length ≤ 1000000
 r : u.routes.length ≤ 1000000
 c : u.a.comms.length ≤ 1000000
 p : PathW u.a
set_option maxHeartbeats 1000000000 in
theorem copy_t (u : UpS) (hu : UpL u) : Tri Tryz.prog 104 [.agg u.e.toArray] u.ro [] (fun z : (OA × OA × OA × OA) × List SegS => z.2.map segQ = u.a.path.map segQ) (fun z => .agg (cpU u z).e.toArray) (fun z => cpP u z) := by
 obtain ⟨h1, h2, h3, h4, h5⟩ := hu
 have c1 := clnN_t u.gA u.gone.length u.gc u.gone rfl h1
 have c2 := clnN_t u.rA u.routes.length u.rc u.routes rfl h2
 have c3 := clnI_t u.a.cA u.a.comms.length u.a.cc u.a.comms rfl h3
 have c4 := clnS_t u.a.pA u.a.path.length u.a.pc u.a.path rfl h4
 dsimp only [UpS.e, UpS.ro]
 refine Tri_of (N := Tryz.f104.ntmps) (c := bodyOf Tryz.f104) Tryz.func104 rfl rfl rfl rfl (fun w0 S0 => ?_)
 repeat' (first | refine SW ?_ | refine SD ?_ | exact HO_seg rfl rfl | refine S1 ?_ | (refine S2 ?_; intro _) | (refine S3 ?_; intro _ _) | (refine S4 ?_; intro _ _ _) | (refine HO_g 2 rfl ?_; first | apply HO_a1 rfl | apply HO_o1 rfl) | refine S5n ?_ | (intro hb; try replace hb := simB hb; try exact kill hb))
 rename_i b1 b2
 refine HC_cutP (α := OA × OA) (fun _ => True) (fun z => [(2, pt b2), (1, pt b1)]) (fun z => [own idE 151 3 z.2.1 u.routes.length z.2.2 (u.routes.map Nl.e), own idE 151 3 z.1.1 u.gone.length z.1.2 (u.gone.map Nl.e),
  cel b1 66 [.slice z.1.1 u.gone.length z.1.2, .slice z.2.1 u.routes.length z.2.2, .int .i64 u.a.org, .slice u.a.pA u.a.path.length u.a.pc, .int .u32 u.a.nxt, .int .i64 u.a.med, .int .i64 u.a.pref, .slice u.a.cA u.a.comms.length u.a.cc, .bool u.soft],
  cel b2 66 [.slice none 0 0, .slice none 0 0, .int .i64 0, .slice none 0 0, .int .u32 0, .int .i64 0, .int .i64 0, .slice none 0 0, .bool false]]) ?_ ?_
 ·repeat' (first | refine SW ?_ | (refine HC_lex rfl rfl (by decide +kernel) rfl rfl ?_; refine HO_names (l' := [0, 3, 1, 2, 4, 6, 5, 7, 8, 9]) (by decide +kernel) ?_) | refine SD ?_ | (first | refine HO_2p 1 4 (by decide +kernel) rfl rfl (by decide +kernel) ?_ ?_ | refine HO_2p 2 4 (by decide +kernel) rfl rfl (by decide +kernel) ?_ ?_) | (refine HO_k 2 rfl ?_; refine HO_loT rfl rfl rfl rfl rfl rfl soA ?_) | (refine HO_k 12 rfl ?_; refine HO_call rfl rfl rfl rfl (c1) rfl ((AllSrc.at_ 0 rfl trivial)) rfl rfl soA ?_; intro z1 hz1; dsimp only [lca, lna]) | (refine HO_k 12 rfl ?_; refine HO_call rfl rfl rfl rfl (c2) rfl ((AllSrc.at_ 1 rfl trivial)) rfl rfl soA ?_; intro z2 hz2; dsimp only [lca, lna]) | exact HO_seg rfl rfl | refine S1 ?_ | (refine S2 ?_; intro _) | (refine S3 ?_; intro _ _) | (refine S4 ?_; intro _ _ _) | (refine HO_g 2 rfl ?_; first | apply HO_a1 rfl | apply HO_o1 rfl) | refine S5 ?_ | (intro hb; try replace hb := simB hb; try exact kill hb))
  all_goals
   exact HX_keeps (rw' := [own idE 151 3 z2.1 u.routes.length z2.2 (u.routes.map Nl.e), own idE 151 3 z1.1 u.gone.length z1.2 (u.gone.map Nl.e), cel b1 66 [.slice z1.1 u.gone.length z1.2, .slice z2.1 u.routes.length z2.2, .int .i64 u.a.org, .slice u.a.pA u.a.path.length u.a.pc, .int .u32 u.a.nxt, .int .i64 u.a.med, .int .i64 u.a.pref, .slice u.a.cA u.a.comms.length u.a.cc, .bool u.soft], cel b2 66 [.slice none 0 0, .slice none 0 0, .int .i64 0, .slice none 0 0, .int .u32 0, .int .i64 0, .int .i64 0, .slice none 0 0, .bool false]]) permA (HX_at (z1, z2) trivial ⟨rfl, rfl, trivial⟩ rfl)
 rintro ⟨z1, z2⟩ -
 clear c1 c2
 dsimp only
 refine HC_seq rfl ?_
 refine HC_cutP (α := OA × OA) (fun _ => True) (fun z => [(2, pt b2), (1, pt b1)]) (fun w => [own idE 146 2 w.2.1 u.a.path.length w.2.2 (u.a.path.map SegS.e), own idE 3 1 w.1.1 u.a.comms.length w.1.2 (u.a.comms.map iE), own idE 151 3 z2.1 u.routes.length z2.2 (u.routes.map Nl.e), own idE 151 3 z1.1 u.gone.length z1.2 (u.gone.map Nl.e), cel b1 66 [.slice z1.1 u.gone.length z1.2, .slice z2.1 u.routes.length z2.2, .int .i64 u.a.org, .slice w.2.1 u.a.path.length w.2.2, .int .u32 u.a.nxt, .int .i64 u.a.med, .int .i64 u.a.pref, .slice w.1.1 u.a.comms.length w.1.2, .bool u.soft], cel b2 66 [.slice none 0 0, .slice none 0 0, .int .i64 0, .slice none 0 0, .int .u32 0, .int .i64 0, .int .i64 0, .slice none 0 0, .bool false]]) ?_ ?_
 ·repeat' (first | refine SW ?_ | (refine HC_lex rfl rfl (by decide +kernel) rfl rfl ?_; refine HO_names (l' := [0, 1, 4, 5, 2, 3, 6, 8, 9, 7, 10, 11, 12, 13]) (by decide +kernel) ?_) | refine SD ?_ | (first | refine HO_2p 2 6 (by decide +kernel) rfl rfl (by decide +kernel) ?_ ?_ | refine HO_2p 3 6 (by decide +kernel) rfl rfl (by decide +kernel) ?_ ?_) | (refine HO_k 2 rfl ?_; refine HO_loT rfl rfl rfl rfl rfl rfl soA ?_) | (refine HO_k 12 rfl ?_; refine HO_call rfl rfl rfl rfl (c3) rfl ((AllSrc.at_ 4 rfl trivial)) rfl rfl soA ?_; intro z3 hz3; dsimp only [lca, lna]) | (refine HO_k 12 rfl ?_; refine HO_call rfl rfl rfl rfl (c4) rfl ((AllSrc.at_ 3 rfl trivial)) rfl rfl soA ?_; intro z4 hz4; dsimp only [lca, lna]) | exact HO_seg rfl rfl | refine S1 ?_ | (refine S2 ?_; intro _) | (refine S3 ?_; intro _ _) | (refine S4 ?_; intro _ _ _) | (refine HO_g 2 rfl ?_; first | apply HO_a1 rfl | apply HO_o1 rfl) | refine S5 ?_ | (intro hb; try replace hb := simB hb; try exact kill hb))
  all_goals
   exact HX_keeps (rw' := [own idE 146 2 z4.1 u.a.path.length z4.2 (u.a.path.map SegS.e), own idE 3 1 z3.1 u.a.comms.length z3.2 (u.a.comms.map iE), own idE 151 3 z2.1 u.routes.length z2.2 (u.routes.map Nl.e), own idE 151 3 z1.1 u.gone.length z1.2 (u.gone.map Nl.e), cel b1 66 [.slice z1.1 u.gone.length z1.2, .slice z2.1 u.routes.length z2.2, .int .i64 u.a.org, .slice z4.1 u.a.path.length z4.2, .int .u32 u.a.nxt, .int .i64 u.a.med, .int .i64 u.a.pref, .slice z3.1 u.a.comms.length z3.2, .bool u.soft], cel b2 66 [.slice none 0 0, .slice none 0 0, .int .i64 0, .slice none 0 0, .int .u32 0, .int .i64 0, .int .i64 0, .slice none 0 0, .bool false]]) permA (HX_at (z3, z4) trivial ⟨rfl, rfl, trivial⟩ rfl)
 rintro ⟨z3, z4⟩ -
 clear c3 c4
 dsimp only
 repeat' (first | refine SW ?_ | refine SD ?_ | exact HO_seg rfl rfl | refine S1 ?_ | (refine S2 ?_; intro _) | (refine S3 ?_; intro _ _) | (refine S4 ?_; intro _ _ _) | (refine HO_g 2 rfl ?_; first | apply HO_a1 rfl | apply HO_o1 rfl) | refine S5n ?_ | (intro hb; try replace hb := simB hb; try exact kill hb))
 refine HC_keeps (rw' := [own idE 146 2 z4.1 u.a.path.length z4.2 (u.a.path.map SegS.e), outn [], own idE 3 1 z3.1 u.a.comms.length z3.2 (u.a.comms.map iE), own idE 151 3 z2.1 u.routes.length z2.2 (u.routes.map Nl.e), own idE 151 3 z1.1 u.gone.length z1.2 (u.gone.map Nl.e), cel b1 66 [.slice z1.1 u.gone.length z1.2, .slice z2.1 u.routes.length z2.2, .int .i64 u.a.org, .slice z4.1 u.a.path.length z4.2, .int .u32 u.a.nxt, .int .i64 u.a.med, .int .i64 u.a.pref, .slice z3.1 u.a.comms.length z3.2, .bool u.soft], cel b2 66 [.slice none 0 0, .slice none 0 0, .int .i64 0, .slice none 0 0, .int .u32 0, .int .i64 0, .int .i64 0, .slice none 0 0, .bool false]]) (Keeps.pick 0 rfl rfl (Keeps.add outn_nil permA)) ?_
 refine HC_loop (α := Nat × List SegS) (fun y => y.1 ≤ u.a.path.length ∧ y.2.map segQ = (u.a.path.take y.1).map segQ) (fun y => [(28, .int .i64 y.1), (27, .int .i64 u.a.path.length), (2, pt b2), (1, pt b1)])
  (fun y => [own idE 146 2 z4.1 u.a.path.length z4.2 ((y.2 ++ u.a.path.drop y.1).map SegS.e), outn (y.2.map segOw), own idE 3 1 z3.1 u.a.comms.length z3.2 (u.a.comms.map iE), own idE 151 3 z2.1 u.routes.length z2.2 (u.routes.map Nl.e), own idE 151 3 z1.1 u.gone.length z1.2 (u.gone.map Nl.e), cel b1 66 [.slice z1.1 u.gone.length z1.2, .slice z2.1 u.routes.length z2.2, .int .i64 u.a.org, .slice z4.1 u.a.path.length z4.2, .int .u32 u.a.nxt, .int .i64 u.a.med, .int .i64 u.a.pref, .slice z3.1 u.a.comms.length z3.2, .bool u.soft], cel b2 66 [.slice none 0 0, .slice none 0 0, .int .i64 0, .slice none 0 0, .int .u32 0, .int .i64 0, .int .i64 0, .slice none 0 0, .bool false]]) (fun y => u.a.path.length - y.1) rfl (0, []) ⟨Nat.zero_le _, rfl⟩ ⟨rfl, rfl, rfl, rfl, trivial⟩ rfl ?_
 rintro ⟨i, pd⟩ ⟨hi, hpd⟩
 dsimp only at hi hpd ⊢
 have hpl : pd.length = i := by
  have := congrArg List.length hpd
  rw [List.length_map, List.length_map, List.length_take] at this
  omega
 rcases Nat.lt_or_ge i u.a.path.length with hlt | hge
 ·obtain ⟨s, hs⟩ : ∃ s, u.a.path[i]? = some s := ⟨u.a.path[i], List.getElem?_eq_getElem hlt⟩
  have hsm := List.mem_of_getElem? hs
  have hdrop : u.a.path.drop i = s :: u.a.path.drop (i + 1) := by
   rw [List.drop_eq_getElem_cons hlt]
   congr 1
   exact (List.getElem?_eq_some_iff.1 hs).2
  have c5 := clnI_t s.A s.ns.length s.c s.ns rfl (h5 s hsm)
  refine HC_addR 2 rfl (inn_arr (seg_mem hsm)) ?_
  rw [hdrop]
  have hrow : ((pd ++ s :: u.a.path.drop (i + 1)).map SegS.e)[i]? = some s.e := by
   rw [List.getElem?_map, List.getElem?_append_right (by omega), hpl, Nat.sub_self]
   rfl
  obtain ⟨X, hX⟩ : ∃ X, (pd ++ s :: u.a.path.drop (i + 1)).map SegS.e = X := ⟨_, rfl⟩
  have hXw : WfL 2 X := by rw [← hX]; exact WfL.map
  have hXl : X.length = u.a.path.length := by rw [← hX, List.length_map, List.length_append, List.length_cons, List.length_drop]; omega
  rw [hX] at hrow ⊢
  repeat' (first | refine SW ?_ | (refine HC_lex rfl rfl (by decide +kernel) rfl rfl ?_; refine HO_names (l' := [0, 1, 2, 3, 4, 5, 6, 7, 8, 9, 10, 11, 12, 13, 14]) (by decide +kernel) ?_) | refine SD ?_ | (refine HO_k 10 rfl ?_; refine HO_holdA 0 rfl rfl ?_; refine HO_ixA rfl rfl rfl rfl hXw (by omega) (by omega) (by omega) rfl rfl rdA ?_) | (refine HO_k 12 rfl ?_; refine HO_call rfl rfl rfl rfl (c5) rfl ((AllSrc.at_ 2 rfl trivial)) rfl rfl soA ?_; intro z5 hz5; dsimp only [lca, lna]) | exact HO_seg rfl rfl | refine S1 ?_ | (refine S2 ?_; intro _) | (refine S3 ?_; intro _ _) | (refine S4 ?_; intro _ _ _) | (refine HO_g 2 rfl ?_; first | apply HO_a1 rfl | apply HO_o1 rfl) | refine S5 ?_ | (intro hb; try replace hb := simB hb; try exact kill hb))
  have hset : X.set i [.bool s.set, .slice z5.1 s.ns.length z5.2] = ((pd ++ [SegS.mk s.set z5.1 z5.2 s.ns]) ++ u.a.path.drop (i + 1)).map SegS.e := by
   rw [← hX, show ([Value.bool s.set, .slice z5.1 s.ns.length z5.2] : List Value) = SegS.e (SegS.mk s.set z5.1 z5.2 s.ns) from rfl, ← List.map_set]
   congr 1
   rw [List.set_append_right _ _ (by omega), hpl, Nat.sub_self, List.set_cons_zero, List.append_assoc]
   rfl
  rw [show ((i : Nat) : Int).toNat = i from rfl, hset]
  refine HX_dropR ?_
  refine HX_keeps (rw' := [own idE 146 2 z4.1 u.a.path.length z4.2 (((pd ++ [SegS.mk s.set z5.1 z5.2 s.ns]) ++ u.a.path.drop (i + 1)).map SegS.e), outn ((pd ++ [SegS.mk s.set z5.1 z5.2 s.ns]).map segOw), own idE 3 1 z3.1 u.a.comms.length z3.2 (u.a.comms.map iE), own idE 151 3 z2.1 u.routes.length z2.2 (u.routes.map Nl.e), own idE 151 3 z1.1 u.gone.length z1.2 (u.gone.map Nl.e), cel b1 66 [.slice z1.1 u.gone.length z1.2, .slice z2.1 u.routes.length z2.2, .int .i64 u.a.org, .slice z4.1 u.a.path.length z4.2, .int .u32 u.a.nxt, .int .i64 u.a.med, .int .i64 u.a.pref, .slice z3.1 u.a.comms.length z3.2, .bool u.soft], cel b2 66 [.slice none 0 0, .slice none 0 0, .int .i64 0, .slice none 0 0, .int .u32 0, .int .i64 0, .int .i64 0, .slice none 0 0, .bool false]])
   (Keeps.pick 1 rfl rfl (Keeps.cmp (show Keeps _ [segOw (SegS.mk s.set z5.1 z5.2 s.ns), outn (pd.map segOw), own idE 3 1 z3.1 u.a.comms.length z3.2 (u.a.comms.map iE), own idE 151 3 z2.1 u.routes.length z2.2 (u.routes.map Nl.e), own idE 151 3 z1.1 u.gone.length z1.2 (u.gone.map Nl.e), cel b1 66 [.slice z1.1 u.gone.length z1.2, .slice z2.1 u.routes.length z2.2, .int .i64 u.a.org, .slice z4.1 u.a.path.length z4.2, .int .u32 u.a.nxt, .int .i64 u.a.med, .int .i64 u.a.pref, .slice z3.1 u.a.comms.length z3.2, .bool u.soft], cel b2 66 [.slice none 0 0, .slice none 0 0, .int .i64 0, .slice none 0 0, .int .u32 0, .int .i64 0, .int .i64 0, .slice none 0 0, .bool false]] from permA) (Keeps.outC (by rw [List.map_append]; exact (List.perm_append_singleton _ _).symm)))) ?_
  exact HX_at (i + 1, pd ++ [SegS.mk s.set z5.1 z5.2 s.ns]) ⟨⟨hlt, by
   show (pd ++ [_]).map segQ = (u.a.path.take (i + 1)).map segQ
   rw [take_snoc hs, List.map_append, List.map_append, hpd]
   rfl⟩, by show u.a.path.length - (i + 1) < u.a.path.length - i; omega⟩ ⟨rfl, rfl, rfl, rfl, trivial⟩ rfl
 ·obtain rfl : i = u.a.path.length := by omega
  rw [List.drop_length, List.append_nil, ← hpl]
  repeat' (first | refine SW ?_ | refine SD ?_ | exact HO_seg rfl rfl | refine S1 ?_ | (refine S2 ?_; intro _) | (refine S3 ?_; intro _ _) | (refine S4 ?_; intro _ _ _) | (refine HO_g 2 rfl ?_; first | apply HO_a1 rfl | apply HO_o1 rfl) | refine S5 ?_ | (intro hb; try replace hb := simB hb; try exact kill hb))
  (refine SRt ?_; unfold RetQ; refine ⟨((z1, z2, z3, z4), pd), (by show pd.map segQ = _; rw [hpd, List.take_length]), rfl, permA⟩)
set_option maxHeartbeats 1000000000 in
theorem indexW_t (A : Option Addr) (n c : Nat) (l : List Nl) (hn : n = l.length) (hl : l.length ≤ 1000000) (g : Nat) [FnOk Tryz.prog g] (cap : List Value) (roC : List SL) (p : Nl → Bool)
  (hp : ∀ x ∈ l, Tri Tryz.prog g (.agg x.e.toArray :: cap) roC [] (fun _ : Unit => True) (fun _ => .bool (p x)) (fun _ => [])) :
  Tri Tryz.prog 159 [.slice A n c, .func (.func g) #[] cap.toArray] (arr Nl.e 3 A l :: roC) [] (fun _ : Unit => True) (fun _ => .int .i64 (idxF p l)) (fun _ => []) := by
 refine Tri_of (N := Tryz.f159.ntmps) (c := bodyOf Tryz.f159) Tryz.func159 rfl rfl rfl rfl (fun w0 S0 => ?_)
 repeat' (first | refine SW ?_ | refine SD ?_ | exact HO_seg rfl rfl | refine S1 ?_ | (refine S2 ?_; intro _) | (refine S3 ?_; intro _ _) | (refine S4 ?_; intro _ _ _) | (refine HO_g 2 rfl ?_; first | apply HO_a1 rfl | apply HO_o1 rfl) | refine S5 ?_ | (intro hb; try replace hb := simB hb; try exact kill hb))
 refine HC_loop (α := Nat) (fun j => j ≤ l.length ∧ ∀ q, q < j → ∀ b, l[q]? = some b → p b = false) (fun j => [(8, .int .i64 j), (7, .int .i64 n), (0, .slice A n c), (1, .func (.func g) #[] cap.toArray)]) (fun _ => []) (fun j => l.length - j) rfl 0 ⟨Nat.zero_le _, fun q hq => by omega⟩ ⟨rfl, rfl, rfl, rfl, trivial⟩ rfl ?_
 intro j ⟨hj, hno⟩
 rcases Nat.lt_or_ge j l.length with hlt | hge
 ·obtain ⟨a, ha⟩ : ∃ a, l[j]? = some a := ⟨l[j], List.getElem?_eq_getElem hlt⟩
  have hpa := hp a (List.mem_of_getElem? ha)
  repeat' (first | refine SW ?_ | refine SD ?_ | (refine HO_k 12 rfl ?_; refine HO_callq rfl rfl rfl rfl (hpa) (fun _ _ => rfl) (AllSrc.self) rfl rfl sqA ?_) | exact HO_seg rfl rfl | refine S1 ?_ | (refine S2 ?_; intro _) | (refine S3 ?_; intro _ _) | (refine S4 ?_; intro _ _ _) | (refine HO_g 2 rfl ?_; first | apply HO_a1 rfl | apply HO_o1 rfl) | refine S5 ?_ | (intro hb; try replace hb := simB hb; try exact kill hb) | refine HC_cond rfl rfl ?_ ?_)
  ·(refine SRt ?_; unfold RetQ; refine ⟨(), trivial, ?_, Keeps.nil⟩)
   exact congrArg (Value.int .i64) (idxF_at ha hb hno).symm
  ·exact HX_at (j + 1) ⟨⟨hlt, fun q hq b hbq => by
    rcases Nat.lt_or_ge q j with h | h
    ·exact hno q h b hbq
    ·obtain rfl : q = j := by omega
     rw [ha] at hbq
     injection hbq with hbq
     exact hbq ▸ hb⟩, by omega⟩ ⟨rfl, rfl, rfl, rfl, trivial⟩ rfl
 ·obtain rfl : j = l.length := by omega
  repeat' (first | refine SW ?_ | refine SD ?_ | exact HO_seg rfl rfl | refine S1 ?_ | (refine S2 ?_; intro _) | (refine S3 ?_; intro _ _) | (refine S4 ?_; intro _ _ _) | (refine HO_g 2 rfl ?_; first | apply HO_a1 rfl | apply HO_o1 rfl) | refine S5 ?_ | (intro hb; try replace hb := simB hb; try exact kill hb))
  (refine SRt ?_; unfold RetQ; refine ⟨(), trivial, ?_, Keeps.nil⟩)
  exact congrArg (Value.int .i64) (idxF_no hno).symm
theorem idx_some {α : Type} {p : α → Bool} {l : List α} (h : l.any p = true) : ∃ i a, l[i]? = some a ∧ p a = true ∧ idxF p l = ((i : Nat) : Int) ∧ (∀ q, q < i → ∀ b, l[q]? = some b → p b = false) := by
 obtain ⟨x, hx, hp⟩ := List.any_eq_true.1 h
 have hlt : l.findIdx p < l.length := List.findIdx_lt_length_of_exists ⟨x, hx, hp⟩
 refine ⟨l.findIdx p, l[l.findIdx p], List.getElem?_eq_getElem hlt, List.findIdx_getElem, by unfold idxF; rw [if_pos h], fun q hq b hb => ?_⟩
 have := List.not_of_lt_findIdx hq
 obtain ⟨hq2, rfl⟩ := List.getElem?_eq_some_iff.1 hb
 simpa using this
theorem filter_pre {α : Type} {p : α → Bool} {l : List α} {i : Nat} {a : α} (ha : l[i]? = some a) (hpa : p a = true) (hno : ∀ q, q < i → ∀ b, l[q]? = some b → p b = false) : (l.take (i + 1)).filter (fun x => !p x) = l.take i := by
 rw [take_snoc ha, List.filter_append]
 have h1 : (l.take i).filter (fun x => !p x) = l.take i := List.filter_eq_self.2 fun x hx => by
  obtain ⟨q, hq⟩ := List.getElem?_of_mem hx
  have hlt : q < i := by have := (List.getElem?_eq_some_iff.1 hq).1; simp at this; omega
  rw [List.getElem?_take_of_lt hlt] at hq
  rw [hno q hlt x hq]
  rfl
 rw [h1]
 simp [hpa]
def keptF {α : Type} (p : α → Bool) (l : List α) : List α := l.filter fun x => !p x
theorem keptF_none {α : Type} {p : α → Bool} {l : List α} (h : l.any p = false) : keptF p l = l := List.filter_eq_self.2 fun x hx => by
 have := List.any_eq_false.1 h x hx
 simpa using this
theorem keptF_snoc {α : Type} {p : α → Bool} {l : List α} {j : Nat} {x : α} (h : l[j]? = some x) : keptF p (l.take (j + 1)) = if p x = true then keptF p (l.take j) else keptF p (l.take j) ++ [x] := by
 unfold keptF
 rw [take_snoc h, List.filter_append]
 cases hp : p x <;> simp [hp]
theorem set_take {α : Type} {X : List α} {i : Nat} (v : α) (h : i < X.length) : (X.set i v).take (i + 1) = X.take i ++ [v] := by
 rw [List.take_add_one, List.take_set_of_le (Nat.le_refl i), List.getElem?_set_self h]
 rfl
theorem set_drop {α : Type} {X : List α} {i j : Nat} (v : α) (h : i < j) : (X.set i v).drop j = X.drop j := List.drop_set_of_lt h
theorem drop_at {α : Type} {X Y : List α} {j : Nat} (h : X.drop j = Y.drop j) {x : α} (hx : Y[j]? = some x) : X[j]? = some x := by
 have h1 : (X.drop j)[0]? = (Y.drop j)[0]? := by rw [h]
 rw [List.getElem?_drop, List.getElem?_drop, Nat.add_zero] at h1
 rw [h1, hx]
theorem drop_succ {α : Type} {X Y : List α} {j : Nat} (h : X.drop j = Y.drop j) : X.drop (j + 1) = Y.drop (j + 1) := by
 rw [← List.drop_drop, ← List.drop_drop (l := Y), h]
set_option maxHeartbeats 1000000000 in
theorem delete_t (A : Option Addr) (c : Nat) (l : List Nl) (hl : l.length ≤ 1000000) (g : Nat) [FnOk Tryz.prog g] (cap : List Value) (roC : List SL) (p : Nl → Bool)
  (hp : ∀ x ∈ l, Tri Tryz.prog g (.agg x.e.toArray :: cap) roC [] (fun _ : Unit => True) (fun _ => .bool (p x)) (fun _ => [])) :
  Tri Tryz.prog 106 [.slice A l.length c, .func (.func g) #[] cap.toArray] roC [own idE 151 3 A l.length c (l.map Nl.e)] (fun _ : Unit => True)
   (fun _ => .slice A (keptF p l).length c) (fun _ => [own idE 151 3 A (keptF p l).length c ((keptF p l).map Nl.e)]) := by
 have hix := indexW_t A l.length c l rfl hl g cap roC p hp
 have hk : (roC ++ [own idE 151 3 A l.length c (l.map Nl.e)])[roC.length]? = some (own idE 151 3 A l.length c (l.map Nl.e)) := by
  rw [List.getElem?_append_right (Nat.le_refl _), Nat.sub_self]
  rfl
 refine Tri_know (C := l.length ≤ c) (fun w h => own_cap roC.length hk h) (fun hlc => ?_)
 cases hany : l.any p with
 | false =>
  rw [keptF_none hany]
  have : idxF p l = -1 := by unfold idxF; rw [if_neg (by rw [hany]; decide)]
  rw [this] at hix
  refine Tri_of (N := Tryz.f106.ntmps) (c := bodyOf Tryz.f106) Tryz.func106 rfl rfl rfl rfl (fun w0 S0 => ?_)
  repeat' (first | refine SW ?_ | refine SD ?_ | (refine HO_k 12 rfl ?_; refine HO_callq rfl rfl rfl rfl (hix) (fun _ _ => rfl) ((AllSrc.via roC.length hk own_e (AllSrc.of fun f hf => ⟨f, List.mem_append.2 (.inl hf), Ent.rfl_⟩))) rfl rfl sqA ?_) | exact HO_seg rfl rfl | refine S1 ?_ | (refine S2 ?_; intro _) | (refine S3 ?_; intro _ _) | (refine S4 ?_; intro _ _ _) | (refine HO_g 2 rfl ?_; first | apply HO_a1 rfl | apply HO_o1 rfl) | refine S5 ?_ | (intro hb; try replace hb := simB hb; try exact kill hb))
  (refine SRt ?_; unfold RetQ; refine ⟨(), trivial, rfl, Keeps.refl⟩)
 | true =>
  obtain ⟨i0, a0, h0, hp0, hi0, hno⟩ := idx_some hany
  have hlt0 : i0 < l.length := (List.getElem?_eq_some_iff.1 h0).1
  rw [hi0] at hix
  refine Tri_of (N := Tryz.f106.ntmps) (c := bodyOf Tryz.f106) Tryz.func106 rfl rfl rfl rfl (fun w0 S0 => ?_)
  repeat' (first | refine SW ?_ | refine SD ?_ | (refine HO_k 12 rfl ?_; refine HO_callq rfl rfl rfl rfl (hix) (fun _ _ => rfl) ((AllSrc.via roC.length hk own_e (AllSrc.of fun f hf => ⟨f, List.mem_append.2 (.inl hf), Ent.rfl_⟩))) rfl rfl sqA ?_) | exact HO_seg rfl rfl | refine S1 ?_ | (refine S2 ?_; intro _) | (refine S3 ?_; intro _ _) | (refine S4 ?_; intro _ _ _) | (refine HO_g 2 rfl ?_; first | apply HO_a1 rfl | apply HO_o1 rfl) | refine S5 ?_ | (intro hb; try replace hb := simB hb; try exact kill hb))
  refine HC_loop (α := Nat × Nat × List (List Value)) (fun y => y.1 < y.2.1 ∧ y.2.1 ≤ l.length ∧ y.2.2.length = l.length ∧ WfL 3 y.2.2 ∧ y.2.2.take y.1 = (keptF p (l.take y.2.1)).map Nl.e ∧ y.1 = (keptF p (l.take y.2.1)).length ∧ y.2.2.drop y.2.1 = (l.map Nl.e).drop y.2.1)
   (fun y => [(6, .int .i64 y.2.1), (5, .int .i64 y.1), (0, .slice A l.length c), (1, .func (.func g) #[] cap.toArray)]) (fun y => [own idE 151 3 A l.length c y.2.2]) (fun y => l.length - y.2.1) rfl (i0, i0 + 1, l.map Nl.e)
   ⟨Nat.lt_succ_self _, hlt0, List.length_map _, WfL.map, by
    dsimp only
    unfold keptF
    rw [filter_pre h0 hp0 hno, List.map_take], by
    dsimp only
    unfold keptF
    rw [filter_pre h0 hp0 hno, List.length_take]
    omega, rfl⟩ ⟨rfl, rfl, rfl, rfl, trivial⟩ rfl ?_
  rintro ⟨i, j, X⟩ ⟨hij, hj, hXl, hXw, hXt, hi, hXd⟩
  dsimp only at hij hj hXl hXw hXt hi hXd ⊢
  clear hix hk
  rcases Nat.lt_or_ge j l.length with hlt | hge
  ·obtain ⟨x, hx⟩ : ∃ x, l[j]? = some x := ⟨l[j], List.getElem?_eq_getElem hlt⟩
   have hXj : X[j]? = some x.e := drop_at hXd (by rw [List.getElem?_map, hx]; rfl)
   have hpx := hp x (List.mem_of_getElem? hx)
   obtain ⟨r, hXi⟩ : ∃ r, X[i]? = some r := ⟨X[i], List.getElem?_eq_getElem (by omega)⟩
   have hks := keptF_snoc (p := p) hx
   cases hpv : p x with
   | true =>
    rw [hpv] at hpx hks
    simp only [if_true] at hks
    repeat' (first | refine SW ?_ | refine SD ?_ | (refine HO_k 12 rfl ?_; refine HO_callq rfl rfl rfl rfl (hpx) (fun _ _ => rfl) ((AllSrc.of fun f hf => ⟨f, List.mem_append.2 (.inl hf), Ent.rfl_⟩)) rfl rfl sqA ?_) | exact HO_seg rfl rfl | refine S1 ?_ | (refine S2 ?_; intro _) | (refine S3 ?_; intro _ _) | (refine S4 ?_; intro _ _ _) | (refine HO_g 2 rfl ?_; first | apply HO_a1 rfl | apply HO_o1 rfl) | refine S5 ?_ | (intro hb; try replace hb := simB hb; try exact kill hb))
    refine HX_keeps (rw' := [own idE 151 3 A l.length c X]) permA ?_
    exact HX_at (i, j + 1, X) ⟨⟨by show i < j + 1; omega, hlt, hXl, hXw, by rw [hks]; exact hXt, by rw [hks]; exact hi, drop_succ hXd⟩, by show l.length - (j + 1) < l.length - j; omega⟩ ⟨rfl, rfl, rfl, rfl, trivial⟩ rfl
   | false =>
    rw [hpv] at hpx hks
    simp only [Bool.false_eq_true, if_false] at hks
    repeat' (first | refine SW ?_ | refine SD ?_ | (refine HO_k 12 rfl ?_; refine HO_callq rfl rfl rfl rfl (hpx) (fun _ _ => rfl) ((AllSrc.of fun f hf => ⟨f, List.mem_append.2 (.inl hf), Ent.rfl_⟩)) rfl rfl sqA ?_) | (refine HO_k 3 rfl ?_; refine HO_stAn (vs := x.e) rfl rfl rfl rfl rfl rfl rfl rfl hXw hXi rfl rfl soA ?_) | exact HO_seg rfl rfl | refine S1 ?_ | (refine S2 ?_; intro _) | (refine S3 ?_; intro _ _) | (refine S4 ?_; intro _ _ _) | (refine HO_g 2 rfl ?_; first | apply HO_a1 rfl | apply HO_o1 rfl) | refine S5 ?_ | (intro hb; try replace hb := simB hb; try exact kill hb))
    refine HX_keeps (rw' := [own idE 151 3 A l.length c (X.set i x.e)]) permA ?_
    refine HX_at (i + 1, j + 1, X.set i x.e) ⟨⟨by show i + 1 < j + 1; omega, hlt, by show (X.set i x.e).length = l.length; rw [List.length_set]; exact hXl, ?_, ?_, ?_, ?_⟩, by show l.length - (j + 1) < l.length - j; omega⟩ ⟨rfl, rfl, rfl, rfl, trivial⟩ rfl
    ·intro y hy
     rcases List.mem_or_eq_of_mem_set hy with h | h
     ·exact hXw y h
     ·subst h
      exact ⟨rfl, rfl⟩
    ·show (X.set i x.e).take (i + 1) = _
     rw [set_take _ (by omega), hks, hXt, List.map_append]
     rfl
    ·show i + 1 = _
     rw [hks, List.length_append, ← hi]
     rfl
    ·show (X.set i x.e).drop (j + 1) = _
     rw [set_drop _ (by omega)]
     exact drop_succ hXd
  ·obtain rfl : j = l.length := by omega
   rw [List.take_length] at hXt hi
   have hcut : cutA A 3 c i = A.map fun a => a.add (i * 3) := by
    unfold cutA
    rw [if_neg (by omega)]
   subst hi
   repeat' (first | refine SW ?_ | refine SD ?_ | (refine HO_k 19 rfl ?_; refine HO_clr (keptF p l).length (l.length - (keptF p l).length) rfl rfl rfl rfl hij hcut hXw rfl rfl rfl rfl rfl soA ?_) | exact HO_seg rfl rfl | refine S1 ?_ | (refine S2 ?_; intro _) | (refine S3 ?_; intro _ _) | (refine S4 ?_; intro _ _ _) | (refine HO_g 2 rfl ?_; first | apply HO_a1 rfl | apply HO_o1 rfl) | refine S5 ?_ | (intro hb; try replace hb := simB hb; try exact kill hb))
   rw [hXt]
   (refine SRt ?_; unfold RetQ; refine ⟨(), trivial, rfl, Keeps.refl⟩)
end Go.Proofs.YtbhiojedmkcfoaaGreatDoor
