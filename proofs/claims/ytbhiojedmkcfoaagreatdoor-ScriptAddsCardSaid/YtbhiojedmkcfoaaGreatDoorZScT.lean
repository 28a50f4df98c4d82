/- Part of a proof of many texts: what the theorem at its end leans on. -/
import Derived.Test.YtbhiojedmkcfoaaGreatDoorZScP
import Derived.Test.YtbhiojedmkcfoaaGreatDoorZSc0
namespace Go.Proofs.YtbhiojedmkcfoaaGreatDoor
set_option linter.unusedVariables false
set_option linter.unusedSimpArgs false
open Go.RowKit
attribute [local irreducible] HC HX HO Tri eP adr
def msgB (k : Nat) (body : List UInt8) : List UInt8 := List.replicate 16 255 ++ (be 2 (body.length + 19) ++ (UInt8.ofNat k :: body))
def capB : List UInt8 := [1, 4, 0, 1, 0, 1] ++ ([65, 4] ++ (be 4 65000 ++ [69, 4, 0, 1, 1, 2]))
def openB : List UInt8 := [4] ++ (be 2 65000 ++ (be 2 60 ++ (be 4 2 ++ ([20, 2, 18] ++ capB))))
def theirsB : List UInt8 := msgB 1 openB ++ msgB 4 []
def tellU (a i nx : Nat) : List UInt8 := bodyB (nlsB true []) (putB 4 ⟨0, [(false, [7])], nx, -1, 100 - i, []⟩) (nlsB true [⟨(i : Int) + 1, a, 16⟩])
def tellB (a n1 n2 : Nat) : List UInt8 := msgB 2 (tellU a 0 n1) ++ msgB 2 (tellU a 1 n2)
def bothQ (q x y : Int) : DoQ := { do0 with k := 8, cq := q, cl := [⟨167837696, 16, x⟩, ⟨167903232, 16, y⟩] }
def storyQ : List DoQ := [{ do0 with k := 1 }, { do0 with k := 3 }, { do0 with k := 5, data := theirsB }, { do0 with k := 5, data := tellB 167837696 167772161 184549377 ++ tellB 167903232 167772161 184549377 }, bothQ 1 0 0, { do0 with k := 7 }, bothQ 2 60 50, { do0 with k := 7 }]
def lvD : List DoQ := storyQ ++ [{ do0 with k := 6, n := 70000 }, { do0 with k := 9, rq := 3, rl := [⟨9, 8, true⟩] }]
def smallC : CfQ := { firstQ with nums := [65000, 0, 90, 30, 1, 1, 0, 900, 700, 16, 1, 50, 1, 120, 1000, 2, 65536, 65536], ifs := [⟨1, 0, 167772160, 8, 100⟩, ⟨2, 0, 184549376, 8, 100⟩] }
theorem lv_ok : scOk smallC lvD = true := by decide +kernel
theorem lv_w : CfW smallC := ⟨rfl, rfl, by decide, fun x hx => by
 have : x = ⟨1, 0, 167772160, 8, 100⟩ ∨ x = ⟨2, 0, 184549376, 8, 100⟩ := by simpa [smallC] using hx
 rcases this with rfl | rfl <;> decide⟩
theorem lv_a : ∀ d ∈ lvD, AllA d := by
 have : (lvD.all fun d => d.cl.all fun c => decide (c.a < 4294967296)) = true := by decide +kernel
 intro d hd c hc
 simpa using List.all_eq_true.1 (List.all_eq_true.1 this d hd) c hc
theorem getA_app (r : List UInt8) (hr : getA r = none) : ∀ ds : List DoQ, (∀ d ∈ ds, oneQ d = true ∧ AllA d) → getA (ds.flatMap doB ++ r) = none
 | [], _ => hr
 | d :: ds, h => by
  have h1 := h d List.mem_cons_self
  rw [List.flatMap_cons, List.append_assoc, getA_cons (by unfold doB; simp), getD_doB d h1.2 h1.1]
  simp only
  rw [getA_app r hr ds (fun x hx => h x (List.mem_cons_of_mem _ hx))]
theorem getA_zero : getA [0] = none := by decide +kernel
theorem dec_snoc (q : CfQ) (ds : List DoQ) (hw : CfW q) (h : scOk q ds = true) (ha : ∀ d ∈ ds, AllA d) : decM (encM q ds ++ [0]) = none := by
 unfold scOk at h
 simp only [Bool.and_eq_true, decide_eq_true_eq, List.all_eq_true] at h
 unfold decM encM
 rw [List.append_assoc, decH_enc q hw h.1.1]
 simp only
 rw [getA_app [0] getA_zero ds (fun d hd => ⟨h.2 d hd, ha d hd⟩)]
set_option maxHeartbeats 16000000 in
theorem rput3_t (k : Nat) (hk : k < 256) (A : Option Addr) (c : Nat) (l : List UInt8) (hl : l.length ≤ 60000) :
  Tri Tryz.prog 204 [.agg #[.int .i64 k, .slice A l.length c]] [arr bE 1 A l] [] (fun _ : OA => True) (fun x => .slice x.1 (msgB k l).length x.2) (fun x => [ownB x (msgB k l)]) := by
 have hp := rput_t 2 (l.length + 19) (by decide) (by omega)
 have ebk : bE (UInt8.ofNat k) = [Value.int .u8 (k : Int)] := by simp [bE]; omega
 refine Tri_of (N := Tryz.f204.ntmps) (c := bodyOf Tryz.f204) Tryz.func204 rfl rfl rfl rfl (fun w0 S0 => ?_)
 repeat' (first | refine SW ?_ | refine SD ?_ | exact HO_seg rfl rfl | refine S1 ?_ | (refine S2 ?_; intro _) | (refine S3 ?_; intro _ _) | (refine S4 ?_; intro _ _ _) | (refine HO_g 2 rfl ?_; first | apply HO_a1 rfl | apply HO_o1 rfl) | refine S5 ?_ | (intro hb; try replace hb := simB hb; try exact kill hb))
 rename_i bs
 refine HC_keeps (rw' := [ownB (none, 0) [], cel bs 283 [.int .i64 k, .slice A l.length c]]) (Keeps.add (fun w => own_nil w) Keeps.refl) ?_
 refine HC_loop (α := Nat × OA) (fun x => x.1 ≤ 16) (fun x => [(4, .int .i64 x.1), (3, .slice x.2.1 (List.replicate x.1 (255 : UInt8)).length x.2.2), (1, pt bs)]) (fun x => [ownB x.2 (List.replicate x.1 255), cel bs 283 [.int .i64 k, .slice A l.length c]]) (fun x => 16 - x.1) rfl (0, (none, 0)) (by decide) ⟨rfl, rfl, rfl, trivial⟩ rfl ?_
 rintro ⟨j, xo⟩ hj
 dsimp only at hj ⊢
 rcases Nat.lt_or_ge j 16 with hlt | hge
 ·repeat' (first | refine SW ?_ | refine SD ?_ | (refine HO_k 11 rfl ?_; refine HO_appw rfl rfl rfl rfl rfl rfl rfl rfl ?h1 ?h2 rfl rfl ?h3 ?h4 rfl rfl rfl ?h5 ?_; (case h1 => simp only [List.length_append, List.length_map, List.length_cons, List.length_nil, be_length]); (case h2 => repeat (first | exact WfL.nil | exact WfL.map | apply WfL.append | refine WfL.cons rfl rfl ?_ | assumption)); (case h3 => (try simp only [List.length_append, List.length_map, List.length_cons, List.length_nil, be_length]); (try omega)); (case h4 => (try simp only [List.length_append, List.length_map, List.length_cons, List.length_nil, be_length]); (try omega)); (case h5 => exact soA); intro _ _) | exact HO_seg rfl rfl | refine S1 ?_ | (refine S2 ?_; intro _) | (refine S3 ?_; intro _ _) | (refine S4 ?_; intro _ _ _) | (refine HO_g 2 rfl ?_; first | apply HO_a1 rfl | apply HO_o1 rfl) | refine S5 ?_ | (intro hb; try replace hb := simB hb; try exact kill hb))
  rename_i A4 c4
  have hN : (List.replicate j (255 : UInt8)).length + 1 = (List.replicate (j + 1) (255 : UInt8)).length := by simp
  refine HX_keeps (rw' := [ownB (A4, c4) (List.replicate (j + 1) 255), cel bs 283 [.int .i64 k, .slice A l.length c]]) ?_ ?_
  ·dsimp only [ownB]
   rw [← hN, List.replicate_succ', List.map_append]
   exact permA
  ·exact HX_at (j + 1, (A4, c4)) ⟨hlt, by show 16 - (j + 1) < 16 - j; omega⟩ (by dsimp only; rw [← hN]; exact ⟨rfl, rfl, rfl, trivial⟩) rfl
 obtain rfl : j = 16 := by omega
 obtain ⟨H, hH⟩ : ∃ H, List.replicate 16 (255 : UInt8) = H := ⟨_, rfl⟩
 have hHl : H.length = 16 := by rw [← hH]; rfl
 have hM : msgB k l = H ++ (be 2 (l.length + 19) ++ (UInt8.ofNat k :: l)) := by rw [← hH]; rfl
 rw [hH, hM]
 repeat' (first | refine SW ?_ | refine SD ?_ | (refine HO_k 12 rfl ?_; refine HO_call rfl rfl rfl rfl (hp) rfl (trivial) rfl rfl soA ?_; intro x1 hx1; dsimp only [lca, lna]) | (with_reducible refine HO_u8n ?_) | (refine HO_k 11 rfl ?_; refine HO_appw rfl rfl rfl rfl rfl rfl rfl rfl ?h1 ?h2 rfl rfl ?h3 ?h4 rfl rfl rfl ?h5 ?_; (case h1 => simp only [List.length_append, List.length_map, List.length_cons, List.length_nil, be_length]); (case h2 => repeat (first | exact WfL.nil | exact WfL.map | apply WfL.append | refine WfL.cons rfl rfl ?_ | assumption)); (case h3 => (try simp only [List.length_append, List.length_map, List.length_cons, List.length_nil, be_length]); (try omega)); (case h4 => (try simp only [List.length_append, List.length_map, List.length_cons, List.length_nil, be_length]); (try omega)); (case h5 => exact soA); intro _ _) | (refine HO_k 11 rfl ?_; refine HO_appr rfl rfl rfl rfl rfl rfl rfl rfl ?h1 ?h2 rfl rfl ?h3 ?h4 rfl rfl rfl ?h5 ?_; (case h1 => simp only [List.length_append, List.length_map, List.length_cons, List.length_nil, be_length]); (case h2 => repeat (first | exact WfL.nil | exact WfL.map | apply WfL.append | refine WfL.cons rfl rfl ?_ | assumption)); (case h3 => (try simp only [List.length_append, List.length_map, List.length_cons, List.length_nil, be_length]); (try omega)); (case h4 => (try simp only [List.length_append, List.length_map, List.length_cons, List.length_nil, be_length]); (try omega)); (case h5 => exact soA); intro _ _) | exact HO_seg rfl rfl | refine S1 ?_ | (refine S2 ?_; intro _) | (refine S3 ?_; intro _ _) | (refine S4 ?_; intro _ _ _) | (refine HO_g 2 rfl ?_; first | apply HO_a1 rfl | apply HO_o1 rfl) | refine S5 ?_ | (intro hb; try replace hb := simB hb; try exact kill hb))
 rename_i A4 c4
 refine HX_keeps (rw' := [own idE 5 1 A4 _ c4 _]) (Keeps.pick 1 rfl rfl Keeps.nil) ?_
 (first | apply HX_ret | apply HX_retn)
 (repeat (first | exact Res_nil | apply Res_tmp rfl | apply Res_ce rfl rfl rfl))
 unfold RetQ
 exact ⟨(A4, c4), trivial, congrArg (fun q => Value.slice A4 q c4) (by simp [be_length]; omega), Keeps.own_cons Keeps.nil (by simp [be_length]; omega) (by simp only [List.map_cons, List.map_append, ebk, List.cons_append, List.nil_append, List.append_assoc, List.map_nil])⟩
@[reducible] def othV : Value := .agg #[.int .i64 65000, .int .i64 60, .int .u32 2, .bool true, .int .i64 2]
theorem other_t : Tri Tryz.prog 203 [] [] [] (fun _ : Unit => True) (fun _ => othV) (fun _ => []) := by
 refine Tri_of (N := Tryz.f203.ntmps) (c := bodyOf Tryz.f203) Tryz.func203 rfl rfl rfl rfl (fun w0 S0 => ?_)
 repeat' (first | refine SW ?_ | refine SD ?_ | exact HO_seg rfl rfl | refine S1 ?_ | (refine S2 ?_; intro _) | (refine S3 ?_; intro _ _) | (refine S4 ?_; intro _ _ _) | (refine HO_g 2 rfl ?_; first | apply HO_a1 rfl | apply HO_o1 rfl) | refine S5 ?_ | (intro hb; try replace hb := simB hb; try exact kill hb))
 (refine SR ?_; unfold RetQ; refine ⟨(), trivial, ?_, Keeps.nil⟩)
 rfl
set_option maxHeartbeats 16000000 in
theorem rput4_t : Tri Tryz.prog 240 [othV] [] [] (fun _ : OA => True) (fun x => .slice x.1 openB.length x.2) (fun x => [ownB x openB]) := by
 have p1 := rput_t 4 65000 (by decide) (by decide)
 have p2 := rput_t 2 65000 (by decide) (by decide)
 have p3 := rput_t 2 60 (by decide) (by decide)
 have p4 := rput_t 4 2 (by decide) (by decide)
 refine Tri_of (N := Tryz.f240.ntmps) (c := bodyOf Tryz.f240) Tryz.func240 rfl rfl rfl rfl (fun w0 S0 => ?_)
 repeat' (first | refine SW ?_ | refine SD ?_ | (refine HO_k 12 rfl ?_; refine HO_call rfl rfl rfl rfl (p1) rfl (trivial) rfl rfl soA ?_; intro x1 hx1; dsimp only [lca, lna]) | (refine HO_k 12 rfl ?_; refine HO_call rfl rfl rfl rfl (p2) rfl (trivial) rfl rfl soA ?_; intro x2 hx2; dsimp only [lca, lna]) | (refine HO_k 12 rfl ?_; refine HO_call rfl rfl rfl rfl (p3) rfl (trivial) rfl rfl soA ?_; intro x3 hx3; dsimp only [lca, lna]) | (refine HO_k 12 rfl ?_; refine HO_call rfl rfl rfl rfl (p4) rfl (trivial) rfl rfl soA ?_; intro x4 hx4; dsimp only [lca, lna]) | (with_reducible refine HO_u8n ?_) | (refine HO_k 11 rfl ?_; refine HO_appw rfl rfl rfl rfl rfl rfl rfl rfl ?h1 ?h2 rfl rfl ?h3 ?h4 rfl rfl rfl ?h5 ?_; (case h1 => simp only [List.length_append, List.length_map, List.length_cons, List.length_nil, be_length]); (case h2 => repeat (first | exact WfL.nil | exact WfL.map | apply WfL.append | refine WfL.cons rfl rfl ?_ | assumption)); (case h3 => (try simp only [List.length_append, List.length_map, List.length_cons, List.length_nil, be_length]); (try omega)); (case h4 => (try simp only [List.length_append, List.length_map, List.length_cons, List.length_nil, be_length]); (try omega)); (case h5 => exact soA); intro _ _) | (refine HO_k 11 rfl ?_; refine HO_appr rfl rfl rfl rfl rfl rfl rfl rfl ?h1 ?h2 rfl rfl ?h3 ?h4 rfl rfl rfl ?h5 ?_; (case h1 => simp only [List.length_append, List.length_map, List.length_cons, List.length_nil, be_length]); (case h2 => repeat (first | exact WfL.nil | exact WfL.map | apply WfL.append | refine WfL.cons rfl rfl ?_ | assumption)); (case h3 => (try simp only [List.length_append, List.length_map, List.length_cons, List.length_nil, be_length]); (try omega)); (case h4 => (try simp only [List.length_append, List.length_map, List.length_cons, List.length_nil, be_length]); (try omega)); (case h5 => exact soA); intro _ _) | exact HO_seg rfl rfl | refine S1 ?_ | (refine S2 ?_; intro _) | (refine S3 ?_; intro _ _) | (refine S4 ?_; intro _ _ _) | (refine HO_g 2 rfl ?_; first | apply HO_a1 rfl | apply HO_o1 rfl) | refine S5 ?_ | (intro hb; try replace hb := simB hb; try exact kill hb))
 rename_i A4 c4
 have e1 : Value.int IntKind.u8 ((((6 + 2 + 4 + 6 : Nat) : Int)) + 2) = Value.int IntKind.u8 20 := rfl
 refine HX_keeps (rw' := [own idE 5 1 A4 _ c4 _]) (Keeps.pick 0 rfl rfl Keeps.nil) ?_
 (first | apply HX_ret | apply HX_retn)
 (repeat (first | exact Res_nil | apply Res_tmp rfl | apply Res_ce rfl rfl rfl))
 unfold RetQ
 exact ⟨(A4, c4), trivial, congrArg (fun q => Value.slice A4 q c4) (by decide), Keeps.own_cons Keeps.nil (by decide) (by unfold openB capB; simp only [List.map_append, List.append_assoc]; rfl)⟩
set_option maxHeartbeats 16000000 in
theorem theirs_t : Tri Tryz.prog 202 [othV] [] [] (fun _ : OA => True) (fun x => .slice x.1 theirsB.length x.2) (fun x => [ownB x theirsB]) := by
 have p1 := rput4_t
 have p2 := fun A c => rput3_t 1 (by decide) A c openB (by decide)
 have p3 := Tri_free (rput3_t 4 (by decide) none 0 [] (by decide)) (fun w => arr_nil _ w)
 have hl1 : (msgB 1 openB).length ≤ 100 := by decide
 have hl2 : (msgB 4 []).length ≤ 100 := by decide
 have hT : theirsB = msgB 1 openB ++ msgB 4 [] := rfl
 rw [hT]
 obtain ⟨M1, hM1⟩ : ∃ M, msgB 1 openB = M := ⟨_, rfl⟩
 obtain ⟨M2, hM2⟩ : ∃ M, msgB 4 [] = M := ⟨_, rfl⟩
 obtain ⟨O, hO⟩ : ∃ M, openB = M := ⟨_, rfl⟩
 simp only [hM1, hM2] at p2 p3 hl1 hl2 ⊢
 simp only [hO] at p1 p2
 clear hM1 hM2 hO hT
 refine Tri_of (N := Tryz.f202.ntmps) (c := bodyOf Tryz.f202) Tryz.func202 rfl rfl rfl rfl (fun w0 S0 => ?_)
 repeat' (first | refine SW ?_ | refine SD ?_ | (refine HO_k 12 rfl ?_; refine HO_call rfl rfl rfl rfl (p1) rfl (trivial) rfl rfl soA ?_; intro x1 hx1; dsimp only [lca, lna]) | (refine HO_k 12 rfl ?_; refine HO_call rfl rfl rfl rfl (p2 _ _) rfl (srcsA) rfl rfl soA ?_; intro x2 hx2; dsimp only [lca, lna]) | (refine HO_k 12 rfl ?_; refine HO_call rfl rfl rfl rfl (p3) rfl (trivial) rfl rfl soA ?_; intro x3 hx3; dsimp only [lca, lna]) | (refine HO_k 11 rfl ?_; refine HO_appw rfl rfl rfl rfl rfl rfl rfl rfl ?h1 ?h2 rfl rfl ?h3 ?h4 rfl rfl rfl ?h5 ?_; (case h1 => simp only [List.length_append, List.length_map, List.length_cons, List.length_nil, be_length]); (case h2 => repeat (first | exact WfL.nil | exact WfL.map | apply WfL.append | refine WfL.cons rfl rfl ?_ | assumption)); (case h3 => (try simp only [List.length_append, List.length_map, List.length_cons, List.length_nil, be_length]); (try omega)); (case h4 => (try simp only [List.length_append, List.length_map, List.length_cons, List.length_nil, be_length]); (try omega)); (case h5 => exact soA); intro _ _) | (refine HO_k 11 rfl ?_; refine HO_appr rfl rfl rfl rfl rfl rfl rfl rfl ?h1 ?h2 rfl rfl ?h3 ?h4 rfl rfl rfl ?h5 ?_; (case h1 => simp only [List.length_append, List.length_map, List.length_cons, List.length_nil, be_length]); (case h2 => repeat (first | exact WfL.nil | exact WfL.map | apply WfL.append | refine WfL.cons rfl rfl ?_ | assumption)); (case h3 => (try simp only [List.length_append, List.length_map, List.length_cons, List.length_nil, be_length]); (try omega)); (case h4 => (try simp only [List.length_append, List.length_map, List.length_cons, List.length_nil, be_length]); (try omega)); (case h5 => exact soA); intro _ _) | exact HO_seg rfl rfl | refine S1 ?_ | (refine S2 ?_; intro _) | (refine S3 ?_; intro _ _) | (refine S4 ?_; intro _ _ _) | (refine HO_g 2 rfl ?_; first | apply HO_a1 rfl | apply HO_o1 rfl) | refine S5 ?_ | (intro hb; try replace hb := simB hb; try exact kill hb))
 rename_i A4 c4
 have ebk : True := trivial
 refine HX_keeps (rw' := [own idE 5 1 A4 _ c4 _]) (Keeps.pick 0 rfl rfl Keeps.nil) ?_
 (first | apply HX_ret | apply HX_retn)
 (repeat (first | exact Res_nil | apply Res_tmp rfl | apply Res_ce rfl rfl rfl))
 unfold RetQ
 exact ⟨(A4, c4), trivial, congrArg (fun q => Value.slice A4 q c4) (by simp), Keeps.own_cons Keeps.nil (by simp) (by rw [List.map_append])⟩
end Go.Proofs.YtbhiojedmkcfoaaGreatDoor
