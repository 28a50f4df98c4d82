/- Part of a proof of many texts: what the theorem at its end leans on. -/
import Derived.Test.YtbhiojedmkcfoaaGreatDoorZSdA
import Derived.Test.YtbhiojedmkcfoaaGreatDoorZScX
import Derived.Test.YtbhiojedmkcfoaaGreatDoorZScE
import Derived.Test.YtbhiojedmkcfoaaGreatDoorZScD
namespace Go.Proofs.YtbhiojedmkcfoaaGreatDoor
set_option linter.unusedVariables false
set_option linter.unusedSimpArgs false
open Go.RowKit
attribute [local irreducible] HC HX HO Tri eP adr
theorem SYSdL {p q : Prop} (hq : q) (h : q → p := by intro hq; refine HO_k 3 rfl ?_; exact HO_lastG (by decide +kernel) rfl rfl (by decide +kernel) (by decide +kernel) rfl hq) : p := h hq
def lvL (T B : List UInt8) (y z : OA) (w1 w2 w3 : Nat) : List DoS := storyL T B y z w1 w2 ++ [mkDo { do0 with k := 6, n := 70000 } z0, mkDo { do0 with k := 9, rq := 3, rl := [⟨9, 8, true⟩] } ((none, 0), (none, 0), (some ⟨w3, 0, none⟩, 1))]
theorem lvL_q (y z : OA) (w1 w2 w3 : Nat) : (lvL theirsB stoB y z w1 w2 w3).map (·.q) = lvD := rfl
def lvSc (T B : List UInt8) (bi : Nat) (x y z : OA) (w1 w2 w3 : Nat) : ScS := ⟨smallS bi, x.1, x.2, lvL T B y z w1 w2 w3⟩
theorem lv_one : ∀ d ∈ lvD, oneQ d = true := by
 have : lvD.all oneQ = true := by decide +kernel
 exact List.all_eq_true.1 this
theorem lv_W {l : List DoS} (h : l.map (·.q) = lvD) : ∀ d ∈ l, DoW d.q := fun d hd => by
 have hm : d.q ∈ lvD := by
  rw [← h]
  exact List.mem_map.2 ⟨d, hd, rfl⟩
 exact W_one (lv_one _ hm) (lv_a _ hm)
theorem lv_L {iA : Option Addr} {ic : Nat} {dA : Option Addr} {dc : Nat} {A : Option Addr} {cap : Nat} {l : List DoS} (h : l.map (·.q) = lvD) : ScL ⟨⟨smallC, iA, ic, dA, dc⟩, A, cap, l⟩ := by
 have hl : l.length = 10 := by
  have := congrArg List.length h
  rw [List.length_map] at this
  exact this
 exact ⟨⟨by show 2 ≤ 100000; decide, by show 0 ≤ 100000; decide, lv_w.2.2.1, lv_w.2.2.2⟩, by show l.length ≤ 1000000; omega, lv_W h⟩
theorem lv_B {iA : Option Addr} {ic : Nat} {dA : Option Addr} {dc : Nat} {A : Option Addr} {cap : Nat} {l : List DoS} (h : l.map (·.q) = lvD) : scB ⟨⟨smallC, iA, ic, dA, dc⟩, A, cap, l⟩ = true := by
 have h2 := lv_ok
 unfold scOk at h2
 have hl : l.length = 10 := by
  have := congrArg List.length h
  rw [List.length_map] at this
  exact this
 show (cfOk smallC && (decide (l.length ≤ 4096) && (l.map (·.q)).all oneQ)) = true
 rw [h, hl, Bool.and_eq_true, Bool.and_eq_true]
 simp only [Bool.and_eq_true] at h2
 exact ⟨h2.1.1, rfl, h2.2⟩
theorem sc0_L : ScL sc0 := ⟨⟨by decide, by decide, by decide, fun x hx => (by cases hx)⟩, by decide, fun d hd => (by cases hd)⟩
theorem sc0_B : scB sc0 = false := by decide +kernel
def lvE : List UInt8 := encM smallC lvD
theorem lvE_len : lvE.length ≤ 5000 := by decide +kernel
theorem lvE_dec : decM lvE = some (smallC, lvD) := dec_enc smallC lvD lv_w lv_ok lv_a
theorem lvE_snoc : decM (lvE ++ [0]) = none := dec_snoc smallC lvD lv_w lv_ok lv_a
def mkX (x : DecX) : ScS := ⟨⟨smallC, x.1.1.1, x.1.1.2, x.1.2.1, x.1.2.2⟩, x.2.1.1, x.2.1.2, x.2.2⟩
theorem lvdec_t (m : Int) (A : Option Addr) (c : Nat) : Tri Tryz.prog 47 [.slice A lvE.length c] [arr bE 1 A lvE, glW, maxLen0 m] [] (fun x : DecX => x.2.2.map (·.q) = lvD) (fun x => .tuple #[.agg (mkX x).e.toArray, .int .i64 0]) (fun x => (mkX x).ro) := by
 have h := sdec_t m A c lvE (by have := lvE_len; omega)
 unfold decP decSc at h
 rw [lvE_dec] at h
 exact h
theorem lvdec2_t (m : Int) (A : Option Addr) (c : Nat) (n : Nat) (hn : n = (lvE ++ [0]).length) : Tri Tryz.prog 47 [.slice A n c] [arr bE 1 A (lvE ++ [0]), glW, maxLen0 m] [] (fun x : DecX => True) (fun x => .tuple #[.agg sc0.e.toArray, .int .i64 270]) (fun x => sc0.ro) := by
 subst hn
 have h := sdec_t m A c (lvE ++ [0]) (by have := lvE_len; simp; omega)
 unfold decP decSc at h
 rw [lvE_snoc] at h
 exact h
theorem lvsame (s t : ScS) (hs : s.c.q = smallC) (ht : t.c.q = smallC) (h1 : s.l.map (·.q) = lvD) (h2 : t.l.map (·.q) = lvD) : scSame s t = true := by
 unfold scSame ScS.q
 rw [hs, ht, h1, h2, cfsame_q]
 simp
theorem keeps_lv (T B : List UInt8) (y z : OA) (w1 w2 w3 : Nat) : Keeps [inn (doPs (storyL T B y z w1 w2)), own idE 174 3 (some ⟨w3, 0, none⟩) 1 1 ([(⟨9, 8, true⟩ : CarQ)].map CarQ.e)] [inn (doPs (lvL T B y z w1 w2 w3))] := by
 refine Keeps.inn_snoc (Keeps.cons (inn_ent fun f hf => ?_) Keeps.nil)
 unfold lvL doPs at hf
 rw [List.flatMap_append] at hf
 rcases List.mem_append.1 hf with hf | hf
 ·exact .inl ⟨f, List.mem_append.2 (.inl hf), Ent.rfl_⟩
 obtain ⟨d, hd, hf⟩ := List.mem_flatMap.1 hf
 simp only [List.mem_cons, List.not_mem_nil, or_false] at hd
 rcases hd with rfl | rfl
 all_goals
  simp only [DoS.ro, List.mem_cons, List.not_mem_nil, or_false] at hf
  rcases hf with rfl | rfl | rfl
 all_goals first
  | exact .inr (fun w => arr_nil _ w)
  | exact .inl ⟨own idE 174 3 (some ⟨w3, 0, none⟩) 1 1 ([(⟨9, 8, true⟩ : CarQ)].map CarQ.e), List.mem_append.2 (.inr List.mem_cons_self), own_e⟩
theorem scsame_q {s t : ScS} (h1 : s.c.q = t.c.q) (h2 : s.q = t.q) : scSame s t = true := by
 unfold scSame
 rw [h1, h2, cfsame_q]
 simp
set_option maxHeartbeats 1000000000 in
theorem lives27_t (m : Int) : Tri Tryz.prog 41 [] [tab1, glW, maxLen0 m] [] (fun _ : Unit => True) (fun _ => .bool true) (fun _ => []) := by
 have c1 := small26_t
 have c2 := story_t
 obtain ⟨T, hT⟩ : ∃ T, theirsB = T := ⟨_, rfl⟩
 obtain ⟨B, hB⟩ : ∃ B, stoB = B := ⟨_, rfl⟩
 rw [hT, hB] at c2
 dsimp only [smallS, CfS.e] at c1
 refine Tri_of (N := Tryz.f41.ntmps) (c := bodyOf Tryz.f41) Tryz.func41 rfl rfl rfl rfl (fun w0 S0 => ?_)
 refine HC_seq rfl ?_
 repeat' (first | (refine SW ?_) | refine S1 ?_ | (refine S2 ?_; intro _) | (refine S3 ?_; intro _ _) | (refine S4 ?_; intro _ _ _) | refine HC_ord rfl rfl rfl rfl ?_ | refine HX_then ?_)
 refine HC_seq rfl ?_
 refine HC_cutP (α := Nat × Nat × OA × OA × OA × Nat × Nat × Nat) (fun _ => True) (fun v => [(1, pt v.1)]) (fun v => [cel v.1 77 (lvSc T B v.2.1 v.2.2.1 v.2.2.2.1 v.2.2.2.2.1 v.2.2.2.2.2.1 v.2.2.2.2.2.2.1 v.2.2.2.2.2.2.2).e, arr IfQ.e 5 (some ⟨v.2.1, 0, none⟩) smallC.ifs, arr iE 1 none [], arr DoS.e 10 v.2.2.1.1 (lvL T B v.2.2.2.1 v.2.2.2.2.1 v.2.2.2.2.2.1 v.2.2.2.2.2.2.1 v.2.2.2.2.2.2.2), inn (doPs (lvL T B v.2.2.2.1 v.2.2.2.2.1 v.2.2.2.2.2.1 v.2.2.2.2.2.2.1 v.2.2.2.2.2.2.2))]) ?_ ?_
 ·repeat' (first | refine SW ?_ | refine SD ?_ | (refine HO_k 12 rfl ?_; refine HO_call rfl rfl rfl rfl (c1) rfl (trivial) rfl rfl soA ?_; intro bi hbi; dsimp only [lca, lna]) | (refine HO_k 12 rfl ?_; refine HO_call rfl rfl rfl rfl (c2) rfl (trivial) rfl rfl soA ?_; intro ⟨xo, y, z, w1, w2⟩ hst; dsimp only [lca, lna]) | (refine HO_k 11 rfl ?_; refine HO_appw rfl rfl rfl rfl rfl rfl rfl rfl ?h1 ?h2 rfl rfl ?h3 ?h4 rfl rfl rfl ?h5 ?_; (case h1 => simp only [storyL, List.length_append, List.length_map, List.length_cons, List.length_nil, be_length]); (case h2 => repeat (first | exact WfL.nil | exact WfL.map | apply WfL.append | refine WfL.cons rfl rfl ?_ | assumption)); (case h3 => (try simp only [storyL, List.length_append, List.length_map, List.length_cons, List.length_nil, be_length]); (try omega)); (case h4 => (try simp only [storyL, List.length_append, List.length_map, List.length_cons, List.length_nil, be_length]); (try omega)); (case h5 => exact soA); intro _ _) | exact HO_seg rfl rfl | refine S1 ?_ | (refine S2 ?_; intro _) | (refine S3 ?_; intro _ _) | (refine S4 ?_; intro _ _ _) | (refine HO_g 2 rfl ?_; first | apply HO_a1 rfl | apply HO_o1 rfl) | refine SYSdL ?_ | refine S5 ?_ | (intro hb; try replace hb := simB hb; try exact kill hb))
  rename_i w3 bz A4 c4 bt
  refine HX_keeps (rw' := [cel bt 77 (lvSc T B bi (A4, c4) y z w1 w2 w3).e, arr IfQ.e 5 (some ⟨bi, 0, none⟩) smallC.ifs, arr iE 1 none [], arr DoS.e 10 A4 (lvL T B y z w1 w2 w3), inn (doPs (lvL T B y z w1 w2 w3))]) ?_ ?_
  ·exact Keeps.cmp (show Keeps _ [cel bt 77 (lvSc T B bi (A4, c4) y z w1 w2 w3).e, own idE 101 5 (some ⟨bi, 0, none⟩) 2 2 (smallC.ifs.map IfQ.e), own idE TDo 10 A4 10 c4 ((lvL T B y z w1 w2 w3).map DoS.e), inn (doPs (storyL T B y z w1 w2)), own idE 174 3 (some ⟨w3, 0, none⟩) 1 1 ([(⟨9, 8, true⟩ : CarQ)].map CarQ.e)] from permA) (Keeps.cons Ent.rfl_ (Keeps.cons own_e (Keeps.add (fun w => arr_nil _ w) (Keeps.cons own_e (keeps_lv T B y z w1 w2 w3)))))
  ·exact HX_at (bt, bi, (A4, c4), y, z, w1, w2, w3) trivial ⟨rfl, trivial⟩ rfl
 rintro ⟨bt, bi, xo, y, z, w1, w2, w3⟩ -
 subst hT hB
 have hq := lvL_q y z w1 w2 w3
 dsimp only [lvSc]
 obtain ⟨l, hl⟩ : ∃ l, lvL theirsB stoB y z w1 w2 w3 = l := ⟨_, rfl⟩
 rw [hl] at hq ⊢
 clear hl c1 c2
 have sL : ScL ⟨smallS bi, xo.1, xo.2, l⟩ := lv_L hq
 have sB : scB ⟨smallS bi, xo.1, xo.2, l⟩ = true := lv_B hq
 have e1 := senc_yes ⟨smallS bi, xo.1, xo.2, l⟩ sL sB
 have hE : encM smallC (l.map (·.q)) = lvE := by rw [hq]; rfl
 change Tri _ _ _ _ _ (fun x : OA => True) (fun x => .tuple #[.slice x.1 (encM smallC (l.map (·.q))).length x.2, .int .i64 0]) (fun x => [ownB x (encM smallC (l.map (·.q)))]) at e1
 rw [hE] at e1
 have e2 := fun A c => lvdec_t m A c
 have e3 := fun A c n hn => lvdec2_t m A c n hn
 have e4 := Tri_ro (ro' := [tab1, glW]) (senc_no sc0 sc0_L sc0_B) (AllSrc.free (fun w => arr_nil _ w) (AllSrc.free (fun w => arr_nil _ w) (AllSrc.free (fun w => arr_nil _ w) (AllSrc.free inn_nil (AllSrc.at_ 0 rfl (AllSrc.at_ 1 rfl trivial))))))
 have g1 := fun (x : DecX) (hx : x.2.2.map (·.q) = lvD) => rsame27_t ⟨smallS bi, xo.1, xo.2, l⟩ (mkX x) sL (lv_L hx)
 have g2 := fun (x : DecX) (hx : x.2.2.map (·.q) = lvD) => ssame_t ⟨smallS bi, xo.1, xo.2, l⟩ (mkX x) sL (lv_L hx)
 have g3 := scheck_t ⟨smallS bi, xo.1, xo.2, l⟩ sL
 rw [sB] at g3
 simp only [if_true] at g3
 have g4 := Tri_ro (ro' := []) (scheck_t sc0 sc0_L) (AllSrc.free (fun w => arr_nil _ w) (AllSrc.free (fun w => arr_nil _ w) (AllSrc.free (fun w => arr_nil _ w) (AllSrc.free inn_nil trivial))))
 rw [sc0_B] at g4
 simp only [Bool.false_eq_true, if_false] at g4
 have s1 := fun (x : DecX) (hx : x.2.2.map (·.q) = lvD) => lvsame ⟨smallS bi, xo.1, xo.2, l⟩ (mkX x) rfl rfl hq hx
 have g1 := fun (x : DecX) (hx : x.2.2.map (·.q) = lvD) => (s1 x hx) ▸ (g1 x hx)
 have g2 := fun (x : DecX) (hx : x.2.2.map (·.q) = lvD) => (s1 x hx) ▸ (g2 x hx)
 have hlen := lvE_len
 clear hE s1
 obtain ⟨E, hE⟩ : ∃ E, lvE = E := ⟨_, rfl⟩
 simp only [hE] at e1 e2 e3 hlen
 clear hE
 dsimp only [ScS.e, ScS.ro, smallS, mkX, CfS.e, lca, lna] at e1 e2 e3 e4 g1 g2 g3 g4 ⊢
 repeat' (first | refine SW ?_ | (with_reducible refine HO_rw (congrArg Value.bool (sba_eq _ _)) ?_) | refine SD ?_ | (refine HO_k 12 rfl ?_; refine HO_call rfl rfl rfl rfl (e1) rfl (srcsA) rfl rfl soA ?_; intro x1 hx1; dsimp only [lca, lna]) | (refine HO_k 12 rfl ?_; refine HO_call rfl rfl rfl rfl (e2 _ _) rfl (srcsA) rfl rfl soA ?_; intro x2 hx2; dsimp only [lca, lna]) | (refine HO_k 12 rfl ?_; refine HO_call rfl rfl rfl rfl (e3 _ _ _ (by simp)) rfl ((AllSrc.own 3 rfl (by rw [List.map_append]; rfl) (AllSrc.at_ 1 rfl (AllSrc.at_ 2 rfl trivial)))) rfl rfl soA ?_; intro x3 hx3; dsimp only [lca, lna]) | (refine HO_k 12 rfl ?_; refine HO_callq rfl rfl rfl rfl (e4) (fun _ _ => rfl) (srcsA) rfl rfl sqA ?_) | (refine HO_k 12 rfl ?_; refine HO_callq rfl rfl rfl rfl (g1 x2 hx2) (fun _ _ => rfl) (srcM) rfl rfl sqA ?_) | (refine HO_k 12 rfl ?_; refine HO_callq rfl rfl rfl rfl (g2 x2 hx2) (fun _ _ => rfl) (srcM) rfl rfl sqA ?_) | (refine HO_k 12 rfl ?_; refine HO_callq rfl rfl rfl rfl (g3) (fun _ _ => rfl) (srcM) rfl rfl sqA ?_) | (refine HO_k 12 rfl ?_; refine HO_callq rfl rfl rfl rfl (g4) (fun _ _ => rfl) (trivial) rfl rfl sqA ?_) | (refine HO_k 11 rfl ?_; refine HO_appw rfl rfl rfl rfl rfl rfl rfl rfl ?h1 ?h2 rfl rfl ?h3 ?h4 rfl rfl rfl ?h5 ?_; (case h1 => simp only [List.length_append, List.length_map, List.length_cons, List.length_nil, be_length]); (case h2 => repeat (first | exact WfL.nil | exact WfL.map | apply WfL.append | refine WfL.cons rfl rfl ?_ | assumption)); (case h3 => (try simp only [List.length_append, List.length_map, List.length_cons, List.length_nil, be_length]); (try omega)); (case h4 => (try simp only [List.length_append, List.length_map, List.length_cons, List.length_nil, be_length]); (try omega)); (case h5 => exact soA); intro _ _) | exact HO_seg rfl rfl | refine S1 ?_ | (refine S2 ?_; intro _) | (refine S3 ?_; intro _ _) | (refine S4 ?_; intro _ _ _) | (refine HO_g 2 rfl ?_; first | apply HO_a1 rfl | apply HO_o1 rfl) | refine SYSdL ?_ | refine S5 ?_ | (intro hb; try replace hb := simB hb; try exact kill hb))
 (refine SR ?_; unfold RetQ; refine ⟨(), trivial, ?_, Keeps.nil⟩)
 rfl
end Go.Proofs.YtbhiojedmkcfoaaGreatDoor
