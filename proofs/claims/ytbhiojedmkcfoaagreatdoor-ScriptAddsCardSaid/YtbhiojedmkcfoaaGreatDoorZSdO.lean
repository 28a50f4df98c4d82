/- Part of a proof of many texts: what the theorem at its end leans on. -/
import Derived.Test.YtbhiojedmkcfoaaGreatDoorZSdM
import Derived.Test.YtbhiojedmkcfoaaGreatDoorZRowM
namespace Go.Proofs.YtbhiojedmkcfoaaGreatDoor
set_option linter.unusedVariables false
set_option linter.unusedSimpArgs false
open Go.RowKit
attribute [local irreducible] HC HX HO Tri eP adr
theorem SYSdO {p q : Prop} (hq : q) (h : q → p := by intro hq; refine HO_k 3 rfl ?_; exact HO_lastG (by decide +kernel) rfl rfl (by decide +kernel) (by decide +kernel) rfl hq) : p := h hq
@[reducible] def addT (s : ScS) (d : DoS) (A : Option Addr) (c : Nat) : ScS := ⟨s.c, A, c, s.l ++ [d]⟩
theorem addT_V {s : ScS} {d : DoS} (hs : ScV s) (hd : DoV d.q) (A : Option Addr) (c : Nat) : ScV (addT s d A c) := ⟨hs.1, fun e he => by
 rcases List.mem_append.1 he with h | h
 ·exact hs.2 e h
 ·have := List.mem_singleton.1 h
  subst this
  exact hd⟩
theorem addT_L {s : ScS} {d : DoS} {A : Option Addr} {c : Nat} (h : ScL (addT s d A c)) : ScL s :=
 ⟨h.1, by have := h.2.1; simp only [List.length_append] at this; omega, fun e he => h.2.2 e (List.mem_append.2 (.inl he))⟩
theorem addT_B {s : ScS} {d : DoS} {A : Option Addr} {c : Nat} (h : scB (addT s d A c) = true) : scB s = true := by
 unfold scB at h ⊢
 simp only [Bool.and_eq_true, decide_eq_true_eq, List.map_append, List.all_append, List.length_append] at h ⊢
 exact ⟨h.1, by omega, h.2.2.1⟩
theorem addT_enc (s : ScS) (d : DoS) (A : Option Addr) (c : Nat) : encM (addT s d A c).c.q (addT s d A c).q = encM s.c.q s.q ++ doB d.q := by
 have : (addT s d A c).q = s.q ++ [d.q] := by
  unfold ScS.q
  rw [List.map_append]
  rfl
 rw [this]
 exact enc_snoc _ _ _
theorem doB_pos (d : DoQ) : 0 < (doB d).length := by
 unfold doB
 simp
theorem add_src {src : List SL} {s : ScS} {d : DoS} (h1 : inn (doPs s.l) ∈ src) (h2 : ∀ e ∈ d.ro, e ∈ src) : SrcOk src (inn (doPs (s.l ++ [d]))) :=
 .inr ⟨_, rfl, fun f hf => by
  obtain ⟨x, hx, hf2⟩ := List.mem_flatMap.1 hf
  rcases List.mem_append.1 hx with h | h
  ·refine ⟨_, h1, ?_⟩
   simp only [DoS.ro, List.mem_cons, List.not_mem_nil, or_false] at hf2
   rcases hf2 with rfl | rfl | rfl
   ·exact inn_arr (do_mem h (.head _))
   ·exact inn_arr (do_mem h (.tail _ (.head _)))
   ·exact inn_arr (do_mem h (.tail _ (.tail _ (.head _))))
  ·have := List.mem_singleton.1 h
   subst this
   exact ⟨f, h2 f hf2, Ent.rfl_⟩⟩
theorem HC_knowA {P : Program} {N : Nat} {w0 : World} {S0 : Foot} {c : Code} {env : Env} {ro rw : List SL} {Q : Exit → Act → World → Prop} {C : Prop} (hC : ∀ w, RoOk (ro ++ rw) w → C) (h : C → HC P N w0 S0 c env ro rw Q) : HC P N w0 S0 c env ro rw Q := by
 unfold HC at h ⊢
 exact fun a S w ha hf => h (hC w hf.roOk) a S w ha hf
theorem HO_b2st {m : Md} {P : Program} {N : Nat} {w0 : World} {S0 : Foot} {ops : List Oper} {i : Nat} {lq : List Nat} {env : Env} {ro rw : List SL} {K : Act → World → Prop} {dn : Nat} {ty : TypeId} {pos : String} {aft : Array Edge} {g : Option (Nat × Bool)}
  {T U n c n2 c2 T2 : Nat} {A : Option Addr} {x : Operand} (l l2 : List UInt8) {e : Nat} [hT : TySlice P T e] [hE : TyInt P e .u8] [hU : TyStr P U] (k : Nat) (hm : plainM m = true) (ho : ops[i]? = some ⟨some dn, .convert T U x, ty, pos, aft, g⟩) (hx : Env.ev env x = some (.slice A n c))
  (hk : (ro ++ rw)[k]? = some (own idE T2 1 A n2 c2 ((l ++ l2).map bE))) (hn : n = l.length)
  (hw : wantE ops env g = some true) (hN : Nat.blt dn N = true) (hr : rdyB m ops i lq = true)
  (h : HO m P N w0 S0 ops lq ((dn, .string ⟨l.toArray⟩) :: env) ro rw K) : HO m P N w0 S0 ops (i :: lq) env ro rw K := by
 refine HO_b2s ho hx ⟨_, by rw [seeL_plain hm]; exact List.mem_of_getElem? hk, ?_⟩ hn hw hN hr h
 have h1 : Ent (own idE T2 1 A n2 c2 ((l ++ l2).map bE)) (arr idE 1 A ((l ++ l2).map bE)) := own_wf (fun y hy => by obtain ⟨b, _, rfl⟩ := List.mem_map.1 hy; exact ⟨rfl, rfl⟩)
 have h2 : Ent (arr idE 1 A ((l ++ l2).map bE)) (arr idE 1 A (((l ++ l2).map bE).take l.length)) := arr_take _
 have h3 : ((l ++ l2).map bE).take l.length = l.map bE := by
  rw [List.map_append, List.take_append_of_le_length (by simp), List.take_of_length_le (by simp)]
 rw [h3] at h2
 exact fun S w hp => h2 S w (h1 S w hp)
def scTyB (P : Program) (T a e : TypeId) : Bool := match P.underlying T with
 | some (.struct fs) => (match fs.toList.map (·.type) with
  | [x, b] => Nat.beq x a && (match P.underlying b with
   | some (.slice y) => Nat.beq y e
   | _ => false)
  | _ => false)
 | _ => false
theorem scTy_of {P : Program} {T a e : TypeId} (h : scTyB P T a e = true) : ∃ fs b, P.underlying T = some (.struct fs) ∧ fs.toList.map (·.type) = [a, b] ∧ P.underlying b = some (.slice e) := by
 unfold scTyB at h
 split at h
 ·rename_i fs hfs
  split at h
  ·rename_i x b hxb
   rw [Bool.and_eq_true] at h
   obtain ⟨h1, h2⟩ := h
   have := Nat.eq_of_beq_eq_true h1
   subst this
   split at h2
   ·rename_i y hy
    have := Nat.eq_of_beq_eq_true h2
    subst this
    exact ⟨fs, b, hfs, hxb, hy⟩
   ·cases h2
  ·cases h
 ·cases h
theorem tySc : scTyB Tryz.prog 77 26 97 = true := by kernel_rfl
theorem byDo : Tryz.prog.bytesOf 97 = 128 := by kernel_rfl
theorem sc_len {t1 : Tr} {A : Option Addr} {c : Nat} {l : List Tr} {s : ScS} (h : (Tr.agg [t1, .sl A c l]).val = .agg s.e.toArray) : s.l.length = l.length := by
 have h1 : t1.cells ++ [Value.slice A l.length c] = s.c.e ++ [.slice s.A s.l.length s.cap] := by simpa [Tr.val, cellsAll, Tr.cells] using h
 have h2 := List.append_inj_right' h1 rfl
 injection h2 with h3
 injection h3 with _ h4 _
 exact h4.symm
theorem rowSDm {f : Nat} {ro0 : List SL} {l : List Tr} {H : Type} {ds : List (DataW H)} (hl : ofAll [scShp, doShp] l) (hr : relAll l ds)
  (hw : ∃ X, (DataW.weightsEach Tryz.prog ([77, 97] ++ X) ds).all (· ≤ reachBytes) = true)
  (h : ∀ (s : ScS) (d : DoS), ScV s → DoV d.q → s.l.length * 128 ≤ 140737488351232 → Tri Tryz.prog f [.agg s.e.toArray, .agg d.e.toArray] (ro0 ++ (s.ro ++ d.ro)) [] (fun _ : Unit => True) (fun _ => .bool true) (fun _ => [])) :
  Tri Tryz.prog f (l.map Tr.val) (ro0 ++ pcsAll [scShp, doShp] l) [] (fun _ : Unit => True) (fun _ => .bool true) (fun _ => []) := by
 rw [ofAll] at hl
 obtain ⟨t1, l1, rfl, h1, hl⟩ := hl
 rw [ofAll] at hl
 obtain ⟨t2, l2, rfl, h2, hl⟩ := hl
 rw [ofAll] at hl
 subst hl
 obtain ⟨s, s1, s2, s3⟩ := sc_of h1
 obtain ⟨t, u1, u2, u3⟩ := do1_of h2
 have hn : s.l.length * 128 ≤ 140737488351232 := by
  unfold scShp at h1
  rw [Tr.of] at h1
  obtain ⟨l, rfl, h1⟩ := h1
  rw [ofAll] at h1
  obtain ⟨x1, l1, rfl, _, h1⟩ := h1
  rw [ofAll] at h1
  obtain ⟨x2, l2, rfl, h2, h1⟩ := h1
  rw [ofAll] at h1
  subst h1
  rw [Tr.of] at h2
  obtain ⟨A, c, l, rfl, _⟩ := h2
  rcases ds with _ | ⟨d1, r⟩
  ·exact absurd hr (by simp [relAll])
  ·have hr1 : rel _ d1 := (by simpa [relAll] using hr : _ ∧ _).1
   obtain ⟨X, hw⟩ := hw
   simp only [List.cons_append, DataW.weightsEach, List.all_append, Bool.and_eq_true] at hw
   obtain ⟨fs, b, e1, e2, e3⟩ := scTy_of tySc
   obtain ⟨d2, g1, g2⟩ := fld_fits e1 e2 hr1 hw.1
   have := sl_fits e3 g1 g2
   rw [byDo, ← sc_len s1] at this
   exact this
 have := h s t s2 u2 hn
 simp only [List.map_cons, List.map_nil, s1, u1]
 refine Tri_src this fun e he => ?_
 simp only [pcsAll, List.append_nil]
 rcases List.mem_append.1 he with he | he
 ·exact .inl ⟨e, List.mem_append.2 (.inl he), Ent.rfl_⟩
 rcases List.mem_append.1 he with he | he
 ·exact (s3 e he).mono fun f hf => List.mem_append.2 (.inr (List.mem_append.2 (.inl hf)))
 ·exact (u3 e he).mono fun f hf => List.mem_append.2 (.inr (List.mem_append.2 (.inr hf)))
set_option maxHeartbeats 1000000000 in
theorem lawAdds (m : Int) (s : ScS) (d : DoS) (hs : ScV s) (hd : DoV d.q) (hn : s.l.length * 128 ≤ 140737488351232) : Tri Tryz.prog 12 [.agg s.e.toArray, .agg d.e.toArray] ([tab1, glW, maxLen0 m] ++ (s.ro ++ d.ro)) [] (fun _ : Unit => True) (fun _ => .bool true) (fun _ => []) := by
 refine Tri_src (ro := [tab1, glW, maxLen0 m, arr IfQ.e 5 s.c.iA s.c.q.ifs, arr iE 1 s.c.dA s.c.q.deny, arr DoS.e 10 s.A s.l, inn (doPs s.l), inn (doPs (s.l ++ [d]))]) ?_ ?_
 rotate_left
 ·intro e he
  simp only [List.mem_cons, List.not_mem_nil, or_false] at he
  rcases he with rfl | rfl | rfl | rfl | rfl | rfl | rfl | rfl
  iterate 7 exact .inl ⟨_, by simp, Ent.rfl_⟩
  exact add_src (by simp) (fun e he => by
   simp only [List.mem_append]
   exact .inr (.inr he))
 have V := addT_V hs hd
 have hn1 : s.l.length * 128 + 128 ≤ 140737488355328 := by omega
 have hn2 : s.l.length + 1 ≤ 9223372036854775807 := by omega
 have c3 := lives27_t m
 have eL : 0 + s.l.length + 1 = (s.l ++ [d]).length := by simp
 have hmap : [] ++ List.map DoS.e s.l ++ [d.e] = List.map DoS.e (s.l ++ [d]) := by simp
 dsimp only [DoS.e] at hmap
 refine Tri_of (N := Tryz.f12.ntmps) (c := bodyOf Tryz.f12) Tryz.func12 rfl rfl rfl rfl (fun w0 S0 => ?_)
 dsimp only [ScS.e, DoS.e, CfS.e, lca, lna]
 repeat' (first | refine SW ?_ | refine SD ?_ | exact HO_seg rfl rfl | refine S1 ?_ | (refine S2 ?_; intro _) | (refine S3 ?_; intro _ _) | (refine S4 ?_; intro _ _ _) | (refine HO_g 2 rfl ?_; first | apply HO_a1 rfl | apply HO_o1 rfl) | refine SYSdO ?_ | refine S5n ?_ | (intro hb; try replace hb := simB hb; try exact kill hb))
 rename_i ba bb
 refine HC_cutP (α := Nat × OA) (fun _ => True) (fun z => [(5, pt z.1), (4, .bool false), (3, pt bb), (2, pt ba)]) (fun z => [cel z.1 77 (addT s d z.2.1 z.2.2).e, own idE TDo 10 z.2.1 (addT s d z.2.1 z.2.2).l.length z.2.2 ((addT s d z.2.1 z.2.2).l.map DoS.e), cel ba 77 s.e, cel bb 97 d.e]) ?_ ?_
 ·repeat' (first | refine SW ?_ | (refine HC_lex rfl rfl (by decide +kernel) rfl rfl ?_) | refine SD ?_ | (first | refine HO_3p 2 7 10 (by decide +kernel) rfl rfl rfl (by decide +kernel) ?_ ?_ ?_ | refine HO_3p 5 7 10 (by decide +kernel) rfl rfl rfl (by decide +kernel) ?_ ?_ ?_ | refine HO_2p 2 10 (by decide +kernel) rfl rfl (by decide +kernel) ?_ ?_ | refine HO_2p 2 7 (by decide +kernel) rfl rfl (by decide +kernel) ?_ ?_ | refine HO_2p 5 10 (by decide +kernel) rfl rfl (by decide +kernel) ?_ ?_ | refine HO_2p 5 7 (by decide +kernel) rfl rfl (by decide +kernel) ?_ ?_ | refine HO_2p 7 10 (by decide +kernel) rfl rfl (by decide +kernel) ?_ ?_ | refine HO_2p 8 10 (by decide +kernel) rfl rfl (by decide +kernel) ?_ ?_) | (refine HO_k 11 rfl ?_; refine HO_appw rfl rfl rfl rfl rfl rfl rfl rfl ?h1 ?h2 rfl rfl ?h3 ?h4 rfl rfl rfl ?h5 ?_; (case h1 => simp only [List.length_append, List.length_map, List.length_cons, List.length_nil, be_length]); (case h2 => repeat (first | exact WfL.nil | exact WfL.map | apply WfL.append | refine WfL.cons rfl rfl ?_ | assumption)); (case h3 => (try simp only [List.length_append, List.length_map, List.length_cons, List.length_nil, be_length]); (try omega)); (case h4 => (try simp only [List.length_append, List.length_map, List.length_cons, List.length_nil, be_length]); (try omega)); (case h5 => exact soA); intro _ _) | (refine HO_k 11 rfl ?_; refine HO_appr rfl rfl rfl rfl rfl rfl rfl rfl ?h1 ?h2 rfl rfl ?h3 ?h4 rfl rfl rfl ?h5 ?_; (case h1 => simp only [List.length_append, List.length_map, List.length_cons, List.length_nil, be_length]); (case h2 => repeat (first | exact WfL.nil | exact WfL.map | apply WfL.append | refine WfL.cons rfl rfl ?_ | assumption)); (case h3 => (try simp only [List.length_append, List.length_map, List.length_cons, List.length_nil, be_length]); (try omega)); (case h4 => (try simp only [List.length_append, List.length_map, List.length_cons, List.length_nil, be_length]); (try omega)); (case h5 => exact soA); intro _ _) | exact HO_seg rfl rfl | refine S1 ?_ | (refine S2 ?_; intro _) | (refine S3 ?_; intro _ _) | (refine S4 ?_; intro _ _ _) | (refine HO_g 2 rfl ?_; first | apply HO_a1 rfl | apply HO_o1 rfl) | refine SYSdO ?_ | refine S5 ?_ | (intro hb; try replace hb := simB hb; try exact kill hb))
  all_goals
   rw [eL, hmap]
   first
    | (rename_i A2 c2 b9; (refine HX_keeps (rw' := [cel _ 77 (addT s d A2 c2).e, own idE TDo 10 A2 (addT s d A2 c2).l.length c2 ((addT s d A2 c2).l.map DoS.e), cel ba 77 s.e, cel bb 97 d.e]) ?_ (HX_at (_, A2, c2) trivial ⟨rfl, rfl, rfl, rfl, trivial⟩ rfl); exact permA))
    | (rename_i A2 c2; (refine HX_keeps (rw' := [cel _ 77 (addT s d A2 c2).e, own idE TDo 10 A2 (addT s d A2 c2).l.length c2 ((addT s d A2 c2).l.map DoS.e), cel ba 77 s.e, cel bb 97 d.e]) ?_ (HX_at (_, A2, c2) trivial ⟨rfl, rfl, rfl, rfl, trivial⟩ rfl); exact permA))
 rintro ⟨b5, A, c⟩ -
 clear hmap eL
 dsimp only [ScS.e, DoS.e, CfS.e, lca, lna]
 have c1 := rlarge27_t (addT s d A c)
 have V := V A c
 have henc := addT_enc s d A c
 cases h1 : lgS (addT s d A c) with
 | true =>
  rw [h1] at c1
  dsimp only [ScS.e, ScS.ro, CfS.e, lca, lna] at c1
  repeat' (first | refine SW ?_ | ((refine HO_g 2 rfl ?_); (refine HO_skip rfl rfl rfl rfl rdA ?_)) | refine SD ?_ | (refine HO_k 12 rfl ?_; refine HO_callq rfl rfl rfl rfl (c1) (fun _ _ => rfl) ((AllSrc.at_ 3 rfl (AllSrc.at_ 4 rfl (AllSrc.own 9 rfl rfl (AllSrc.at_ 7 rfl trivial))))) rfl rfl sqA ?_) | (refine HO_k 12 rfl ?_; refine HO_callq rfl rfl rfl rfl (c3) (fun _ _ => rfl) (srcsA) rfl rfl sqA ?_) | exact HO_seg rfl rfl | refine S1 ?_ | (refine S2 ?_; intro _) | (refine S3 ?_; intro _ _) | (refine S4 ?_; intro _ _ _) | (refine HO_g 2 rfl ?_; first | apply HO_a1 rfl | apply HO_o1 rfl) | refine SYSdO ?_ | refine S5 ?_ | (intro hb; try replace hb := simB hb; try exact kill hb))
  (refine SR ?_; unfold RetQ; refine ⟨(), trivial, ?_, Keeps.nil⟩)
  rfl
 | false =>
  rw [h1] at c1
  have tL := lg_L V h1
  have sL := addT_L tL
  have c2 := rcheck27_t (addT s d A c) tL
  cases h2 : scB (addT s d A c) with
  | false =>
   rw [h2] at c2
   dsimp only [ScS.e, ScS.ro, CfS.e, lca, lna] at c1 c2
   repeat' (first | refine SW ?_ | ((refine HO_g 2 rfl ?_); (refine HO_skip rfl rfl rfl rfl rdA ?_)) | refine SD ?_ | (refine HO_k 12 rfl ?_; refine HO_callq rfl rfl rfl rfl (c1) (fun _ _ => rfl) ((AllSrc.at_ 3 rfl (AllSrc.at_ 4 rfl (AllSrc.own 9 rfl rfl (AllSrc.at_ 7 rfl trivial))))) rfl rfl sqA ?_) | (refine HO_k 12 rfl ?_; refine HO_callq rfl rfl rfl rfl (c2) (fun _ _ => rfl) ((AllSrc.at_ 3 rfl (AllSrc.at_ 4 rfl (AllSrc.own 9 rfl rfl (AllSrc.at_ 7 rfl trivial))))) rfl rfl sqA ?_) | (refine HO_k 12 rfl ?_; refine HO_callq rfl rfl rfl rfl (c3) (fun _ _ => rfl) (srcsA) rfl rfl sqA ?_) | exact HO_seg rfl rfl | refine S1 ?_ | (refine S2 ?_; intro _) | (refine S3 ?_; intro _ _) | (refine S4 ?_; intro _ _ _) | (refine HO_g 2 rfl ?_; first | apply HO_a1 rfl | apply HO_o1 rfl) | refine SYSdO ?_ | refine S5 ?_ | (intro hb; try replace hb := simB hb; try exact kill hb))
   (refine SR ?_; unfold RetQ; refine ⟨(), trivial, ?_, Keeps.nil⟩)
   rfl
  | true =>
   rw [h2] at c2
   have h3 := addT_B h2
   have hn3 : s.l.length ≤ 5000 := by
    unfold lgS at h1
    simp only [Bool.or_eq_false_iff, decide_eq_false_iff_not, List.length_append] at h1
    omega
   have c4 := senc_yes s sL h3
   have c5 := senc_yes (addT s d A c) tL h2
   have l1 := encM_len hn3 h3
   have l2 := encM_len (s := addT s d A c) (by
    unfold lgS at h1
    simp only [Bool.or_eq_false_iff, decide_eq_false_iff_not] at h1
    have := h1.2.2.1
    show (s.l ++ [d]).length ≤ 5000
    omega) h2
   rw [henc] at c5 l2
   have l3 := doB_pos d.q
   obtain ⟨E, hE⟩ : ∃ E, encM s.c.q s.q = E := ⟨_, rfl⟩
   obtain ⟨D, hD⟩ : ∃ D, doB d.q = D := ⟨_, rfl⟩
   rw [hE] at c4 c5 l1 l2
   rw [hD] at c5 l2 l3
   clear hE hD henc
   have l4 : (E.length : Int) < ((E ++ D).length : Int) := by rw [List.length_append]; omega
   dsimp only [ScS.e, ScS.ro, CfS.e, lca, lna] at c1 c2 c4 c5
   repeat' (first | refine SW ?_ | ((refine HO_g 2 rfl ?_); (refine HO_skip rfl rfl rfl rfl rdA ?_)) | refine SD ?_ | (refine HO_k 12 rfl ?_; refine HO_callq rfl rfl rfl rfl (c1) (fun _ _ => rfl) ((AllSrc.at_ 3 rfl (AllSrc.at_ 4 rfl (AllSrc.own 9 rfl rfl (AllSrc.at_ 7 rfl trivial))))) rfl rfl sqA ?_) | (refine HO_k 12 rfl ?_; refine HO_callq rfl rfl rfl rfl (c2) (fun _ _ => rfl) ((AllSrc.at_ 3 rfl (AllSrc.at_ 4 rfl (AllSrc.own 9 rfl rfl (AllSrc.at_ 7 rfl trivial))))) rfl rfl sqA ?_) | (refine HO_k 12 rfl ?_; refine HO_call rfl rfl rfl rfl (c4) rfl ((by repeat (first | exact trivial | refine AllSrc.mem_ (by simp only [List.mem_cons, List.mem_append, List.cons_append, List.nil_append, true_or, or_true, eq_self]) ?_))) rfl rfl soA ?_; intro x4 hx4; dsimp only [lca, lna]) | (refine HO_k 12 rfl ?_; refine HO_call rfl rfl rfl rfl (c5) rfl ((AllSrc.at_ 3 rfl (AllSrc.at_ 4 rfl (AllSrc.own 10 rfl rfl (AllSrc.at_ 7 rfl (AllSrc.at_ 0 rfl (AllSrc.at_ 1 rfl trivial))))))) rfl rfl soA ?_; intro x5 hx5; dsimp only [lca, lna]) | exact HO_seg rfl rfl | refine S1 ?_ | (refine S2 ?_; intro _) | (refine S3 ?_; intro _ _) | (refine S4 ?_; intro _ _ _) | (refine HO_g 2 rfl ?_; first | apply HO_a1 rfl | apply HO_o1 rfl) | refine SYSdO ?_ | refine S5n ?_ | (intro hb; try replace hb := simB hb; try exact kill hb))
   refine HC_knowA (C := (E ++ D).length ≤ x5.2) (fun w h => own_cap 8 rfl h) (fun hcap => ?_)
   have hcap2 : (E.length : Int) ≤ (x5.2 : Int) := by omega
   repeat' (first | refine SW ?_ | (refine HO_k 7 rfl ?_; first | refine HO_b2st E D 8 rfl rfl rfl rfl rfl rfl rfl rdA ?_ | refine HO_b2sk (l := E) 9 rfl rfl rfl rfl rfl rfl rfl rfl rdA ?_) | (with_reducible refine HO_rw (congrArg Value.bool (sba_eq _ _)) ?_) | ((refine HO_g 2 rfl ?_); (refine HO_skip rfl rfl rfl rfl rdA ?_)) | refine SD ?_ | (refine HO_k 12 rfl ?_; refine HO_callq rfl rfl rfl rfl (c3) (fun _ _ => rfl) (srcsA) rfl rfl sqA ?_) | exact HO_seg rfl rfl | refine S1 ?_ | (refine S2 ?_; intro _) | (refine S3 ?_; intro _ _) | (refine S4 ?_; intro _ _ _) | (refine HO_g 2 rfl ?_; first | apply HO_a1 rfl | apply HO_o1 rfl) | refine SYSdO ?_ | refine S5 ?_ | (intro hb; try replace hb := simB hb; try exact kill hb))
   (refine SR ?_; unfold RetQ; refine ⟨(), trivial, ?_, Keeps.nil⟩)
   rfl
end Go.Proofs.YtbhiojedmkcfoaaGreatDoor
