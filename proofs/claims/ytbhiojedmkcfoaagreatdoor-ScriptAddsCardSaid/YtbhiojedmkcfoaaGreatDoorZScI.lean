/- Part of a proof of many texts: what the theorem at its end leans on. -/
import Derived.Test.YtbhiojedmkcfoaaGreatDoorZScD
import Derived.Test.YtbhiojedmkcfoaaGreatDoorZCgG
namespace Go.Proofs.YtbhiojedmkcfoaaGreatDoor
set_option linter.unusedVariables false
set_option linter.unusedSimpArgs false
open Go.RowKit
attribute [local irreducible] HC HX HO Tri eP adr
theorem numsOf_at (q : CfQ) (i : Nat) (h : i < 18) : (numsOf q)[i]? = some (if i = 1 then 0 else num q i) := by
 by_cases h1 : i = 1
 ·subst h1; rfl
 ·rw [if_neg h1]; exact nums_at q h h1
theorem fix_txt (c : CfQ) (i : Nat) (w : List UInt8) (hw : wordsL.getD i [] = w) (out : List UInt8) (h1 : i ≠ 1) : (((out ++ w) ++ [32]) ++ decD (num c i).toNat) ++ [10] = out ++ (fixL c i ++ [10]) := by
 unfold fixL
 rw [if_neg h1, hw]
 simp
theorem fix_txt1 (c : CfQ) (w : List UInt8) (hw : wordsL.getD 1 [] = w) (out : List UInt8) : (((out ++ w) ++ [32]) ++ dotS c.id) ++ [10] = out ++ (fixL c 1 ++ [10]) := by
 unfold fixL
 rw [if_pos rfl, hw]
 simp
theorem if_txt (x : IfQ) (out : List UInt8) : ((((((((out ++ [105, 102, 97, 99, 101, 32]) ++ decD x.id.toNat) ++ [32]) ++ decD x.router.toNat) ++ [32]) ++ shoS x.a x.n) ++ [32]) ++ decD x.cap.toNat) ++ [10] = out ++ (ifL x ++ [10]) := by
 unfold ifL ifaceW
 simp
theorem deny_txt (n : Int) (out : List UInt8) : ((out ++ [100, 101, 110, 121, 32]) ++ decD n.toNat) ++ [10] = out ++ (denyL n ++ [10]) := by
 unfold denyL denyW
 simp
theorem rdigI_t (z : Int) (h : 0 ≤ z ∧ z < 10000000000000000) : Tri Tryz.prog 76 [.int .i64 z] [] [] (fun _ : Unit => True) (fun _ => .string ⟨(decD z.toNat).toArray⟩) (fun _ => []) := by
 have := rdigD_t z.toNat (by omega)
 rw [show ((z.toNat : Nat) : Int) = z by omega] at this
 exact this
set_option maxHeartbeats 16000000 in
theorem rshow19_t (c : CfS) (hc : CfL c) (hok : cfOk c.q = true) : Tri Tryz.prog 21 [.agg c.e.toArray] c.ro [] (fun _ : Unit => True) (fun _ => .string ⟨(txt (linesOf c.q)).toArray⟩) (fun _ => []) := by
 have hW := rwords_t
 have hN := rnums_t c
 dsimp only [CfS.e] at hN
 have htl := text_len c.q hok
 have hll := linesOf_len c.q
 have hpp := cfOk_parts hok
 refine Tri_of (N := Tryz.f21.ntmps) (c := bodyOf Tryz.f21) Tryz.func21 rfl rfl rfl rfl (fun w0 S0 => ?_)
 dsimp only [CfS.ro, CfS.e]
 repeat' (first | refine SW ?_ | (refine HC_lex rfl rfl (by decide +kernel) rfl rfl ?_) | refine SD ?_ | (refine HO_k 12 rfl ?_; refine HO_call rfl rfl rfl rfl (hW) rfl (trivial) rfl rfl soA ?_; intro bw hbw; dsimp only [lca, lna]) | (refine HO_k 12 rfl ?_; refine HO_call rfl rfl rfl rfl (hN) rfl (trivial) rfl rfl soA ?_; intro bn hbn; dsimp only [lca, lna]) | exact HO_seg rfl rfl | refine S1 ?_ | (refine S2 ?_; intro _) | (refine S3 ?_; intro _ _) | (refine S4 ?_; intro _ _ _) | (refine HO_g 2 rfl ?_; first | apply HO_a1 rfl | apply HO_o1 rfl) | refine S5 ?_ | (intro hb; try replace hb := simB hb; try exact kill hb))
 rename_i bc
 have hnum := cfOk_nums hok
 refine HC_loop (α := Nat) (fun i => i ≤ 18) (fun i => [(6, .int .i64 i), (5, .slice (some ⟨bn, 0, none⟩) 18 18), (4, .slice (some ⟨bw, 0, none⟩) 18 18), (3, .string ⟨(txt ((linesOf c.q).take i)).toArray⟩), (1, pt bc)]) (fun i => [cel bc TCf c.e, own idE 3 1 (some ⟨bn, 0, none⟩) 18 18 ((numsOf c.q).map iE), own idE 9 1 (some ⟨bw, 0, none⟩) 18 18 (wordsL.map strE)]) (fun i => 18 - i) rfl 0 (Nat.zero_le _) ⟨rfl, rfl, rfl, rfl, rfl, trivial⟩ rfl ?_
 intro i hi
 rcases Nat.lt_or_ge i 18 with hlt | hge
 ·have hwi := words_at i hlt
  have hni := numsOf_at c.q i hlt
  have hwl := word_len i
  have htx := txt_take (lines_fix c.q i hlt)
  have hti := htl i
  obtain ⟨lo, hlo⟩ : ∃ lo, txt ((linesOf c.q).take i) = lo := ⟨_, rfl⟩
  rw [hlo] at htx hti
  rw [hlo]
  by_cases h1 : i = 1
  ·subst h1
   rw [if_pos rfl] at hni
   have hdl := dotS_len c.q.id
   have hI := rdigI_t 0 (by decide)
   have hD := rdotted_t c.q.id hc.2.2.1
   have hfx : Value.string ⟨((((lo ++ [105, 100]) ++ [32]) ++ dotS c.q.id) ++ [10]).toArray⟩ = Value.string ⟨(txt ((linesOf c.q).take (1 + 1))).toArray⟩ := by rw [fix_txt1 c.q [105, 100] rfl, htx]
   repeat' (first | refine SW ?_ | (with_reducible refine HO_rw hfx ?_) | refine SD ?_ | (refine HO_k 0 rfl ?_; refine HO_cat rfl rfl rfl (by first | omega | (simp only [List.length_append, List.length_cons, List.length_nil]; omega)) rfl rfl rdA ?_) | (refine HO_k 12 rfl ?_; refine HO_callq rfl rfl rfl rfl (hI) (fun _ _ => rfl) (trivial) rfl rfl sqA ?_) | (refine HO_k 12 rfl ?_; refine HO_callq rfl rfl rfl rfl (hD) (fun _ _ => rfl) (trivial) rfl rfl sqA ?_) | exact HO_seg rfl rfl | refine S1 ?_ | (refine S2 ?_; intro _) | (refine S3 ?_; intro _ _) | (refine S4 ?_; intro _ _ _) | (refine HO_g 2 rfl ?_; first | apply HO_a1 rfl | apply HO_o1 rfl) | refine S5 ?_ | (intro hb; try replace hb := simB hb; try exact kill hb))
   exact HX_at (1 + 1) ⟨by show 2 ≤ 18; decide, by show 18 - 2 < 18 - 1; decide⟩ ⟨rfl, rfl, rfl, rfl, rfl, trivial⟩ rfl
  ·rw [if_neg h1] at hni
   have hnn := hnum i hlt h1
   have hdl := decI_len hnn
   have hI := rdigI_t (num c.q i) hnn
   have hfx : Value.string ⟨((((lo ++ wordsL.getD i []) ++ [32]) ++ decD (num c.q i).toNat) ++ [10]).toArray⟩ = Value.string ⟨(txt ((linesOf c.q).take (i + 1))).toArray⟩ := by rw [fix_txt c.q i _ rfl lo h1, htx]
   repeat' (first | refine SW ?_ | (with_reducible refine HO_rw hfx ?_) | refine SD ?_ | (refine HO_k 0 rfl ?_; refine HO_cat rfl rfl rfl (by first | omega | (simp only [List.length_append, List.length_cons, List.length_nil]; omega)) rfl rfl rdA ?_) | (refine HO_k 12 rfl ?_; refine HO_callq rfl rfl rfl rfl (hI) (fun _ _ => rfl) (trivial) rfl rfl sqA ?_) | exact HO_seg rfl rfl | refine S1 ?_ | (refine S2 ?_; intro _) | (refine S3 ?_; intro _ _) | (refine S4 ?_; intro _ _ _) | (refine HO_g 2 rfl ?_; first | apply HO_a1 rfl | apply HO_o1 rfl) | refine S5 ?_ | (intro hb; try replace hb := simB hb; try exact kill hb))
   exact HX_at (i + 1) ⟨hlt, by omega⟩ ⟨rfl, rfl, rfl, rfl, rfl, trivial⟩ rfl
 obtain rfl : i = 18 := by omega
 repeat' (first | refine SW ?_ | refine SD ?_ | exact HO_seg rfl rfl | refine S1 ?_ | (refine S2 ?_; intro _) | (refine S3 ?_; intro _ _) | (refine S4 ?_; intro _ _ _) | (refine HO_g 2 rfl ?_; first | apply HO_a1 rfl | apply HO_o1 rfl) | refine S5 ?_ | (intro hb; try replace hb := simB hb; try exact kill hb))
 refine HC_keeps (rw' := [cel bc TCf c.e]) permA ?_
 refine HC_loop (α := Nat) (fun j => j ≤ c.q.ifs.length) (fun j => [(8, .int .i64 j), (3, .string ⟨(txt ((linesOf c.q).take (18 + j))).toArray⟩), (1, pt bc)]) (fun i => [cel bc TCf c.e]) (fun j => c.q.ifs.length - j) rfl 0 (Nat.zero_le _) ⟨rfl, rfl, rfl, trivial⟩ rfl ?_
 clear hi
 intro j hj
 rcases Nat.lt_or_ge j c.q.ifs.length with hlt | hge
 ·obtain ⟨x, hx⟩ : ∃ x, c.q.ifs[j]? = some x := ⟨c.q.ifs[j], List.getElem?_eq_getElem hlt⟩
  have hmem := List.mem_of_getElem? hx
  have hnx := if_nums hok hmem
  have htx := txt_take (lines_if c.q hx)
  have hti := htl (18 + j)
  have hti2 := htl (18 + j + 1)
  obtain ⟨lo, hlo⟩ : ∃ lo, txt ((linesOf c.q).take (18 + j)) = lo := ⟨_, rfl⟩
  rw [hlo] at htx hti
  rw [hlo]
  have l1 := decI_len hnx.1
  have l2 := decI_len hnx.2.1
  have l3 := decI_len hnx.2.2
  have l4 := shoS_len9 x.a x.n
  have hI1 := rdigI_t x.id hnx.1
  have hI2 := rdigI_t x.router hnx.2.1
  have hI3 := rdigI_t x.cap hnx.2.2
  have hP := rshow_t x.a (hc.2.2.2 x hmem) x.n
  dsimp only [pfV] at hP
  have hfx : Value.string ⟨(((((((((lo ++ [105, 102, 97, 99, 101, 32]) ++ decD x.id.toNat) ++ [32]) ++ decD x.router.toNat) ++ [32]) ++ shoS x.a x.n) ++ [32]) ++ decD x.cap.toNat) ++ [10]).toArray⟩ = Value.string ⟨(txt ((linesOf c.q).take (18 + (j + 1)))).toArray⟩ := by rw [if_txt, show 18 + (j + 1) = 18 + j + 1 by omega, htx]
  dsimp only [CfS.e]
  repeat' (first | refine SW ?_ | (with_reducible refine HO_rw hfx ?_) | refine SD ?_ | (refine HO_k 0 rfl ?_; refine HO_cat rfl rfl rfl (by first | omega | (simp only [List.length_append, List.length_cons, List.length_nil]; omega)) rfl rfl rdA ?_) | (refine HO_k 12 rfl ?_; refine HO_callq rfl rfl rfl rfl (hI1) (fun _ _ => rfl) (trivial) rfl rfl sqA ?_) | (refine HO_k 12 rfl ?_; refine HO_callq rfl rfl rfl rfl (hI2) (fun _ _ => rfl) (trivial) rfl rfl sqA ?_) | (refine HO_k 12 rfl ?_; refine HO_callq rfl rfl rfl rfl (hI3) (fun _ _ => rfl) (trivial) rfl rfl sqA ?_) | (refine HO_k 12 rfl ?_; refine HO_callq rfl rfl rfl rfl (hP) (fun _ _ => rfl) (trivial) rfl rfl sqA ?_) | exact HO_seg rfl rfl | refine S1 ?_ | (refine S2 ?_; intro _) | (refine S3 ?_; intro _ _) | (refine S4 ?_; intro _ _ _) | (refine HO_g 2 rfl ?_; first | apply HO_a1 rfl | apply HO_o1 rfl) | refine S5 ?_ | (intro hb; try replace hb := simB hb; try exact kill hb))
  refine HX_keeps (rw' := [cel bc TCf c.e]) permA ?_
  exact HX_at (j + 1) ⟨hlt, by omega⟩ ⟨rfl, rfl, rfl, trivial⟩ rfl
 obtain rfl : j = c.q.ifs.length := by omega
 dsimp only [CfS.e]
 repeat' (first | refine SW ?_ | refine SD ?_ | exact HO_seg rfl rfl | refine S1 ?_ | (refine S2 ?_; intro _) | (refine S3 ?_; intro _ _) | (refine S4 ?_; intro _ _ _) | (refine HO_g 2 rfl ?_; first | apply HO_a1 rfl | apply HO_o1 rfl) | refine S5 ?_ | (intro hb; try replace hb := simB hb; try exact kill hb))
 refine HC_loop (α := Nat) (fun j => j ≤ c.q.deny.length) (fun j => [(10, .int .i64 j), (3, .string ⟨(txt ((linesOf c.q).take (18 + c.q.ifs.length + j))).toArray⟩), (1, pt bc)]) (fun i => [cel bc TCf c.e]) (fun j => c.q.deny.length - j) rfl 0 (Nat.zero_le _) ⟨rfl, rfl, rfl, trivial⟩ rfl ?_
 clear hj
 intro j hj
 rcases Nat.lt_or_ge j c.q.deny.length with hlt | hge
 ·obtain ⟨x, hx⟩ : ∃ x, c.q.deny[j]? = some x := ⟨c.q.deny[j], List.getElem?_eq_getElem hlt⟩
  have hmem := List.mem_of_getElem? hx
  have hnx := deny_nums hok hmem
  have htx := txt_take (lines_deny c.q hx)
  have hti := htl (18 + c.q.ifs.length + j)
  obtain ⟨lo, hlo⟩ : ∃ lo, txt ((linesOf c.q).take (18 + c.q.ifs.length + j)) = lo := ⟨_, rfl⟩
  rw [hlo] at htx hti
  rw [hlo]
  have l1 := decI_len hnx
  have hI1 := rdigI_t x hnx
  have hfx : Value.string ⟨(((lo ++ [100, 101, 110, 121, 32]) ++ decD x.toNat) ++ [10]).toArray⟩ = Value.string ⟨(txt ((linesOf c.q).take (18 + c.q.ifs.length + (j + 1)))).toArray⟩ := by rw [deny_txt, show 18 + c.q.ifs.length + (j + 1) = 18 + c.q.ifs.length + j + 1 by omega, htx]
  dsimp only [CfS.e]
  repeat' (first | refine SW ?_ | (with_reducible refine HO_rw hfx ?_) | refine SD ?_ | (refine HO_k 0 rfl ?_; refine HO_cat rfl rfl rfl (by first | omega | (simp only [List.length_append, List.length_cons, List.length_nil]; omega)) rfl rfl rdA ?_) | (refine HO_k 12 rfl ?_; refine HO_callq rfl rfl rfl rfl (hI1) (fun _ _ => rfl) (trivial) rfl rfl sqA ?_) | exact HO_seg rfl rfl | refine S1 ?_ | (refine S2 ?_; intro _) | (refine S3 ?_; intro _ _) | (refine S4 ?_; intro _ _ _) | (refine HO_g 2 rfl ?_; first | apply HO_a1 rfl | apply HO_o1 rfl) | refine S5 ?_ | (intro hb; try replace hb := simB hb; try exact kill hb))
  refine HX_keeps (rw' := [cel bc TCf c.e]) permA ?_
  exact HX_at (j + 1) ⟨hlt, by omega⟩ ⟨rfl, rfl, rfl, trivial⟩ rfl
 obtain rfl : j = c.q.deny.length := by omega
 have hall : (linesOf c.q).take (18 + c.q.ifs.length + c.q.deny.length) = linesOf c.q := by rw [← hll]; exact List.take_length
 rw [hall]
 dsimp only [CfS.e]
 repeat' (first | refine SW ?_ | refine SD ?_ | exact HO_seg rfl rfl | refine S1 ?_ | (refine S2 ?_; intro _) | (refine S3 ?_; intro _ _) | (refine S4 ?_; intro _ _ _) | (refine HO_g 2 rfl ?_; first | apply HO_a1 rfl | apply HO_o1 rfl) | refine S5 ?_ | (intro hb; try replace hb := simB hb; try exact kill hb))
 (refine SR ?_; unfold RetQ; refine ⟨(), trivial, ?_, Keeps.nil⟩)
 rfl
set_option maxRecDepth 100000 in
set_option maxHeartbeats 16000000 in
theorem r27do7_t (d : DoS) (h1 : OneP d.q) (hk7 : d.q.k ≤ 7) :
  Tri Tryz.prog 124 [.agg d.e.toArray] d.ro [] (fun _ : OA => True) (fun x => .slice x.1 (doB d.q).length x.2) (fun x => [ownB x (doB d.q)]) := by
 obtain ⟨⟨k, r, n, data, cs, cq, cl, rs, rq, rl⟩, dA, dc, cA, cc, rA, rc⟩ := d
 obtain ⟨a1, a2, a3, a4, a5, a6, a7, a8, a9, b1, b2, b3, b4, b5⟩ := h1
 dsimp only at *
 obtain ⟨rn, hr, hr2⟩ := fit1 a4
 obtain ⟨nn, hn, hn2⟩ := fit4 a5
 obtain ⟨csn, hcs, hcs2⟩ := fit1 a7
 obtain ⟨cqn, hcq, hcq2⟩ := fit4 a8
 obtain ⟨rsn, hrs, hrs2⟩ := fit1 a9
 obtain ⟨rqn, hrq, hrq2⟩ := fit4 b1
 subst hr hn hcs hcq hrs hrq
 obtain ⟨kn, rfl⟩ : ∃ kn : Nat, k = kn := ⟨k.toNat, by omega⟩
 have ebk : bE (UInt8.ofNat kn) = [Value.int .u8 (kn : Int)] := by simp [bE]; omega
 have ebr : bE (UInt8.ofNat rn) = [Value.int .u8 (rn : Int)] := by simp [bE]; omega
 by_cases hk6 : kn ≤ 6
 ·have el : ((kn : Nat) : Int) ≤ 6 := by omega
  by_cases hk5 : kn = 5
  ·have e5 : ((kn : Nat) : Int) = 5 := by omega
   have hD : doB ⟨kn, rn, nn, data, csn, cqn, cl, rsn, rqn, rl⟩ = UInt8.ofNat kn :: UInt8.ofNat rn :: (be 2 data.length ++ data) := by
    unfold doB tailB
    dsimp only
    rw [if_pos el, if_pos e5, Int.toNat_natCast, Int.toNat_natCast]
    simp
   rw [hD]
   have hp := rput_t 2 data.length (by decide) (by omega)
   refine Tri_of (N := Tryz.f124.ntmps) (c := bodyOf Tryz.f124) Tryz.func124 rfl rfl rfl rfl (fun w0 S0 => ?_)
   dsimp only [DoS.e, DoS.ro]
   repeat' (first | refine SW ?_ | refine SD ?_ | (refine HO_k 12 rfl ?_; refine HO_call rfl rfl rfl rfl (hp) rfl (trivial) rfl rfl soA ?_; intro x1 hx1; dsimp only [lca, lna]) | (refine HO_k 11 rfl ?_; refine HO_appw rfl rfl rfl rfl rfl rfl rfl rfl ?h1 ?h2 rfl rfl ?h3 ?h4 rfl rfl rfl ?h5 ?_; (case h1 => simp only [List.length_append, List.length_map, List.length_cons, List.length_nil, be_length]); (case h2 => repeat (first | exact WfL.nil | exact WfL.map | apply WfL.append | refine WfL.cons rfl rfl ?_ | assumption)); (case h3 => (try simp only [List.length_append, List.length_map, List.length_cons, List.length_nil, be_length]); (try omega)); (case h4 => (try simp only [List.length_append, List.length_map, List.length_cons, List.length_nil, be_length]); (try omega)); (case h5 => exact soA); intro _ _) | (refine HO_k 11 rfl ?_; refine HO_appr rfl rfl rfl rfl rfl rfl rfl rfl ?h1 ?h2 rfl rfl ?h3 ?h4 rfl rfl rfl ?h5 ?_; (case h1 => simp only [List.length_append, List.length_map, List.length_cons, List.length_nil, be_length]); (case h2 => repeat (first | exact WfL.nil | exact WfL.map | apply WfL.append | refine WfL.cons rfl rfl ?_ | assumption)); (case h3 => (try simp only [List.length_append, List.length_map, List.length_cons, List.length_nil, be_length]); (try omega)); (case h4 => (try simp only [List.length_append, List.length_map, List.length_cons, List.length_nil, be_length]); (try omega)); (case h5 => exact soA); intro _ _) | exact HO_seg rfl rfl | refine S1 ?_ | (refine S2 ?_; intro _) | (refine S3 ?_; intro _ _) | (refine S4 ?_; intro _ _ _) | (refine HO_g 2 rfl ?_; first | apply HO_a1 rfl | apply HO_o1 rfl) | refine S5 ?_ | (intro hb; try replace hb := simB hb; try exact kill hb))
   rename_i A' c'
   refine HX_keeps (rw' := [own idE 5 1 A' _ c' _]) (by first | exact Keeps.pick 0 rfl rfl Keeps.nil | exact Keeps.pick 1 rfl rfl Keeps.nil | exact Keeps.pick 2 rfl rfl Keeps.nil) ?_
   (first | apply HX_ret | apply HX_retn)
   (repeat (first | exact Res_nil | apply Res_tmp rfl | apply Res_ce rfl rfl rfl))
   unfold RetQ
   exact ⟨(A', c'), trivial, congrArg (fun q => Value.slice A' q c') (by simp [be_length]; omega), Keeps.own_cons Keeps.nil (by simp [be_length]; omega) (by simp only [List.map_cons, List.map_append, ebk, ebr, List.cons_append, List.nil_append, List.append_assoc, List.map_nil])⟩
  ·by_cases hk6' : kn = 6
   ·subst hk6'
    have hD : doB ⟨(6 : Nat), rn, nn, data, csn, cqn, cl, rsn, rqn, rl⟩ = UInt8.ofNat 6 :: UInt8.ofNat rn :: be 4 nn := by simp [doB, tailB, be1]
    rw [hD]
    have hp := rput_t 4 nn (by decide) (by omega)
    refine Tri_of (N := Tryz.f124.ntmps) (c := bodyOf Tryz.f124) Tryz.func124 rfl rfl rfl rfl (fun w0 S0 => ?_)
    dsimp only [DoS.e, DoS.ro]
    repeat' (first | refine SW ?_ | refine SD ?_ | (refine HO_k 12 rfl ?_; refine HO_call rfl rfl rfl rfl (hp) rfl (trivial) rfl rfl soA ?_; intro x1 hx1; dsimp only [lca, lna]) | (refine HO_k 11 rfl ?_; refine HO_appw rfl rfl rfl rfl rfl rfl rfl rfl ?h1 ?h2 rfl rfl ?h3 ?h4 rfl rfl rfl ?h5 ?_; (case h1 => simp only [List.length_append, List.length_map, List.length_cons, List.length_nil, be_length]); (case h2 => repeat (first | exact WfL.nil | exact WfL.map | apply WfL.append | refine WfL.cons rfl rfl ?_ | assumption)); (case h3 => (try simp only [List.length_append, List.length_map, List.length_cons, List.length_nil, be_length]); (try omega)); (case h4 => (try simp only [List.length_append, List.length_map, List.length_cons, List.length_nil, be_length]); (try omega)); (case h5 => exact soA); intro _ _) | (refine HO_k 11 rfl ?_; refine HO_appr rfl rfl rfl rfl rfl rfl rfl rfl ?h1 ?h2 rfl rfl ?h3 ?h4 rfl rfl rfl ?h5 ?_; (case h1 => simp only [List.length_append, List.length_map, List.length_cons, List.length_nil, be_length]); (case h2 => repeat (first | exact WfL.nil | exact WfL.map | apply WfL.append | refine WfL.cons rfl rfl ?_ | assumption)); (case h3 => (try simp only [List.length_append, List.length_map, List.length_cons, List.length_nil, be_length]); (try omega)); (case h4 => (try simp only [List.length_append, List.length_map, List.length_cons, List.length_nil, be_length]); (try omega)); (case h5 => exact soA); intro _ _) | exact HO_seg rfl rfl | refine S1 ?_ | (refine S2 ?_; intro _) | (refine S3 ?_; intro _ _) | (refine S4 ?_; intro _ _ _) | (refine HO_g 2 rfl ?_; first | apply HO_a1 rfl | apply HO_o1 rfl) | refine S5 ?_ | (intro hb; try replace hb := simB hb; try exact kill hb))
    rename_i A' c'
    refine HX_keeps (rw' := [own idE 5 1 A' _ c' _]) (by first | exact Keeps.pick 0 rfl rfl Keeps.nil | exact Keeps.pick 1 rfl rfl Keeps.nil | exact Keeps.pick 2 rfl rfl Keeps.nil) ?_
    (first | apply HX_ret | apply HX_retn)
    (repeat (first | exact Res_nil | apply Res_tmp rfl | apply Res_ce rfl rfl rfl))
    unfold RetQ
    exact ⟨(A', c'), trivial, congrArg (fun q => Value.slice A' q c') (by simp [be_length]), Keeps.own_cons Keeps.nil (by simp [be_length]) (by simp only [List.map_cons, List.map_append, ebk, ebr, List.cons_append, List.nil_append, List.append_assoc, List.map_nil])⟩
   ·have e5 : ¬ ((kn : Nat) : Int) = 5 := by omega
    have e6 : ¬ ((kn : Nat) : Int) = 6 := by omega
    have e8 : ¬ ((kn : Nat) : Int) = 8 := by omega
    have e9 : ¬ ((kn : Nat) : Int) = 9 := by omega
    have hD : doB ⟨kn, rn, nn, data, csn, cqn, cl, rsn, rqn, rl⟩ = [UInt8.ofNat kn, UInt8.ofNat rn] := by simp [doB, tailB, be1, e5, e6, e8, e9, el]
    rw [hD]
    refine Tri_of (N := Tryz.f124.ntmps) (c := bodyOf Tryz.f124) Tryz.func124 rfl rfl rfl rfl (fun w0 S0 => ?_)
    dsimp only [DoS.e, DoS.ro]
    repeat' (first | refine SW ?_ | refine SD ?_ | (refine HO_k 11 rfl ?_; refine HO_appw rfl rfl rfl rfl rfl rfl rfl rfl ?h1 ?h2 rfl rfl ?h3 ?h4 rfl rfl rfl ?h5 ?_; (case h1 => simp only [List.length_append, List.length_map, List.length_cons, List.length_nil, be_length]); (case h2 => repeat (first | exact WfL.nil | exact WfL.map | apply WfL.append | refine WfL.cons rfl rfl ?_ | assumption)); (case h3 => (try simp only [List.length_append, List.length_map, List.length_cons, List.length_nil, be_length]); (try omega)); (case h4 => (try simp only [List.length_append, List.length_map, List.length_cons, List.length_nil, be_length]); (try omega)); (case h5 => exact soA); intro _ _) | exact HO_seg rfl rfl | refine S1 ?_ | (refine S2 ?_; intro _) | (refine S3 ?_; intro _ _) | (refine S4 ?_; intro _ _ _) | (refine HO_g 2 rfl ?_; first | apply HO_a1 rfl | apply HO_o1 rfl) | refine S5 ?_ | (intro hb; try replace hb := simB hb; try exact kill hb))
    rename_i A' c'
    refine HX_keeps (rw' := [own idE 5 1 A' _ c' _]) (by first | exact Keeps.pick 0 rfl rfl Keeps.nil | exact Keeps.pick 1 rfl rfl Keeps.nil | exact Keeps.pick 2 rfl rfl Keeps.nil) ?_
    (first | apply HX_ret | apply HX_retn)
    (repeat (first | exact Res_nil | apply Res_tmp rfl | apply Res_ce rfl rfl rfl))
    unfold RetQ
    exact ⟨(A', c'), trivial, congrArg (fun q => Value.slice A' q c') (by rfl), Keeps.own_cons Keeps.nil (by rfl) (by simp only [List.map_cons, List.map_append, ebk, ebr, List.cons_append, List.nil_append, List.append_assoc, List.map_nil])⟩
 ·have hk : kn = 7 := by omega
  subst hk
  have hD : doB ⟨(7 : Nat), rn, nn, data, csn, cqn, cl, rsn, rqn, rl⟩ = [UInt8.ofNat 7] := by simp [doB, tailB, be1]
  rw [hD]
  refine Tri_of (N := Tryz.f124.ntmps) (c := bodyOf Tryz.f124) Tryz.func124 rfl rfl rfl rfl (fun w0 S0 => ?_)
  dsimp only [DoS.e, DoS.ro]
  repeat' (first | refine SW ?_ | refine SD ?_ | exact HO_seg rfl rfl | refine S1 ?_ | (refine S2 ?_; intro _) | (refine S3 ?_; intro _ _) | (refine S4 ?_; intro _ _ _) | (refine HO_g 2 rfl ?_; first | apply HO_a1 rfl | apply HO_o1 rfl) | refine S5 ?_ | (intro hb; try replace hb := simB hb; try exact kill hb))
  rename_i bs bw
  refine HX_keeps (rw' := [own idE 5 1 (some ⟨bw, 0, none⟩) 1 1 [[Value.int .u8 ((7 : Nat) : Int)]]]) (Keeps.pick 0 rfl rfl Keeps.nil) ?_
  (refine SR ?_; unfold RetQ; refine ⟨(some ⟨bw, 0, none⟩, 1), trivial, rfl, (Keeps.own_cons Keeps.nil rfl (by rw [← ebk]; rfl))⟩)
set_option maxHeartbeats 16000000 in
theorem r27do8_t (d : DoS) (h1 : OneP d.q) (ha : ∀ c ∈ d.q.cl, c.a < 4294967296) (hk8 : d.q.k = 8) :
  Tri Tryz.prog 124 [.agg d.e.toArray] d.ro [] (fun _ : OA => True) (fun x => .slice x.1 (doB d.q).length x.2) (fun x => [ownB x (doB d.q)]) := by
 obtain ⟨⟨k, r, n, data, cs, cq, cl, rs, rq, rl⟩, dA, dc, cA, cc, rA, rc⟩ := d
 obtain ⟨a1, a2, a3, a4, a5, a6, a7, a8, a9, b1, b2, b3, b4, b5⟩ := h1
 dsimp only at *
 obtain ⟨rn, hr, hr2⟩ := fit1 a4
 obtain ⟨nn, hn, hn2⟩ := fit4 a5
 obtain ⟨csn, hcs, hcs2⟩ := fit1 a7
 obtain ⟨cqn, hcq, hcq2⟩ := fit4 a8
 obtain ⟨rsn, hrs, hrs2⟩ := fit1 a9
 obtain ⟨rqn, hrq, hrq2⟩ := fit4 b1
 clear a4 a5 a7 a8 a9 b1 a3
 subst hr hn hcs hcq hrs hrq
 subst hk8
 have ebk : bE (UInt8.ofNat 8) = [Value.int .u8 8] := rfl
 obtain ⟨H, hHe⟩ : ∃ H, UInt8.ofNat 8 :: (hdrB (csn : Int) (cqn : Int) cl.length) = H := ⟨_, rfl⟩
 have hD : doB ⟨8, rn, nn, data, csn, cqn, cl, rsn, rqn, rl⟩ = H ++ cl.flatMap cntB := by rw [← hHe]; simp [doB, tailB, be1]
 have hHl : H.length = 1 + 1 + 4 + 1 := by rw [← hHe]; unfold hdrB; simp [be_length]
 have ebc : bE (UInt8.ofNat csn) = [Value.int .u8 (csn : Int)] := by simp [bE]; omega
 have ebl : bE (UInt8.ofNat cl.length) = [Value.int .u8 (cl.length : Int)] := by simp [bE]; omega
 rw [hD]
 have hp := rput_t 4 cqn (by decide) (by omega)
 refine Tri_of (N := Tryz.f124.ntmps) (c := bodyOf Tryz.f124) Tryz.func124 rfl rfl rfl rfl (fun w0 S0 => ?_)
 dsimp only [DoS.e, DoS.ro]
 repeat' (first | refine SW ?_ | refine SD ?_ | (refine HO_k 12 rfl ?_; refine HO_call rfl rfl rfl rfl (hp) rfl (trivial) rfl rfl soA ?_; intro x1 hx1; dsimp only [lca, lna]) | (refine HO_k 11 rfl ?_; refine HO_appw rfl rfl rfl rfl rfl rfl rfl rfl ?h1 ?h2 rfl rfl ?h3 ?h4 rfl rfl rfl ?h5 ?_; (case h1 => simp only [List.length_append, List.length_map, List.length_cons, List.length_nil, be_length]); (case h2 => repeat (first | exact WfL.nil | exact WfL.map | apply WfL.append | refine WfL.cons rfl rfl ?_ | assumption)); (case h3 => (try simp only [List.length_append, List.length_map, List.length_cons, List.length_nil, be_length]); (try omega)); (case h4 => (try simp only [List.length_append, List.length_map, List.length_cons, List.length_nil, be_length]); (try omega)); (case h5 => exact soA); intro _ _) | (refine HO_k 11 rfl ?_; refine HO_appr rfl rfl rfl rfl rfl rfl rfl rfl ?h1 ?h2 rfl rfl ?h3 ?h4 rfl rfl rfl ?h5 ?_; (case h1 => simp only [List.length_append, List.length_map, List.length_cons, List.length_nil, be_length]); (case h2 => repeat (first | exact WfL.nil | exact WfL.map | apply WfL.append | refine WfL.cons rfl rfl ?_ | assumption)); (case h3 => (try simp only [List.length_append, List.length_map, List.length_cons, List.length_nil, be_length]); (try omega)); (case h4 => (try simp only [List.length_append, List.length_map, List.length_cons, List.length_nil, be_length]); (try omega)); (case h5 => exact soA); intro _ _) | exact HO_seg rfl rfl | refine S1 ?_ | (refine S2 ?_; intro _) | (refine S3 ?_; intro _ _) | (refine S4 ?_; intro _ _ _) | (refine HO_g 2 rfl ?_; first | apply HO_a1 rfl | apply HO_o1 rfl) | refine S5 ?_ | (intro hb; try replace hb := simB hb; try exact kill hb))
 rename_i bs b2 b1 A1 c1 A2 c2 b0 A' c'
 refine HC_keeps (rw' := [ownB (A', c') H, cel bs TDo (DoS.e ⟨⟨8, rn, nn, data, csn, cqn, cl, rsn, rqn, rl⟩, dA, dc, cA, cc, rA, rc⟩)]) (Keeps.own_cons (Keeps.pick 1 rfl rfl Keeps.nil) hHl.symm (by
  rw [← hHe]
  unfold hdrB
  simp only [List.map_cons, List.map_append, ebk, ebc, ebl, Int.toNat_natCast, List.cons_append, List.nil_append, List.append_assoc, List.map_nil])) ?_
 refine HC_loop (α := Nat × OA) (fun x => x.1 ≤ cl.length) (fun x => [(4, .int .i64 x.1), (3, .slice x.2.1 (H ++ (cl.take x.1).flatMap cntB).length x.2.2), (1, pt bs)]) (fun x => [ownB x.2 (H ++ (cl.take x.1).flatMap cntB), cel bs TDo (DoS.e ⟨⟨8, rn, nn, data, csn, cqn, cl, rsn, rqn, rl⟩, dA, dc, cA, cc, rA, rc⟩)]) (fun x => cl.length - x.1) rfl (0, (A', c')) (Nat.zero_le _) (by dsimp only; rw [List.take_zero, List.flatMap_nil, List.append_nil, hHl]; exact ⟨rfl, rfl, rfl, trivial⟩) (by simp) ?_
 rintro ⟨j, xo⟩ hj
 dsimp only [DoS.e] at hj ⊢
 rcases Nat.lt_or_ge j cl.length with hlt | hge
 ·obtain ⟨y, hy⟩ : ∃ y, cl[j]? = some y := ⟨cl[j], List.getElem?_eq_getElem hlt⟩
  obtain ⟨ya, yn, yk⟩ := y
  have ha1 := ha _ (List.mem_of_getElem? hy)
  have hok := b4 _ (List.mem_of_getElem? hy)
  have hsn := cnt_snoc cl hy
  have htk : ((cl.take j).flatMap cntB).length ≤ 9 * cl.length := by
   have h1 := cnts_le (cl.take j)
   have h2 : (cl.take j).length ≤ cl.length := List.length_take_le' _ _
   omega
  unfold cntOk at hok
  rw [Bool.and_eq_true] at hok
  obtain ⟨k, hk, hk2⟩ := fitW_iff.1 hok.2
  have hnl := okX_len hok.1
  dsimp only at hk ha1 hnl
  obtain ⟨q', rfl⟩ : ∃ q' : Nat, yn = q' := ⟨yn.toNat, by omega⟩
  subst hk
  have hput := rpput_t ya ha1 q' (by omega)
  have hp4 := rput_t 4 k (by decide) (by omega)
  dsimp only [pfV] at hput
  have hpl : (pfB ya q').length ≤ 5 := by unfold pfB; rw [List.length_cons, List.length_take, be_length]; omega
  obtain ⟨L, hL⟩ : ∃ L, H ++ (cl.take j).flatMap cntB = L := ⟨_, rfl⟩
  have hLl : L.length ≤ 60000000 := by rw [← hL, List.length_append]; omega
  rw [hL]
  have hjc : (j : Int) < (cl.length : Int) := by omega
  repeat' (first | refine SW ?_ | refine SD ?_ | (refine HO_k 12 rfl ?_; refine HO_call rfl rfl rfl rfl (hput) rfl (trivial) rfl rfl soA ?_; intro ⟨p1, p2⟩ hp2; dsimp only [lca, lna]) | (refine HO_k 12 rfl ?_; refine HO_call rfl rfl rfl rfl (hp4) rfl (trivial) rfl rfl soA ?_; intro x4 hx4; dsimp only [lca, lna]) | (refine HO_k 11 rfl ?_; refine HO_appw rfl rfl rfl rfl rfl rfl rfl rfl ?h1 ?h2 rfl rfl ?h3 ?h4 rfl rfl rfl ?h5 ?_; (case h1 => simp only [List.length_append, List.length_map, List.length_cons, List.length_nil, be_length]); (case h2 => repeat (first | exact WfL.nil | exact WfL.map | apply WfL.append | refine WfL.cons rfl rfl ?_ | assumption)); (case h3 => (try simp only [List.length_append, List.length_map, List.length_cons, List.length_nil, be_length]); (try omega)); (case h4 => (try simp only [List.length_append, List.length_map, List.length_cons, List.length_nil, be_length]); (try omega)); (case h5 => exact soA); intro _ _) | (refine HO_k 11 rfl ?_; refine HO_appr rfl rfl rfl rfl rfl rfl rfl rfl ?h1 ?h2 rfl rfl ?h3 ?h4 rfl rfl rfl ?h5 ?_; (case h1 => simp only [List.length_append, List.length_map, List.length_cons, List.length_nil, be_length]); (case h2 => repeat (first | exact WfL.nil | exact WfL.map | apply WfL.append | refine WfL.cons rfl rfl ?_ | assumption)); (case h3 => (try simp only [List.length_append, List.length_map, List.length_cons, List.length_nil, be_length]); (try omega)); (case h4 => (try simp only [List.length_append, List.length_map, List.length_cons, List.length_nil, be_length]); (try omega)); (case h5 => exact soA); intro _ _) | exact HO_seg rfl rfl | refine S1 ?_ | (refine S2 ?_; intro _) | (refine S3 ?_; intro _ _) | (refine S4 ?_; intro _ _ _) | (refine HO_g 2 rfl ?_; first | apply HO_a1 rfl | apply HO_o1 rfl) | refine S5 ?_ | (intro hb; try replace hb := simB hb; try exact kill hb))
  rename_i b5 A3 c3 A4 c4
  have hN : L.length + (pfB ya q').length + 4 = (H ++ (cl.take (j + 1)).flatMap cntB).length := by
   rw [hsn, ← List.append_assoc, hL]
   unfold cntB
   simp [be_length]
   omega
  refine HX_keeps (rw' := [ownB (A4, c4) (H ++ (cl.take (j + 1)).flatMap cntB), cel bs TDo (DoS.e ⟨⟨8, rn, nn, data, csn, cqn, cl, rsn, rqn, rl⟩, dA, dc, cA, cc, rA, rc⟩)]) ?_ ?_
  ·dsimp only [ownB, DoS.e]
   rw [← hN, hsn, ← List.append_assoc, hL]
   unfold cntB
   rw [← List.append_assoc, List.map_append, List.map_append]
   exact permA
  ·exact HX_at (j + 1, (A4, c4)) ⟨hlt, by show cl.length - (j + 1) < cl.length - j; omega⟩ (by dsimp only; rw [← hN]; exact ⟨rfl, rfl, rfl, trivial⟩) rfl
 ·obtain rfl : j = cl.length := by omega
  rw [List.take_length]
  repeat' (first | refine SW ?_ | refine SD ?_ | exact HO_seg rfl rfl | refine S1 ?_ | (refine S2 ?_; intro _) | (refine S3 ?_; intro _ _) | (refine S4 ?_; intro _ _ _) | (refine HO_g 2 rfl ?_; first | apply HO_a1 rfl | apply HO_o1 rfl) | refine S5 ?_ | (intro hb; try replace hb := simB hb; try exact kill hb))
  (refine SR ?_; unfold RetQ; refine ⟨xo, trivial, rfl, permA⟩)
set_option maxHeartbeats 16000000 in
theorem r27do9_t (d : DoS) (h1 : OneP d.q) (hk9 : d.q.k = 9) :
  Tri Tryz.prog 124 [.agg d.e.toArray] d.ro [] (fun _ : OA => True) (fun x => .slice x.1 (doB d.q).length x.2) (fun x => [ownB x (doB d.q)]) := by
 obtain ⟨⟨k, r, n, data, cs, cq, cl, rs, rq, rl⟩, dA, dc, cA, cc, rA, rc⟩ := d
 obtain ⟨a1, a2, a3, a4, a5, a6, a7, a8, a9, b1, b2, b3, b4, b5⟩ := h1
 dsimp only at *
 obtain ⟨rn, hr, hr2⟩ := fit1 a4
 obtain ⟨nn, hn, hn2⟩ := fit4 a5
 obtain ⟨csn, hcs, hcs2⟩ := fit1 a7
 obtain ⟨cqn, hcq, hcq2⟩ := fit4 a8
 obtain ⟨rsn, hrs, hrs2⟩ := fit1 a9
 obtain ⟨rqn, hrq, hrq2⟩ := fit4 b1
 clear a4 a5 a7 a8 a9 b1 a3
 subst hr hn hcs hcq hrs hrq
 subst hk9
 have ebk : bE (UInt8.ofNat 9) = [Value.int .u8 9] := rfl
 obtain ⟨H, hHe⟩ : ∃ H, UInt8.ofNat 9 :: (hdrB (rsn : Int) (rqn : Int) rl.length) = H := ⟨_, rfl⟩
 have hD : doB ⟨9, rn, nn, data, csn, cqn, cl, rsn, rqn, rl⟩ = H ++ rl.flatMap carB := by rw [← hHe]; simp [doB, tailB, be1]
 have hHl : H.length = 1 + 1 + 4 + 1 := by rw [← hHe]; unfold hdrB; simp [be_length]
 have ebc : bE (UInt8.ofNat rsn) = [Value.int .u8 (rsn : Int)] := by simp [bE]; omega
 have ebl : bE (UInt8.ofNat rl.length) = [Value.int .u8 (rl.length : Int)] := by simp [bE]; omega
 rw [hD]
 have hp := rput_t 4 rqn (by decide) (by omega)
 refine Tri_of (N := Tryz.f124.ntmps) (c := bodyOf Tryz.f124) Tryz.func124 rfl rfl rfl rfl (fun w0 S0 => ?_)
 dsimp only [DoS.e, DoS.ro]
 repeat' (first | refine SW ?_ | refine SD ?_ | (refine HO_k 12 rfl ?_; refine HO_call rfl rfl rfl rfl (hp) rfl (trivial) rfl rfl soA ?_; intro x1 hx1; dsimp only [lca, lna]) | (refine HO_k 11 rfl ?_; refine HO_appw rfl rfl rfl rfl rfl rfl rfl rfl ?h1 ?h2 rfl rfl ?h3 ?h4 rfl rfl rfl ?h5 ?_; (case h1 => simp only [List.length_append, List.length_map, List.length_cons, List.length_nil, be_length]); (case h2 => repeat (first | exact WfL.nil | exact WfL.map | apply WfL.append | refine WfL.cons rfl rfl ?_ | assumption)); (case h3 => (try simp only [List.length_append, List.length_map, List.length_cons, List.length_nil, be_length]); (try omega)); (case h4 => (try simp only [List.length_append, List.length_map, List.length_cons, List.length_nil, be_length]); (try omega)); (case h5 => exact soA); intro _ _) | (refine HO_k 11 rfl ?_; refine HO_appr rfl rfl rfl rfl rfl rfl rfl rfl ?h1 ?h2 rfl rfl ?h3 ?h4 rfl rfl rfl ?h5 ?_; (case h1 => simp only [List.length_append, List.length_map, List.length_cons, List.length_nil, be_length]); (case h2 => repeat (first | exact WfL.nil | exact WfL.map | apply WfL.append | refine WfL.cons rfl rfl ?_ | assumption)); (case h3 => (try simp only [List.length_append, List.length_map, List.length_cons, List.length_nil, be_length]); (try omega)); (case h4 => (try simp only [List.length_append, List.length_map, List.length_cons, List.length_nil, be_length]); (try omega)); (case h5 => exact soA); intro _ _) | exact HO_seg rfl rfl | refine S1 ?_ | (refine S2 ?_; intro _) | (refine S3 ?_; intro _ _) | (refine S4 ?_; intro _ _ _) | (refine HO_g 2 rfl ?_; first | apply HO_a1 rfl | apply HO_o1 rfl) | refine S5 ?_ | (intro hb; try replace hb := simB hb; try exact kill hb))
 rename_i bs b2 b1 A1 c1 A2 c2 b0 A' c'
 refine HC_keeps (rw' := [ownB (A', c') H, cel bs TDo (DoS.e ⟨⟨9, rn, nn, data, csn, cqn, cl, rsn, rqn, rl⟩, dA, dc, cA, cc, rA, rc⟩)]) (Keeps.own_cons (Keeps.pick 1 rfl rfl Keeps.nil) hHl.symm (by
  rw [← hHe]
  unfold hdrB
  simp only [List.map_cons, List.map_append, ebk, ebc, ebl, Int.toNat_natCast, List.cons_append, List.nil_append, List.append_assoc, List.map_nil])) ?_
 refine HC_loop (α := Nat × OA) (fun x => x.1 ≤ rl.length) (fun x => [(6, .int .i64 x.1), (3, .slice x.2.1 (H ++ (rl.take x.1).flatMap carB).length x.2.2), (1, pt bs)]) (fun x => [ownB x.2 (H ++ (rl.take x.1).flatMap carB), cel bs TDo (DoS.e ⟨⟨9, rn, nn, data, csn, cqn, cl, rsn, rqn, rl⟩, dA, dc, cA, cc, rA, rc⟩)]) (fun x => rl.length - x.1) rfl (0, (A', c')) (Nat.zero_le _) (by dsimp only; rw [List.take_zero, List.flatMap_nil, List.append_nil, hHl]; exact ⟨rfl, rfl, rfl, trivial⟩) (by simp) ?_
 rintro ⟨j, xo⟩ hj
 dsimp only [DoS.e] at hj ⊢
 rcases Nat.lt_or_ge j rl.length with hlt | hge
 ·obtain ⟨y, hy⟩ : ∃ y, rl[j]? = some y := ⟨rl[j], List.getElem?_eq_getElem hlt⟩
  obtain ⟨yi, yc, yd⟩ := y
  have hok := b5 _ (List.mem_of_getElem? hy)
  have hsn := car_snoc rl hy
  have htk : ((rl.take j).flatMap carB).length ≤ 9 * rl.length := by
   have h1 := cars_le (rl.take j)
   have h2 : (rl.take j).length ≤ rl.length := List.length_take_le' _ _
   omega
  unfold carOk at hok
  rw [Bool.and_eq_true] at hok
  obtain ⟨i, hi, hi2⟩ := fitW_iff.1 hok.1
  obtain ⟨k, hk, hk2⟩ := fitW_iff.1 hok.2
  dsimp only at hi hk
  clear hok
  subst hi hk
  have hp4 := rput_t 4 i (by decide) (by omega)
  have hp5 := rput_t 4 k (by decide) (by omega)
  obtain ⟨L, hL⟩ : ∃ L, H ++ (rl.take j).flatMap carB = L := ⟨_, rfl⟩
  have hLl : L.length ≤ 60000000 := by rw [← hL, List.length_append]; omega
  rw [hL]
  have hjc : (j : Int) < (rl.length : Int) := by omega
  have hN : L.length + 4 + 4 + 1 = (H ++ (rl.take (j + 1)).flatMap carB).length := by
   rw [hsn, ← List.append_assoc, hL]
   unfold carB
   simp [be_length]
  cases yd
  all_goals
   repeat' (first | refine SW ?_ | refine SD ?_ | (refine HO_k 12 rfl ?_; refine HO_call rfl rfl rfl rfl (hp4) rfl (trivial) rfl rfl soA ?_; intro x4 hx4; dsimp only [lca, lna]) | (refine HO_k 12 rfl ?_; refine HO_call rfl rfl rfl rfl (hp5) rfl (trivial) rfl rfl soA ?_; intro x5 hx5; dsimp only [lca, lna]) | (first | refine HO_2p 3 10 (by decide +kernel) rfl rfl (by decide +kernel) ?_ ?_ | refine HO_2p 4 10 (by decide +kernel) rfl rfl (by decide +kernel) ?_ ?_ | refine HO_2p 7 10 (by decide +kernel) rfl rfl (by decide +kernel) ?_ ?_ | refine HO_2p 8 10 (by decide +kernel) rfl rfl (by decide +kernel) ?_ ?_) | (refine HO_k 11 rfl ?_; refine HO_appw rfl rfl rfl rfl rfl rfl rfl rfl ?h1 ?h2 rfl rfl ?h3 ?h4 rfl rfl rfl ?h5 ?_; (case h1 => simp only [List.length_append, List.length_map, List.length_cons, List.length_nil, be_length]); (case h2 => repeat (first | exact WfL.nil | exact WfL.map | apply WfL.append | refine WfL.cons rfl rfl ?_ | assumption)); (case h3 => (try simp only [List.length_append, List.length_map, List.length_cons, List.length_nil, be_length]); (try omega)); (case h4 => (try simp only [List.length_append, List.length_map, List.length_cons, List.length_nil, be_length]); (try omega)); (case h5 => exact soA); intro _ _) | (refine HO_k 11 rfl ?_; refine HO_appr rfl rfl rfl rfl rfl rfl rfl rfl ?h1 ?h2 rfl rfl ?h3 ?h4 rfl rfl rfl ?h5 ?_; (case h1 => simp only [List.length_append, List.length_map, List.length_cons, List.length_nil, be_length]); (case h2 => repeat (first | exact WfL.nil | exact WfL.map | apply WfL.append | refine WfL.cons rfl rfl ?_ | assumption)); (case h3 => (try simp only [List.length_append, List.length_map, List.length_cons, List.length_nil, be_length]); (try omega)); (case h4 => (try simp only [List.length_append, List.length_map, List.length_cons, List.length_nil, be_length]); (try omega)); (case h5 => exact soA); intro _ _) | exact HO_seg rfl rfl | refine S1 ?_ | (refine S2 ?_; intro _) | (refine S3 ?_; intro _ _) | (refine S4 ?_; intro _ _ _) | (refine HO_g 2 rfl ?_; first | apply HO_a1 rfl | apply HO_o1 rfl) | refine S5 ?_ | (intro hb; try replace hb := simB hb; try exact kill hb))
   all_goals
    rename_i A4 c4
    refine HX_keeps (rw' := [ownB (A4, c4) (H ++ (rl.take (j + 1)).flatMap carB), cel bs TDo (DoS.e ⟨⟨9, rn, nn, data, csn, cqn, cl, rsn, rqn, rl⟩, dA, dc, cA, cc, rA, rc⟩)]) ?_ ?_
    ·dsimp only [ownB, DoS.e]
     rw [← hN, hsn, ← List.append_assoc, hL]
     unfold carB
     rw [← List.append_assoc, ← List.append_assoc, List.map_append, List.map_append, List.map_append]
     exact permA
    ·exact HX_at (j + 1, (A4, c4)) ⟨hlt, by show rl.length - (j + 1) < rl.length - j; omega⟩ (by dsimp only; rw [← hN]; exact ⟨rfl, rfl, rfl, trivial⟩) rfl
 ·obtain rfl : j = rl.length := by omega
  rw [List.take_length]
  repeat' (first | refine SW ?_ | refine SD ?_ | exact HO_seg rfl rfl | refine S1 ?_ | (refine S2 ?_; intro _) | (refine S3 ?_; intro _ _) | (refine S4 ?_; intro _ _ _) | (refine HO_g 2 rfl ?_; first | apply HO_a1 rfl | apply HO_o1 rfl) | refine S5 ?_ | (intro hb; try replace hb := simB hb; try exact kill hb))
  (refine SR ?_; unfold RetQ; refine ⟨xo, trivial, rfl, permA⟩)
theorem r27do_t (d : DoS) (h1 : OneP d.q) (ha : ∀ c ∈ d.q.cl, c.a < 4294967296) :
  Tri Tryz.prog 124 [.agg d.e.toArray] d.ro [] (fun _ : OA => True) (fun x => .slice x.1 (doB d.q).length x.2) (fun x => [ownB x (doB d.q)]) := by
 have h := h1
 obtain ⟨a1, a2, _⟩ := h
 by_cases h7 : d.q.k ≤ 7
 ·exact r27do7_t d h1 h7
 ·by_cases h8 : d.q.k = 8
  ·exact r27do8_t d h1 ha h8
  ·exact r27do9_t d h1 (by omega)
theorem r27do_i {l : List DoS} {d : DoS} (h : d ∈ l) (hw : DoW d.q) (h1 : oneQ d.q = true) :
  Tri Tryz.prog 124 [.agg d.e.toArray] [inn (doPs l)] [] (fun _ : OA => True) (fun x => .slice x.1 (doB d.q).length x.2) (fun x => [ownB x (doB d.q)]) :=
 Tri_ro (r27do_t d (oneQ_iff.1 h1) hw.2.2) (do_src h)
set_option maxHeartbeats 16000000 in
theorem r27enc_t (s : ScS) (hs : ScL s) (hok : scB s = true) : Tri Tryz.prog 48 [.agg s.e.toArray] s.ro [] (fun _ : OA => True) (fun x => .slice x.1 (encM s.c.q s.q).length x.2) (fun x => [ownB x (encM s.c.q s.q)]) := by
 unfold scB at hok
 simp only [Bool.and_eq_true, decide_eq_true_eq] at hok
 have hsh := rshow19_t s.c hs.1 hok.1
 have htl := text_len s.c.q hok.1 (linesOf s.c.q).length
 rw [List.take_length] at htl
 unfold encM ScS.q
 obtain ⟨T, hT⟩ : ∃ T, txt (linesOf s.c.q) = T := ⟨_, rfl⟩
 rw [hT] at hsh htl ⊢
 have hp := rput_t 2 T.length (by decide) (by omega)
 dsimp only [ScS.ro, CfS.ro, lca, lna] at hsh ⊢
 dsimp only [ScS.e, CfS.e, lca, lna] at hsh
 refine Tri_of (N := Tryz.f48.ntmps) (c := bodyOf Tryz.f48) Tryz.func48 rfl rfl rfl rfl (fun w0 S0 => ?_)
 dsimp only [ScS.e, CfS.e, lca, lna]
 repeat' (first | refine SW ?_ | refine SD ?_ | (refine HO_k 8 rfl ?_; refine HO_slen rfl rfl rfl rfl rdA ?_) | (refine HO_k 12 rfl ?_; refine HO_callq rfl rfl rfl rfl (hsh) (fun _ _ => rfl) (srcsA) rfl rfl sqA ?_) | (refine HO_k 12 rfl ?_; refine HO_call rfl rfl rfl rfl (hp) rfl (trivial) rfl rfl soA ?_; intro x1 hx1; dsimp only [lca, lna]) | (refine HO_k 11 rfl ?_; refine HO_appS 0 (l := be 2 T.length) rfl rfl rfl rfl rfl (by rw [be_length]; omega) rfl rfl soA ?_; intro _ _; dsimp only [List.eraseIdx]) | exact HO_seg rfl rfl | refine S1 ?_ | (refine S2 ?_; intro _) | (refine S3 ?_; intro _ _) | (refine S4 ?_; intro _ _ _) | (refine HO_g 2 rfl ?_; first | apply HO_a1 rfl | apply HO_o1 rfl) | refine S5 ?_ | (intro hb; try replace hb := simB hb; try exact kill hb))
 rename_i bs A' c'
 obtain ⟨L0, hL0⟩ : ∃ L0, be 2 T.length ++ T = L0 := ⟨_, rfl⟩
 have hLl : L0.length = 2 + T.length := by rw [← hL0, List.length_append, be_length]
 rw [hL0]
 refine HC_keeps (rw' := [ownB (A', c') L0, cel bs 77 s.e]) ?_ ?_
 ·dsimp only [ownB]
  rw [hLl]
  exact permA
 refine HC_loop (α := Nat × OA) (fun x => x.1 ≤ s.l.length) (fun x => [(5, .int .i64 x.1), (4, .slice x.2.1 (L0 ++ ((s.l.take x.1).map (·.q)).flatMap doB).length x.2.2), (1, pt bs)]) (fun x => [ownB x.2 (L0 ++ ((s.l.take x.1).map (·.q)).flatMap doB), cel bs 77 s.e]) (fun x => s.l.length - x.1) rfl (0, (A', c')) (Nat.zero_le _) (by dsimp only; rw [List.take_zero, List.map_nil, List.flatMap_nil, List.append_nil, hLl]; exact ⟨rfl, rfl, rfl, trivial⟩) (by simp) ?_
 rintro ⟨j, xo⟩ hj
 dsimp only [ScS.e, CfS.e, lca, lna] at hj ⊢
 have hall := List.all_eq_true.1 hok.2.2
 rcases Nat.lt_or_ge j s.l.length with hlt | hge
 ·obtain ⟨d, hd⟩ : ∃ d, s.l[j]? = some d := ⟨s.l[j], List.getElem?_eq_getElem hlt⟩
  have hmem := List.mem_of_getElem? hd
  have hbl := doBs_len ((s.l.take j).map (·.q)) (fun q hq => hall q (by
   obtain ⟨y, hy, rfl⟩ := List.mem_map.1 hq
   exact List.mem_map.2 ⟨y, List.mem_of_mem_take hy, rfl⟩))
  rw [List.length_map, List.length_take] at hbl
  have hsn := do_snoc s.l hd
  have h1d := hall d.q (List.mem_map.2 ⟨d, hmem, rfl⟩)
  have hdl := doB_len d.q (oneQ_iff.1 h1d)
  obtain ⟨L, hL⟩ : ∃ L, L0 ++ ((s.l.take j).map (·.q)).flatMap doB = L := ⟨_, rfl⟩
  have hLL : L.length ≤ 40000000 := by rw [← hL, List.length_append]; omega
  rw [hL]
  have wd := r27do_i hmem (hs.2.2 d hmem) h1d
  have hln := hs.2.1
  have hN : L.length + (doB d.q).length = (L0 ++ ((s.l.take (j + 1)).map (·.q)).flatMap doB).length := by rw [hsn, ← List.append_assoc, hL, List.length_append]
  clear h1d hok hall
  repeat' (first | refine SW ?_ | refine SD ?_ | (refine HO_k 12 rfl ?_; refine HO_call rfl rfl rfl rfl (wd) rfl (srcsA) rfl rfl soA ?_; intro x4 hx4; dsimp only [lca, lna]) | (refine HO_k 11 rfl ?_; refine HO_appw rfl rfl rfl rfl rfl rfl rfl rfl ?h1 ?h2 rfl rfl ?h3 ?h4 rfl rfl rfl ?h5 ?_; (case h1 => simp only [List.length_append, List.length_map, List.length_cons, List.length_nil, be_length]); (case h2 => repeat (first | exact WfL.nil | exact WfL.map | apply WfL.append | refine WfL.cons rfl rfl ?_ | assumption)); (case h3 => (try simp only [List.length_append, List.length_map, List.length_cons, List.length_nil, be_length]); (try omega)); (case h4 => (try simp only [List.length_append, List.length_map, List.length_cons, List.length_nil, be_length]); (try omega)); (case h5 => exact soA); intro _ _) | exact HO_seg rfl rfl | refine S1 ?_ | (refine S2 ?_; intro _) | (refine S3 ?_; intro _ _) | (refine S4 ?_; intro _ _ _) | (refine HO_g 2 rfl ?_; first | apply HO_a1 rfl | apply HO_o1 rfl) | refine S5 ?_ | (intro hb; try replace hb := simB hb; try exact kill hb))
  rename_i A4 c4
  refine HX_keeps (rw' := [ownB (A4, c4) (L0 ++ ((s.l.take (j + 1)).map (·.q)).flatMap doB), cel bs 77 s.e]) ?_ ?_
  ·dsimp only [ownB, ScS.e, CfS.e, lca, lna]
   rw [← hN, hsn, ← List.append_assoc, hL, List.map_append]
   exact permA
  ·exact HX_at (j + 1, (A4, c4)) ⟨hlt, by show s.l.length - (j + 1) < s.l.length - j; omega⟩ (by dsimp only; rw [← hN]; exact ⟨rfl, rfl, rfl, trivial⟩) rfl
 obtain rfl : j = s.l.length := by omega
 rw [List.take_length]
 repeat' (first | refine SW ?_ | refine SD ?_ | exact HO_seg rfl rfl | refine S1 ?_ | (refine S2 ?_; intro _) | (refine S3 ?_; intro _ _) | (refine S4 ?_; intro _ _ _) | (refine HO_g 2 rfl ?_; first | apply HO_a1 rfl | apply HO_o1 rfl) | refine S5 ?_ | (intro hb; try replace hb := simB hb; try exact kill hb))
 (refine SR ?_; unfold RetQ; refine ⟨xo, trivial, rfl, permA⟩)
end Go.Proofs.YtbhiojedmkcfoaaGreatDoor
