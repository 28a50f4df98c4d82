/- The reference's text of settings. -/
import Derived.Test.YtbhiojedmkcfoaaGreatDoorCgS
import Derived.Test.YtbhiojedmkcfoaaGreatDoorCgA
namespace Go.Proofs.YtbhiojedmkcfoaaGreatDoor
set_option linter.unusedVariables false
set_option linter.unusedSimpArgs false
open Go.RowKit
attribute [local irreducible] HC HX HO Tri eP adr

set_option maxHeartbeats 8000000 in
theorem rwords_t : Tri Tryz.prog 74 [] [] [] (fun _ : Nat => True) (fun b => .slice (some ⟨b, 0, none⟩) 18 18) (fun b => [own idE 9 1 (some ⟨b, 0, none⟩) 18 18 (wordsL.map strE)]) := by
  refine Tri_of (N := Tryz.f74.ntmps) (c := bodyOf Tryz.f74) Tryz.func74 rfl rfl rfl rfl (fun w0 S0 => ?_)
  repeat' (first | refine SW ?_ | refine SD ?_ | exact HO_seg rfl rfl | refine S1 ?_ | (refine S2 ?_; intro _) | (refine S3 ?_; intro _ _) | (refine S4 ?_; intro _ _ _) | (refine HO_g 2 rfl ?_; (first | apply HO_and rfl rfl rfl rfl rfl rfl rfl rfl rfl | apply HO_or rfl rfl rfl rfl rfl rfl rfl rfl rfl)) | refine S5 ?_ | (intro hb; try replace hb := simB hb; try exact kill hb))
  rename_i b
  ((first | apply HX_ret | apply HX_retn); (repeat (first | exact Res_nil | apply Res_tmp rfl | apply Res_ce rfl rfl rfl)); unfold RetQ; apply Exists.intro (b); refine ⟨trivial, ?_, ?_⟩; rotate_left 1; (repeat (first | exact Keeps.nil | refine Keeps.own_cons ?_ ?_ ?_ | refine Keeps.arr_cons ?_ ?_ | refine Keeps.cons Ent.rfl_ ?_ | refine Keeps.skip ?_ | refine Keeps.own_none ?_ ?_ ?_ | refine Keeps.arr_none ?_ ?_)))
  all_goals rfl
theorem numsOf_at (q : CfQ) (i : Nat) (h : i < 18) : (numsOf q)[i]? = some (if i = 1 then 0 else num q i) := by
  by_cases h1 : i = 1
  · subst h1; rfl
  · rw [if_neg h1]; exact nums_at q h h1
theorem fix_txt (c : CfQ) (i : Nat) (w : List UInt8) (hw : wordsL.getD i [] = w) (out : List UInt8) (h1 : i ≠ 1) : (((out ++ w) ++ [32]) ++ decD (num c i).toNat) ++ [10] = out ++ (fixL c i ++ [10]) := by
  unfold fixL
  rw [if_neg h1, hw]
  simp
theorem fix_txt1 (c : CfQ) (w : List UInt8) (hw : wordsL.getD 1 [] = w) (out : List UInt8) : (((out ++ w) ++ [32]) ++ dotS c.id) ++ [10] = out ++ (fixL c 1 ++ [10]) := by
  unfold fixL
  rw [if_pos rfl, hw]
  simp
theorem if_txt (x : IfQ) (out : List UInt8) : ((((((((out ++ [105, 102, 97, 99, 101, 32]) ++ decD x.id.toNat) ++ [32]) ++ decD x.router.toNat) ++ [32]) ++ shoS x.a x.n) ++ [32]) ++ decD x.cap.toNat) ++ [10] = out ++ (ifL x ++ [10]) := by
  unfold ifL ifaceW
  simp
theorem deny_txt (n : Int) (out : List UInt8) : ((out ++ [100, 101, 110, 121, 32]) ++ decD n.toNat) ++ [10] = out ++ (denyL n ++ [10]) := by
  unfold denyL denyW
  simp
theorem rdigI_t (z : Int) (h : 0 ≤ z ∧ z < 10000000000000000) : Tri Tryz.prog 76 [.int .i64 z] [] [] (fun _ : Unit => True) (fun _ => .string ⟨(decD z.toNat).toArray⟩) (fun _ => []) := by
  have := rdigD_t z.toNat (by omega)
  rw [show ((z.toNat : Nat) : Int) = z by omega] at this
  exact this
set_option maxHeartbeats 16000000 in
theorem rshow19_t (c : CfS) (hc : CfL c) (hok : cfOk c.q = true) : Tri Tryz.prog 21 [.agg c.e.toArray] c.ro [] (fun _ : Unit => True) (fun _ => .string ⟨(txt (linesOf c.q)).toArray⟩) (fun _ => []) := by
  have hW := rwords_t
  have hN := rnums_t c
  dsimp only [CfS.e] at hN
  have htl := text_len c.q hok
  have hll := linesOf_len c.q
  have hpp := cfOk_parts hok
  refine Tri_of (N := Tryz.f21.ntmps) (c := bodyOf Tryz.f21) Tryz.func21 rfl rfl rfl rfl (fun w0 S0 => ?_)
  dsimp only [CfS.ro, CfS.e]
  repeat' (first | refine SW ?_ | (refine HC_lex rfl rfl (by decide +kernel) rfl rfl ?_) | refine SD ?_ | (refine HO_k 12 rfl ?_; refine HO_call rfl rfl rfl rfl (hW) rfl (trivial) rfl rfl soA ?_; intro bw hbw; dsimp only [List.cons_append, List.nil_append]) | (refine HO_k 12 rfl ?_; refine HO_call rfl rfl rfl rfl (hN) rfl (trivial) rfl rfl soA ?_; intro bn hbn; dsimp only [List.cons_append, List.nil_append]) | exact HO_seg rfl rfl | refine S1 ?_ | (refine S2 ?_; intro _) | (refine S3 ?_; intro _ _) | (refine S4 ?_; intro _ _ _) | (refine HO_g 2 rfl ?_; (first | apply HO_and rfl rfl rfl rfl rfl rfl rfl rfl rfl | apply HO_or rfl rfl rfl rfl rfl rfl rfl rfl rfl)) | refine S5 ?_ | (intro hb; try replace hb := simB hb; try exact kill hb))
  rename_i bc
  have hnum := cfOk_nums hok
  refine HC_loop (α := Nat) (fun i => i ≤ 18) (fun i => [(6, .int .i64 i), (5, .slice (some ⟨bn, 0, none⟩) 18 18), (4, .slice (some ⟨bw, 0, none⟩) 18 18), (3, .string ⟨(txt ((linesOf c.q).take i)).toArray⟩), (1, pt bc)]) (fun i => [cel bc TCf c.e, own idE 3 1 (some ⟨bn, 0, none⟩) 18 18 ((numsOf c.q).map iE), own idE 9 1 (some ⟨bw, 0, none⟩) 18 18 (wordsL.map strE)]) (fun i => 18 - i) rfl 0 (Nat.zero_le _) ⟨rfl, rfl, rfl, rfl, rfl, trivial⟩ rfl ?_
  intro i hi
  rcases Nat.lt_or_ge i 18 with hlt | hge
  · have hwi := words_at i hlt
    have hni := numsOf_at c.q i hlt
    have hwl := word_len i
    have htx := txt_take (lines_fix c.q i hlt)
    have hti := htl i
    obtain ⟨lo, hlo⟩ : ∃ lo, txt ((linesOf c.q).take i) = lo := ⟨_, rfl⟩
    rw [hlo] at htx hti
    rw [hlo]
    by_cases h1 : i = 1
    · subst h1
      rw [if_pos rfl] at hni
      have hdl := dotS_len c.q.id
      have hI := rdigI_t 0 (by decide)
      have hD := rdotted_t c.q.id hc.2.2.1
      have hfx : Value.string ⟨((((lo ++ [105, 100]) ++ [32]) ++ dotS c.q.id) ++ [10]).toArray⟩ = Value.string ⟨(txt ((linesOf c.q).take (1 + 1))).toArray⟩ := by rw [fix_txt1 c.q [105, 100] rfl, htx]
      repeat' (first | refine SW ?_ | (with_reducible refine HO_rw hfx ?_) | refine SD ?_ | (refine HO_k 0 rfl ?_; refine HO_cat rfl rfl rfl (by first | omega | (simp only [List.length_append, List.length_cons, List.length_nil]; omega)) rfl rfl rdA ?_) | (refine HO_k 12 rfl ?_; refine HO_callq rfl rfl rfl rfl (hI) (fun _ _ => rfl) (trivial) rfl rfl sqA ?_) | (refine HO_k 12 rfl ?_; refine HO_callq rfl rfl rfl rfl (hD) (fun _ _ => rfl) (trivial) rfl rfl sqA ?_) | exact HO_seg rfl rfl | refine S1 ?_ | (refine S2 ?_; intro _) | (refine S3 ?_; intro _ _) | (refine S4 ?_; intro _ _ _) | (refine HO_g 2 rfl ?_; (first | apply HO_and rfl rfl rfl rfl rfl rfl rfl rfl rfl | apply HO_or rfl rfl rfl rfl rfl rfl rfl rfl rfl)) | refine S5 ?_ | (intro hb; try replace hb := simB hb; try exact kill hb))
      exact HX_at (1 + 1) ⟨by show 2 ≤ 18; decide, by show 18 - 2 < 18 - 1; decide⟩ ⟨rfl, rfl, rfl, rfl, rfl, trivial⟩ rfl
    · rw [if_neg h1] at hni
      have hnn := hnum i hlt h1
      have hdl := decI_len hnn
      have hI := rdigI_t (num c.q i) hnn
      have hfx : Value.string ⟨((((lo ++ wordsL.getD i []) ++ [32]) ++ decD (num c.q i).toNat) ++ [10]).toArray⟩ = Value.string ⟨(txt ((linesOf c.q).take (i + 1))).toArray⟩ := by rw [fix_txt c.q i _ rfl lo h1, htx]
      repeat' (first | refine SW ?_ | (with_reducible refine HO_rw hfx ?_) | refine SD ?_ | (refine HO_k 0 rfl ?_; refine HO_cat rfl rfl rfl (by first | omega | (simp only [List.length_append, List.length_cons, List.length_nil]; omega)) rfl rfl rdA ?_) | (refine HO_k 12 rfl ?_; refine HO_callq rfl rfl rfl rfl (hI) (fun _ _ => rfl) (trivial) rfl rfl sqA ?_) | exact HO_seg rfl rfl | refine S1 ?_ | (refine S2 ?_; intro _) | (refine S3 ?_; intro _ _) | (refine S4 ?_; intro _ _ _) | (refine HO_g 2 rfl ?_; (first | apply HO_and rfl rfl rfl rfl rfl rfl rfl rfl rfl | apply HO_or rfl rfl rfl rfl rfl rfl rfl rfl rfl)) | refine S5 ?_ | (intro hb; try replace hb := simB hb; try exact kill hb))
      exact HX_at (i + 1) ⟨hlt, by omega⟩ ⟨rfl, rfl, rfl, rfl, rfl, trivial⟩ rfl
  obtain rfl : i = 18 := by omega
  repeat' (first | refine SW ?_ | refine SD ?_ | exact HO_seg rfl rfl | refine S1 ?_ | (refine S2 ?_; intro _) | (refine S3 ?_; intro _ _) | (refine S4 ?_; intro _ _ _) | (refine HO_g 2 rfl ?_; (first | apply HO_and rfl rfl rfl rfl rfl rfl rfl rfl rfl | apply HO_or rfl rfl rfl rfl rfl rfl rfl rfl rfl)) | refine S5 ?_ | (intro hb; try replace hb := simB hb; try exact kill hb))
  refine HC_keeps (rw' := [cel bc TCf c.e]) permA ?_
  refine HC_loop (α := Nat) (fun j => j ≤ c.q.ifs.length) (fun j => [(8, .int .i64 j), (3, .string ⟨(txt ((linesOf c.q).take (18 + j))).toArray⟩), (1, pt bc)]) (fun i => [cel bc TCf c.e]) (fun j => c.q.ifs.length - j) rfl 0 (Nat.zero_le _) ⟨rfl, rfl, rfl, trivial⟩ rfl ?_
  clear hi
  intro j hj
  rcases Nat.lt_or_ge j c.q.ifs.length with hlt | hge
  · obtain ⟨x, hx⟩ : ∃ x, c.q.ifs[j]? = some x := ⟨c.q.ifs[j], List.getElem?_eq_getElem hlt⟩
    have hmem := List.mem_of_getElem? hx
    have hnx := if_nums hok hmem
    have htx := txt_take (lines_if c.q hx)
    have hti := htl (18 + j)
    have hti2 := htl (18 + j + 1)
    obtain ⟨lo, hlo⟩ : ∃ lo, txt ((linesOf c.q).take (18 + j)) = lo := ⟨_, rfl⟩
    rw [hlo] at htx hti
    rw [hlo]
    have l1 := decI_len hnx.1
    have l2 := decI_len hnx.2.1
    have l3 := decI_len hnx.2.2
    have l4 := shoS_len9 x.a x.n
    have hI1 := rdigI_t x.id hnx.1
    have hI2 := rdigI_t x.router hnx.2.1
    have hI3 := rdigI_t x.cap hnx.2.2
    have hP := rshow_t x.a (hc.2.2.2 x hmem) x.n
    dsimp only [pfV] at hP
    have hfx : Value.string ⟨(((((((((lo ++ [105, 102, 97, 99, 101, 32]) ++ decD x.id.toNat) ++ [32]) ++ decD x.router.toNat) ++ [32]) ++ shoS x.a x.n) ++ [32]) ++ decD x.cap.toNat) ++ [10]).toArray⟩ = Value.string ⟨(txt ((linesOf c.q).take (18 + (j + 1)))).toArray⟩ := by rw [if_txt, show 18 + (j + 1) = 18 + j + 1 by omega, htx]
    dsimp only [CfS.e]
    repeat' (first | refine SW ?_ | (with_reducible refine HO_rw hfx ?_) | refine SD ?_ | (refine HO_k 0 rfl ?_; refine HO_cat rfl rfl rfl (by first | omega | (simp only [List.length_append, List.length_cons, List.length_nil]; omega)) rfl rfl rdA ?_) | (refine HO_k 12 rfl ?_; refine HO_callq rfl rfl rfl rfl (hI1) (fun _ _ => rfl) (trivial) rfl rfl sqA ?_) | (refine HO_k 12 rfl ?_; refine HO_callq rfl rfl rfl rfl (hI2) (fun _ _ => rfl) (trivial) rfl rfl sqA ?_) | (refine HO_k 12 rfl ?_; refine HO_callq rfl rfl rfl rfl (hI3) (fun _ _ => rfl) (trivial) rfl rfl sqA ?_) | (refine HO_k 12 rfl ?_; refine HO_callq rfl rfl rfl rfl (hP) (fun _ _ => rfl) (trivial) rfl rfl sqA ?_) | exact HO_seg rfl rfl | refine S1 ?_ | (refine S2 ?_; intro _) | (refine S3 ?_; intro _ _) | (refine S4 ?_; intro _ _ _) | (refine HO_g 2 rfl ?_; (first | apply HO_and rfl rfl rfl rfl rfl rfl rfl rfl rfl | apply HO_or rfl rfl rfl rfl rfl rfl rfl rfl rfl)) | refine S5 ?_ | (intro hb; try replace hb := simB hb; try exact kill hb))
    refine HX_keeps (rw' := [cel bc TCf c.e]) permA ?_
    exact HX_at (j + 1) ⟨hlt, by omega⟩ ⟨rfl, rfl, rfl, trivial⟩ rfl
  obtain rfl : j = c.q.ifs.length := by omega
  dsimp only [CfS.e]
  repeat' (first | refine SW ?_ | refine SD ?_ | exact HO_seg rfl rfl | refine S1 ?_ | (refine S2 ?_; intro _) | (refine S3 ?_; intro _ _) | (refine S4 ?_; intro _ _ _) | (refine HO_g 2 rfl ?_; (first | apply HO_and rfl rfl rfl rfl rfl rfl rfl rfl rfl | apply HO_or rfl rfl rfl rfl rfl rfl rfl rfl rfl)) | refine S5 ?_ | (intro hb; try replace hb := simB hb; try exact kill hb))
  refine HC_loop (α := Nat) (fun j => j ≤ c.q.deny.length) (fun j => [(10, .int .i64 j), (3, .string ⟨(txt ((linesOf c.q).take (18 + c.q.ifs.length + j))).toArray⟩), (1, pt bc)]) (fun i => [cel bc TCf c.e]) (fun j => c.q.deny.length - j) rfl 0 (Nat.zero_le _) ⟨rfl, rfl, rfl, trivial⟩ rfl ?_
  clear hj
  intro j hj
  rcases Nat.lt_or_ge j c.q.deny.length with hlt | hge
  · obtain ⟨x, hx⟩ : ∃ x, c.q.deny[j]? = some x := ⟨c.q.deny[j], List.getElem?_eq_getElem hlt⟩
    have hmem := List.mem_of_getElem? hx
    have hnx := deny_nums hok hmem
    have htx := txt_take (lines_deny c.q hx)
    have hti := htl (18 + c.q.ifs.length + j)
    obtain ⟨lo, hlo⟩ : ∃ lo, txt ((linesOf c.q).take (18 + c.q.ifs.length + j)) = lo := ⟨_, rfl⟩
    rw [hlo] at htx hti
    rw [hlo]
    have l1 := decI_len hnx
    have hI1 := rdigI_t x hnx
    have hfx : Value.string ⟨(((lo ++ [100, 101, 110, 121, 32]) ++ decD x.toNat) ++ [10]).toArray⟩ = Value.string ⟨(txt ((linesOf c.q).take (18 + c.q.ifs.length + (j + 1)))).toArray⟩ := by rw [deny_txt, show 18 + c.q.ifs.length + (j + 1) = 18 + c.q.ifs.length + j + 1 by omega, htx]
    dsimp only [CfS.e]
    repeat' (first | refine SW ?_ | (with_reducible refine HO_rw hfx ?_) | refine SD ?_ | (refine HO_k 0 rfl ?_; refine HO_cat rfl rfl rfl (by first | omega | (simp only [List.length_append, List.length_cons, List.length_nil]; omega)) rfl rfl rdA ?_) | (refine HO_k 12 rfl ?_; refine HO_callq rfl rfl rfl rfl (hI1) (fun _ _ => rfl) (trivial) rfl rfl sqA ?_) | exact HO_seg rfl rfl | refine S1 ?_ | (refine S2 ?_; intro _) | (refine S3 ?_; intro _ _) | (refine S4 ?_; intro _ _ _) | (refine HO_g 2 rfl ?_; (first | apply HO_and rfl rfl rfl rfl rfl rfl rfl rfl rfl | apply HO_or rfl rfl rfl rfl rfl rfl rfl rfl rfl)) | refine S5 ?_ | (intro hb; try replace hb := simB hb; try exact kill hb))
    refine HX_keeps (rw' := [cel bc TCf c.e]) permA ?_
    exact HX_at (j + 1) ⟨hlt, by omega⟩ ⟨rfl, rfl, rfl, trivial⟩ rfl
  obtain rfl : j = c.q.deny.length := by omega
  have hall : (linesOf c.q).take (18 + c.q.ifs.length + c.q.deny.length) = linesOf c.q := by rw [← hll]; exact List.take_length
  rw [hall]
  dsimp only [CfS.e]
  repeat' (first | refine SW ?_ | refine SD ?_ | exact HO_seg rfl rfl | refine S1 ?_ | (refine S2 ?_; intro _) | (refine S3 ?_; intro _ _) | (refine S4 ?_; intro _ _ _) | (refine HO_g 2 rfl ?_; (first | apply HO_and rfl rfl rfl rfl rfl rfl rfl rfl rfl | apply HO_or rfl rfl rfl rfl rfl rfl rfl rfl rfl)) | refine S5 ?_ | (intro hb; try replace hb := simB hb; try exact kill hb))
  ((first | apply HX_ret | apply HX_retn); (repeat (first | exact Res_nil | apply Res_tmp rfl | apply Res_ce rfl rfl rfl)); unfold RetQ; refine ⟨(), trivial, ?_, Keeps.nil⟩)
  rfl
end Go.Proofs.YtbhiojedmkcfoaaGreatDoor
