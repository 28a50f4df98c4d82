/- A path's length, its first number, whether one is in it. -/
import Derived.Test.YtklkmdlnbddfaaaAttT
namespace Go.Proofs.Ytklkmdlnbddfaaa
set_option linter.unusedVariables false
set_option linter.unusedSimpArgs false
open Go.RowKit
attribute [local irreducible] HC HX HO Tri eP adr

def lenP (l : List SegS) : Nat := (l.map fun s => if s.set = true then 1 else s.ns.length).sum
theorem lenP_snoc (l : List SegS) (s : SegS) : lenP (l ++ [s]) = lenP l + if s.set = true then 1 else s.ns.length := by simp [lenP]
theorem lenP_le (l : List SegS) (h : ∀ s ∈ l, s.ns.length ≤ 1000) : lenP l ≤ l.length * 1000 := by
  induction l with
  | nil => simp [lenP]
  | cons s l ih =>
    have h1 := ih fun t ht => h t (by simp [ht])
    have h2 := h s (by simp)
    have e : lenP (s :: l) = (if s.set = true then 1 else s.ns.length) + lenP l := by simp [lenP]
    rw [e, List.length_cons, Nat.add_mul]
    split <;> omega
theorem lenP_take (l : List SegS) (j : Nat) (h : ∀ s ∈ l, s.ns.length ≤ 1000) (hl : l.length ≤ 1000) : lenP (l.take j) ≤ 1000000 := by
  have h1 := lenP_le (l.take j) (fun s hs => h s (List.mem_of_mem_take hs))
  have h2 : (l.take j).length ≤ 1000 := by simp; omega
  have := Nat.mul_le_mul_right 1000 h2
  omega
set_option maxHeartbeats 4000000 in
theorem alen_t (a : AttS) (h : Lim a) : Tri Try.prog 23 [.agg a.e.toArray] a.ro [] (fun _ : Unit => True) (fun _ => .int .i64 (lenP a.path)) (fun _ => []) := by
  obtain ⟨hp, hc, hs⟩ := h
  refine Tri_of (N := Try.f23.ntmps) (c := bodyOf Try.f23) Try.func23 rfl rfl rfl rfl (fun w0 S0 => ?_)
  dsimp only [AttS.ro, AttS.e]
  repeat' (first | refine SW ?_ | exact HO_seg rfl rfl | refine S1 ?_ | (refine S2 ?_; intro _) | (refine S3 ?_; intro _ _) | (refine S4 ?_; intro _ _ _) | (refine HO_g 2 rfl ?_; (first | apply HO_and rfl rfl rfl rfl rfl rfl rfl rfl rfl | apply HO_or rfl rfl rfl rfl rfl rfl rfl rfl rfl)) | refine S5 ?_ | (intro hb; try replace hb := simB hb; try exact kill hb))
  refine HC_keeps Keeps.nil ?_
  refine HC_loop (α := Nat) (fun j => j ≤ a.path.length) (fun j => [(9, .int .i64 j), (8, .int .i64 a.path.length), (7, .slice a.pA a.path.length a.pc), (3, .int .i64 (lenP (a.path.take j)))]) (fun _ => []) (fun j => a.path.length - j) rfl 0 (Nat.zero_le _) ⟨rfl, rfl, rfl, rfl, trivial⟩ rfl ?_
  intro j hj
  rcases Nat.lt_or_ge j a.path.length with hlt | hge
  · obtain ⟨x, hx⟩ : ∃ x, a.path[j]? = some x := ⟨a.path[j], List.getElem?_eq_getElem hlt⟩
    have e1 : a.path.take (j + 1) = a.path.take j ++ [x] := by rw [List.take_add_one, hx]; rfl
    have hb1 := lenP_take a.path j hs hp
    have hxl := hs x (List.mem_of_getElem? hx)
    repeat' (first | refine SW ?_ | refine SD ?_ | exact HO_seg rfl rfl | refine S1 ?_ | (refine S2 ?_; intro _) | (refine S3 ?_; intro _ _) | (refine S4 ?_; intro _ _ _) | (refine HO_g 2 rfl ?_; (first | apply HO_and rfl rfl rfl rfl rfl rfl rfl rfl rfl | apply HO_or rfl rfl rfl rfl rfl rfl rfl rfl rfl)) | refine S5 ?_ | (intro hb; try replace hb := simB hb; try exact kill hb))
    refine HC_cond rfl rfl (fun hb => ?_) (fun hb => ?_)
    · have e2 : (lenP (a.path.take j) : Int) + 1 = ((lenP (a.path.take (j + 1)) : Nat) : Int) := by rw [e1, lenP_snoc, if_pos hb]; rfl
      repeat' (first | refine SW ?_ | refine SD ?_ | exact HO_seg rfl rfl | refine S1 ?_ | (refine S2 ?_; intro _) | (refine S3 ?_; intro _ _) | (refine S4 ?_; intro _ _ _) | (refine HO_g 2 rfl ?_; (first | apply HO_and rfl rfl rfl rfl rfl rfl rfl rfl rfl | apply HO_or rfl rfl rfl rfl rfl rfl rfl rfl rfl)) | refine S5 ?_ | (intro hb; try replace hb := simB hb; try exact kill hb))
      rw [e2]
      exact HX_keeps Keeps.nil (HX_at (j + 1) ⟨hlt, by omega⟩ ⟨rfl, rfl, rfl, rfl, trivial⟩ rfl)
    · have e2 : (lenP (a.path.take j) : Int) + x.ns.length = ((lenP (a.path.take (j + 1)) : Nat) : Int) := by rw [e1, lenP_snoc, if_neg (by rw [hb]; decide)]; rfl
      repeat' (first | refine SW ?_ | refine SD ?_ | exact HO_seg rfl rfl | refine S1 ?_ | (refine S2 ?_; intro _) | (refine S3 ?_; intro _ _) | (refine S4 ?_; intro _ _ _) | (refine HO_g 2 rfl ?_; (first | apply HO_and rfl rfl rfl rfl rfl rfl rfl rfl rfl | apply HO_or rfl rfl rfl rfl rfl rfl rfl rfl rfl)) | refine S5 ?_ | (intro hb; try replace hb := simB hb; try exact kill hb))
      rw [e2]
      exact HX_keeps Keeps.nil (HX_at (j + 1) ⟨hlt, by omega⟩ ⟨rfl, rfl, rfl, rfl, trivial⟩ rfl)
  · obtain rfl : j = a.path.length := by omega
    rw [List.take_length]
    repeat' (first | refine SW ?_ | refine SD ?_ | exact HO_seg rfl rfl | refine S1 ?_ | (refine S2 ?_; intro _) | (refine S3 ?_; intro _ _) | (refine S4 ?_; intro _ _ _) | (refine HO_g 2 rfl ?_; (first | apply HO_and rfl rfl rfl rfl rfl rfl rfl rfl rfl | apply HO_or rfl rfl rfl rfl rfl rfl rfl rfl rfl)) | refine S5 ?_ | (intro hb; try replace hb := simB hb; try exact kill hb))
    ((first | apply HX_ret | apply HX_retn); (repeat (first | exact Res_nil | apply Res_tmp rfl | apply Res_ce rfl rfl rfl)); unfold RetQ; refine ⟨(), trivial, ?_, Keeps.nil⟩)
    rfl
set_option maxHeartbeats 4000000 in
theorem rlen_t (a : AttS) (h : Lim a) : Tri Try.prog 24 [.agg a.e.toArray] a.ro [] (fun _ : Unit => True) (fun _ => .int .i64 (lenP a.path)) (fun _ => []) := by
  obtain ⟨hp, hc, hs⟩ := h
  refine Tri_of (N := Try.f24.ntmps) (c := bodyOf Try.f24) Try.func24 rfl rfl rfl rfl (fun w0 S0 => ?_)
  dsimp only [AttS.ro, AttS.e]
  repeat' (first | refine SW ?_ | exact HO_seg rfl rfl | refine S1 ?_ | (refine S2 ?_; intro _) | (refine S3 ?_; intro _ _) | (refine S4 ?_; intro _ _ _) | (refine HO_g 2 rfl ?_; (first | apply HO_and rfl rfl rfl rfl rfl rfl rfl rfl rfl | apply HO_or rfl rfl rfl rfl rfl rfl rfl rfl rfl)) | refine S5 ?_ | (intro hb; try replace hb := simB hb; try exact kill hb))
  rename_i b1
  refine HC_loop (α := Nat) (fun j => j ≤ a.path.length) (fun j => [(4, .int .i64 j), (1, pt b1), (3, .int .i64 (lenP (a.path.take j)))]) (fun _ => [cel b1 26 a.e]) (fun j => a.path.length - j) rfl 0 (Nat.zero_le _) ⟨rfl, rfl, rfl, trivial⟩ rfl ?_
  intro j hj
  dsimp only [pt, AttS.e]
  rcases Nat.lt_or_ge j a.path.length with hlt | hge
  · obtain ⟨x, hx⟩ : ∃ x, a.path[j]? = some x := ⟨a.path[j], List.getElem?_eq_getElem hlt⟩
    have e1 : a.path.take (j + 1) = a.path.take j ++ [x] := by rw [List.take_add_one, hx]; rfl
    have hb1 := lenP_take a.path j hs hp
    have hxl := hs x (List.mem_of_getElem? hx)
    repeat' (first | refine SW ?_ | refine SD ?_ | exact HO_seg rfl rfl | refine S1 ?_ | (refine S2 ?_; intro _) | (refine S3 ?_; intro _ _) | (refine S4 ?_; intro _ _ _) | (refine HO_g 2 rfl ?_; (first | apply HO_and rfl rfl rfl rfl rfl rfl rfl rfl rfl | apply HO_or rfl rfl rfl rfl rfl rfl rfl rfl rfl)) | refine S5 ?_ | (intro hb; try replace hb := simB hb; try exact kill hb))
    refine HC_cond rfl rfl (fun hb => ?_) (fun hb => ?_)
    · have e2 : (lenP (a.path.take j) : Int) + 1 = ((lenP (a.path.take (j + 1)) : Nat) : Int) := by rw [e1, lenP_snoc, if_pos hb]; rfl
      repeat' (first | refine SW ?_ | refine SD ?_ | exact HO_seg rfl rfl | refine S1 ?_ | (refine S2 ?_; intro _) | (refine S3 ?_; intro _ _) | (refine S4 ?_; intro _ _ _) | (refine HO_g 2 rfl ?_; (first | apply HO_and rfl rfl rfl rfl rfl rfl rfl rfl rfl | apply HO_or rfl rfl rfl rfl rfl rfl rfl rfl rfl)) | refine S5 ?_ | (intro hb; try replace hb := simB hb; try exact kill hb))
      rw [e2]
      exact HX_at (j + 1) ⟨hlt, by omega⟩ ⟨rfl, rfl, rfl, trivial⟩ rfl
    · have e2 : (lenP (a.path.take j) : Int) + x.ns.length = ((lenP (a.path.take (j + 1)) : Nat) : Int) := by rw [e1, lenP_snoc, if_neg (by rw [hb]; decide)]; rfl
      repeat' (first | refine SW ?_ | refine SD ?_ | exact HO_seg rfl rfl | refine S1 ?_ | (refine S2 ?_; intro _) | (refine S3 ?_; intro _ _) | (refine S4 ?_; intro _ _ _) | (refine HO_g 2 rfl ?_; (first | apply HO_and rfl rfl rfl rfl rfl rfl rfl rfl rfl | apply HO_or rfl rfl rfl rfl rfl rfl rfl rfl rfl)) | refine S5 ?_ | (intro hb; try replace hb := simB hb; try exact kill hb))
      rw [e2]
      exact HX_at (j + 1) ⟨hlt, by omega⟩ ⟨rfl, rfl, rfl, trivial⟩ rfl
  · obtain rfl : j = a.path.length := by omega
    rw [List.take_length]
    repeat' (first | refine SW ?_ | refine SD ?_ | exact HO_seg rfl rfl | refine S1 ?_ | (refine S2 ?_; intro _) | (refine S3 ?_; intro _ _) | (refine S4 ?_; intro _ _ _) | (refine HO_g 2 rfl ?_; (first | apply HO_and rfl rfl rfl rfl rfl rfl rfl rfl rfl | apply HO_or rfl rfl rfl rfl rfl rfl rfl rfl rfl)) | refine S5 ?_ | (intro hb; try replace hb := simB hb; try exact kill hb))
    ((first | apply HX_ret | apply HX_retn); (repeat (first | exact Res_nil | apply Res_tmp rfl | apply Res_ce rfl rfl rfl)); unfold RetQ; refine ⟨(), trivial, ?_, Keeps.nil⟩)
    rfl
/-- a path's first number -/
def fstP : List SegS → Int
  | [] => 0
  | s :: _ => if s.set = true then 0 else match s.ns with
    | [] => 0
    | n :: _ => n
set_option maxHeartbeats 8000000 in
theorem afst_t (a : AttS) : Tri Try.prog 25 [.agg a.e.toArray] a.ro [] (fun _ : Unit => True) (fun _ => .int .i64 (fstP a.path)) (fun _ => []) := by
  obtain ⟨org, pA, pc, path, nxt, med, pref, cA, cc, comms⟩ := a
  rcases path with _ | ⟨⟨set, sA, sc, ns⟩, path⟩
  · refine Tri_of (N := Try.f25.ntmps) (c := bodyOf Try.f25) Try.func25 rfl rfl rfl rfl (fun w0 S0 => ?_)
    dsimp only [AttS.ro, AttS.e]
    repeat' (first | refine SW ?_ | refine SD ?_ | exact HO_seg rfl rfl | refine S1 ?_ | (refine S2 ?_; intro _) | (refine S3 ?_; intro _ _) | (refine S4 ?_; intro _ _ _) | (refine HO_g 2 rfl ?_; (first | apply HO_and rfl rfl rfl rfl rfl rfl rfl rfl rfl | apply HO_or rfl rfl rfl rfl rfl rfl rfl rfl rfl)) | refine S5 ?_ | (intro hb; try replace hb := simB hb; try exact kill hb))
    ((first | apply HX_ret | apply HX_retn); (repeat (first | exact Res_nil | apply Res_tmp rfl | apply Res_ce rfl rfl rfl)); unfold RetQ; refine ⟨(), trivial, ?_, Keeps.nil⟩)
    rfl
  have hne : ¬ ((((⟨set, sA, sc, ns⟩ : SegS) :: path).length : Nat) : Int) = 0 := by simp only [List.length_cons]; omega
  have hlt : (0 : Int) < ((((⟨set, sA, sc, ns⟩ : SegS) :: path).length : Nat) : Int) := by simp only [List.length_cons]; omega
  have hmem : arr iE 1 sA ns ∈ segPs ((⟨set, sA, sc, ns⟩ : SegS) :: path) := seg_mem (s := ⟨set, sA, sc, ns⟩) (by simp)
  cases set
  rotate_left
  · refine Tri_of (N := Try.f25.ntmps) (c := bodyOf Try.f25) Try.func25 rfl rfl rfl rfl (fun w0 S0 => ?_)
    dsimp only [AttS.ro, AttS.e]
    repeat' (first | refine SW ?_ | refine SD ?_ | exact HO_seg rfl rfl | refine S1 ?_ | (refine S2 ?_; intro _) | (refine S3 ?_; intro _ _) | (refine S4 ?_; intro _ _ _) | (refine HO_g 2 rfl ?_; (first | apply HO_and rfl rfl rfl rfl rfl rfl rfl rfl rfl | apply HO_or rfl rfl rfl rfl rfl rfl rfl rfl rfl)) | refine S5 ?_ | (intro hb; try replace hb := simB hb; try exact kill hb))
    ((first | apply HX_ret | apply HX_retn); (repeat (first | exact Res_nil | apply Res_tmp rfl | apply Res_ce rfl rfl rfl)); unfold RetQ; refine ⟨(), trivial, ?_, Keeps.nil⟩)
    rfl
  rcases ns with _ | ⟨n, ns⟩
  · refine Tri_of (N := Try.f25.ntmps) (c := bodyOf Try.f25) Try.func25 rfl rfl rfl rfl (fun w0 S0 => ?_)
    dsimp only [AttS.ro, AttS.e]
    repeat' (first | refine SW ?_ | refine SD ?_ | exact HO_seg rfl rfl | refine S1 ?_ | (refine S2 ?_; intro _) | (refine S3 ?_; intro _ _) | (refine S4 ?_; intro _ _ _) | (refine HO_g 2 rfl ?_; (first | apply HO_and rfl rfl rfl rfl rfl rfl rfl rfl rfl | apply HO_or rfl rfl rfl rfl rfl rfl rfl rfl rfl)) | refine S5 ?_ | (intro hb; try replace hb := simB hb; try exact kill hb))
    ((first | apply HX_ret | apply HX_retn); (repeat (first | exact Res_nil | apply Res_tmp rfl | apply Res_ce rfl rfl rfl)); unfold RetQ; refine ⟨(), trivial, ?_, Keeps.nil⟩)
    rfl
  · have hne2 : ¬ (((n :: ns).length : Nat) : Int) = 0 := by simp only [List.length_cons]; omega
    have hlt2 : (0 : Int) < (((n :: ns).length : Nat) : Int) := by simp only [List.length_cons]; omega
    refine Tri_of (N := Try.f25.ntmps) (c := bodyOf Try.f25) Try.func25 rfl rfl rfl rfl (fun w0 S0 => ?_)
    dsimp only [AttS.ro, AttS.e]
    refine HC_see (enc := iE) (sz := 1) (A := sA) (xs := n :: ns) List.mem_cons_self hmem ?_
    repeat' (first | refine SW ?_ | refine SD ?_ | exact HO_seg rfl rfl | refine S1 ?_ | (refine S2 ?_; intro _) | (refine S3 ?_; intro _ _) | (refine S4 ?_; intro _ _ _) | (refine HO_g 2 rfl ?_; (first | apply HO_and rfl rfl rfl rfl rfl rfl rfl rfl rfl | apply HO_or rfl rfl rfl rfl rfl rfl rfl rfl rfl)) | refine S5 ?_ | (intro hb; try replace hb := simB hb; try exact kill hb))
    refine HX_unsee ?_
    ((first | apply HX_ret | apply HX_retn); (repeat (first | exact Res_nil | apply Res_tmp rfl | apply Res_ce rfl rfl rfl)); unfold RetQ; refine ⟨(), trivial, ?_, Keeps.nil⟩)
    rfl
set_option maxHeartbeats 8000000 in
theorem rfst_t (a : AttS) : Tri Try.prog 26 [.agg a.e.toArray] a.ro [] (fun _ : Unit => True) (fun _ => .int .i64 (fstP a.path)) (fun _ => []) := by
  obtain ⟨org, pA, pc, path, nxt, med, pref, cA, cc, comms⟩ := a
  rcases path with _ | ⟨⟨set, sA, sc, ns⟩, path⟩
  · refine Tri_of (N := Try.f26.ntmps) (c := bodyOf Try.f26) Try.func26 rfl rfl rfl rfl (fun w0 S0 => ?_)
    dsimp only [AttS.ro, AttS.e]
    repeat' (first | refine SW ?_ | refine SD ?_ | exact HO_seg rfl rfl | refine S1 ?_ | (refine S2 ?_; intro _) | (refine S3 ?_; intro _ _) | (refine S4 ?_; intro _ _ _) | (refine HO_g 2 rfl ?_; (first | apply HO_and rfl rfl rfl rfl rfl rfl rfl rfl rfl | apply HO_or rfl rfl rfl rfl rfl rfl rfl rfl rfl)) | refine S5 ?_ | (intro hb; try replace hb := simB hb; try exact kill hb))
    ((first | apply HX_ret | apply HX_retn); (repeat (first | exact Res_nil | apply Res_tmp rfl | apply Res_ce rfl rfl rfl)); unfold RetQ; refine ⟨(), trivial, ?_, Keeps.nil⟩)
    rfl
  have hne : ¬ ((((⟨set, sA, sc, ns⟩ : SegS) :: path).length : Nat) : Int) = 0 := by simp only [List.length_cons]; omega
  have hlt : (0 : Int) < ((((⟨set, sA, sc, ns⟩ : SegS) :: path).length : Nat) : Int) := by simp only [List.length_cons]; omega
  have hmem : arr iE 1 sA ns ∈ segPs ((⟨set, sA, sc, ns⟩ : SegS) :: path) := seg_mem (s := ⟨set, sA, sc, ns⟩) (by simp)
  cases set
  rotate_left
  · refine Tri_of (N := Try.f26.ntmps) (c := bodyOf Try.f26) Try.func26 rfl rfl rfl rfl (fun w0 S0 => ?_)
    dsimp only [AttS.ro, AttS.e]
    repeat' (first | refine SW ?_ | refine SD ?_ | exact HO_seg rfl rfl | refine S1 ?_ | (refine S2 ?_; intro _) | (refine S3 ?_; intro _ _) | (refine S4 ?_; intro _ _ _) | (refine HO_g 2 rfl ?_; (first | apply HO_and rfl rfl rfl rfl rfl rfl rfl rfl rfl | apply HO_or rfl rfl rfl rfl rfl rfl rfl rfl rfl)) | refine S5 ?_ | (intro hb; try replace hb := simB hb; try exact kill hb))
    ((first | apply HX_ret | apply HX_retn); (repeat (first | exact Res_nil | apply Res_tmp rfl | apply Res_ce rfl rfl rfl)); unfold RetQ; refine ⟨(), trivial, ?_, Keeps.nil⟩)
    rfl
  rcases ns with _ | ⟨n, ns⟩
  · refine Tri_of (N := Try.f26.ntmps) (c := bodyOf Try.f26) Try.func26 rfl rfl rfl rfl (fun w0 S0 => ?_)
    dsimp only [AttS.ro, AttS.e]
    repeat' (first | refine SW ?_ | refine SD ?_ | exact HO_seg rfl rfl | refine S1 ?_ | (refine S2 ?_; intro _) | (refine S3 ?_; intro _ _) | (refine S4 ?_; intro _ _ _) | (refine HO_g 2 rfl ?_; (first | apply HO_and rfl rfl rfl rfl rfl rfl rfl rfl rfl | apply HO_or rfl rfl rfl rfl rfl rfl rfl rfl rfl)) | refine S5 ?_ | (intro hb; try replace hb := simB hb; try exact kill hb))
    ((first | apply HX_ret | apply HX_retn); (repeat (first | exact Res_nil | apply Res_tmp rfl | apply Res_ce rfl rfl rfl)); unfold RetQ; refine ⟨(), trivial, ?_, Keeps.nil⟩)
    rfl
  · have hne2 : ¬ (((n :: ns).length : Nat) : Int) = 0 := by simp only [List.length_cons]; omega
    have hlt2 : (0 : Int) < (((n :: ns).length : Nat) : Int) := by simp only [List.length_cons]; omega
    refine Tri_of (N := Try.f26.ntmps) (c := bodyOf Try.f26) Try.func26 rfl rfl rfl rfl (fun w0 S0 => ?_)
    dsimp only [AttS.ro, AttS.e]
    refine HC_see (enc := iE) (sz := 1) (A := sA) (xs := n :: ns) List.mem_cons_self hmem ?_
    repeat' (first | refine SW ?_ | refine SD ?_ | exact HO_seg rfl rfl | refine S1 ?_ | (refine S2 ?_; intro _) | (refine S3 ?_; intro _ _) | (refine S4 ?_; intro _ _ _) | (refine HO_g 2 rfl ?_; (first | apply HO_and rfl rfl rfl rfl rfl rfl rfl rfl rfl | apply HO_or rfl rfl rfl rfl rfl rfl rfl rfl rfl)) | refine S5 ?_ | (intro hb; try replace hb := simB hb; try exact kill hb))
    refine HX_unsee ?_
    ((first | apply HX_ret | apply HX_retn); (repeat (first | exact Res_nil | apply Res_tmp rfl | apply Res_ce rfl rfl rfl)); unfold RetQ; refine ⟨(), trivial, ?_, Keeps.nil⟩)
    rfl
end Go.Proofs.Ytklkmdlnbddfaaa
