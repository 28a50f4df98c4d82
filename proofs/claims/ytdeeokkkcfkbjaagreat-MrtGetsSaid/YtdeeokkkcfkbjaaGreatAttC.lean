/- bypathref01's functions: what each computes. -/
import Derived.Test.YtdeeokkkcfkbjaaGreatAttB
namespace Go.Proofs.YtdeeokkkcfkbjaaGreat
set_option linter.unusedVariables false
set_option linter.unusedSimpArgs false
open Go.RowKit
attribute [local irreducible] HC HX HO Tri eP adr

theorem pow8 (w : Nat) : (2 : Nat) ^ (8 * w) = 256 ^ w := by rw [show (256 : Nat) = 2 ^ 8 from rfl, ← Nat.pow_mul]
theorem shl_one (w : Nat) (h : w ≤ 4) : bShl .i64 1 (8 * w) = ((256 ^ w : Nat) : Int) := by
  have : w = 0 ∨ w = 1 ∨ w = 2 ∨ w = 3 ∨ w = 4 := by omega
  rcases this with rfl | rfl | rfl | rfl | rfl <;> decide
theorem fits_t (n : Int) (w : Nat) (h1 : 1 ≤ w) (h4 : w ≤ 4) :
    Tri Tryz.prog 24 [.int .i64 n, .int .i64 w] [] [] (fun _ : Unit => True) (fun _ => .bool (decide (0 ≤ n) && decide (n < (256 ^ w : Nat)))) (fun _ => []) := by
  have hs := shl_one w h4
  refine Tri_of (N := Tryz.f24.ntmps) (c := bodyOf Tryz.f24) Tryz.func24 rfl rfl rfl rfl (fun w0 S0 => ?_)
  repeat' (first | refine SW ?_ | exact HO_seg rfl rfl | refine S1 ?_ | (refine S2 ?_; intro _) | (refine S3 ?_; intro _ _) | (refine S4 ?_; intro _ _ _) | (refine HO_g 2 rfl ?_; (first | apply HO_and rfl rfl rfl rfl rfl rfl rfl rfl rfl | apply HO_or rfl rfl rfl rfl rfl rfl rfl rfl rfl)) | refine S5 ?_ | (intro hb; try replace hb := simB hb; try exact kill hb))
  ((first | apply HX_ret | apply HX_retn); (repeat (first | exact Res_nil | apply Res_tmp rfl | apply Res_ce rfl rfl rfl)); unfold RetQ; refine ⟨(), trivial, ?_, Keeps.nil⟩)
  rw [hs]
  rfl

theorem rput_row (w k j : Nat) (hj : j ≤ w) : w = ((List.replicate j (0 : UInt8) ++ (be w k).drop j).map bE).length := by
  simp [be_length]; omega
theorem rput_at (w k j : Nat) (hj : 0 < j) : ((List.replicate j (0 : UInt8) ++ (be w k).drop j).map bE)[j - 1]? = some (bE 0) := by
  rw [List.getElem?_map, List.getElem?_append_left (by simp; omega), List.getElem?_replicate, if_pos (by omega)]
  rfl
theorem rput_step (w k j : Nat) (h0 : 0 < j) (hj : j ≤ w) (v : List Value) (hv : v = bE (UInt8.ofNat (k / 256 ^ (w - j)))) :
    ((List.replicate j (0 : UInt8) ++ (be w k).drop j).map bE).set (j - 1) v = (List.replicate (j - 1) (0 : UInt8) ++ (be w k).drop (j - 1)).map bE := by
  have h1 : (be w k).drop (j - 1) = UInt8.ofNat (k / 256 ^ (w - j)) :: (be w k).drop j := by
    have hb := be_get w k (j - 1) (by omega)
    rw [show w - 1 - (j - 1) = w - j by omega] at hb
    have hlt : j - 1 < (be w k).length := by rw [be_length]; omega
    rw [List.drop_eq_getElem_cons hlt, show j - 1 + 1 = j by omega]
    rw [List.getElem?_eq_getElem hlt] at hb
    injection hb with hb
    rw [hb]
  have h2 : List.replicate j (0 : UInt8) = List.replicate (j - 1) 0 ++ [0] := by
    have := List.replicate_succ' (n := j - 1) (a := (0 : UInt8))
    rw [show j - 1 + 1 = j by omega] at this
    exact this
  rw [h1, h2, hv, List.append_assoc, List.map_append, List.map_append, List.set_append_right _ _ (by simp)]
  simp
theorem rput_byte (k : Nat) : [Value.int .u8 (IntKind.u8.wrap (bRem (k : Int) 256))] = bE (UInt8.ofNat k) := by
  have h : bRem (k : Int) 256 = ((k % 256 : Nat) : Int) := by unfold bRem; rw [Int.tmod_eq_emod_of_nonneg (by omega)]; rfl
  rw [h, u8_wrap _ (by omega), Int.toNat_natCast]
  simp [bE]
theorem rput_quo (k : Nat) (h : k ≤ 9223372036854775807) : bQuo .i64 (k : Int) 256 = ((k / 256 : Nat) : Int) := by
  unfold bQuo
  rw [Int.tdiv_eq_ediv_of_nonneg (by omega), IntKind.wrap_i64]
  omega
theorem rput_t (w k : Nat) (h4 : w ≤ 4) (hk : k ≤ 9223372036854775807) :
    Tri Tryz.prog 68 [.int .i64 k, .int .i64 w] [] [] (fun _ : OA => True) (fun x => .slice x.1 w x.2) (fun x => [own idE 5 1 x.1 w x.2 ((be w k).map bE)]) := by
  refine Tri_of (N := Tryz.f68.ntmps) (c := bodyOf Tryz.f68) Tryz.func68 rfl rfl rfl rfl (fun w0 S0 => ?_)
  repeat' (first | refine SW ?_ | refine SD ?_ | exact HO_seg rfl rfl | refine S1 ?_ | (refine S2 ?_; intro _) | (refine S3 ?_; intro _ _) | (refine S4 ?_; intro _ _ _) | (refine HO_g 2 rfl ?_; (first | apply HO_and rfl rfl rfl rfl rfl rfl rfl rfl rfl | apply HO_or rfl rfl rfl rfl rfl rfl rfl rfl rfl)) | refine S5 ?_ | (intro hb; try replace hb := simB hb; try exact kill hb))
  rename_i b
  refine HC_loop (α := Nat) (fun j => j ≤ w) (fun j => [(6, .int .i64 ((j : Int) - 1)), (5, .slice (some ⟨b, 0, none⟩) w w), (0, .int .i64 ((k / 256 ^ (w - j) : Nat) : Int))])
    (fun j => [own idE 5 1 (some ⟨b, 0, none⟩) w w ((List.replicate j 0 ++ (be w k).drop j).map bE)]) (fun j => j) rfl w (Nat.le_refl _) ⟨rfl, rfl, by simp [Env.get], trivial⟩ (by simp only [List.drop_of_length_le (show (be w k).length ≤ w by rw [be_length]; exact Nat.le_refl _)]; simp [bE]) ?_
  intro j hj
  rcases Nat.eq_zero_or_pos j with h0 | h0
  · subst h0
    repeat' (first | refine SW ?_ | refine SD ?_ | exact HO_seg rfl rfl | refine S1 ?_ | (refine S2 ?_; intro _) | (refine S3 ?_; intro _ _) | (refine S4 ?_; intro _ _ _) | (refine HO_g 2 rfl ?_; (first | apply HO_and rfl rfl rfl rfl rfl rfl rfl rfl rfl | apply HO_or rfl rfl rfl rfl rfl rfl rfl rfl rfl)) | refine S5 ?_ | (intro hb; try replace hb := simB hb; try exact kill hb))
    ((first | apply HX_ret | apply HX_retn); (repeat (first | exact Res_nil | apply Res_tmp rfl | apply Res_ce rfl rfl rfl)); unfold RetQ; refine ⟨(some ⟨b, 0, none⟩, w), trivial, rfl, Keeps.own_cons Keeps.nil rfl (by simp)⟩)
  · have hrow := rput_row w k j hj
    have hat := rput_at w k j h0
    have hq : ((j : Int) - 1).toNat = j - 1 := by omega
    rw [← hq] at hat
    have hk' : k / 256 ^ (w - j) ≤ 9223372036854775807 := Nat.le_trans (Nat.div_le_self _ _) hk
    have e6 : ((j : Int) - 1 - 1) = ((j - 1 : Nat) : Int) - 1 := by omega
    have e0 : k / 256 ^ (w - j) / 256 = k / 256 ^ (w - (j - 1)) := by
      rw [Nat.div_div_eq_div_mul, ← Nat.pow_succ]
      congr 2
      omega
    repeat' (first | refine SW ?_ | refine SD ?_ | exact HO_seg rfl rfl | refine S1 ?_ | (refine S2 ?_; intro _) | (refine S3 ?_; intro _ _) | (refine S4 ?_; intro _ _ _) | (refine HO_g 2 rfl ?_; (first | apply HO_and rfl rfl rfl rfl rfl rfl rfl rfl rfl | apply HO_or rfl rfl rfl rfl rfl rfl rfl rfl rfl)) | refine S5 ?_ | (intro hb; try replace hb := simB hb; try exact kill hb))
    rw [e6, rput_quo _ hk', e0, hq]
    refine HX_keeps (rw' := [own idE 5 1 (some ⟨b, 0, none⟩) w w ((List.replicate (j - 1) 0 ++ (be w k).drop (j - 1)).map bE)]) (Keeps.own_cons Keeps.nil rfl (by exact rput_step w k j h0 hj _ (rput_byte _))) ?_
    exact HX_at (j - 1) ⟨by omega, by omega⟩ ⟨rfl, rfl, rfl, trivial⟩ rfl

theorem rget_t (A : Option Addr) (n c : Nat) (l : List UInt8) (hn : n = l.length) (h4 : l.length ≤ 4) :
    Tri Tryz.prog 71 [.slice A n c] [arr bE 1 A l] [] (fun _ : Unit => True) (fun _ => .int .i64 (ge l)) (fun _ => []) := by
  refine Tri_of (N := Tryz.f71.ntmps) (c := bodyOf Tryz.f71) Tryz.func71 rfl rfl rfl rfl (fun w0 S0 => ?_)
  repeat' (first | refine SW ?_ | refine SD ?_ | exact HO_seg rfl rfl | refine S1 ?_ | (refine S2 ?_; intro _) | (refine S3 ?_; intro _ _) | (refine S4 ?_; intro _ _ _) | (refine HO_g 2 rfl ?_; (first | apply HO_and rfl rfl rfl rfl rfl rfl rfl rfl rfl | apply HO_or rfl rfl rfl rfl rfl rfl rfl rfl rfl)) | refine S5 ?_ | (intro hb; try replace hb := simB hb; try exact kill hb))
  refine HC_loop (α := Nat) (fun j => j ≤ l.length) (fun j => [(4, .int .i64 j), (3, .int .i64 (ge (l.take j))), (0, .slice A n c)]) (fun _ => []) (fun j => l.length - j) rfl 0 (Nat.zero_le _) ⟨rfl, rfl, rfl, trivial⟩ rfl ?_
  intro j hj
  rcases Nat.lt_or_ge j l.length with hlt | hge
  · obtain ⟨b, hb0⟩ : ∃ b, l[j]? = some b := ⟨l[j], List.getElem?_eq_getElem hlt⟩
    have e1 : l.take (j + 1) = l.take j ++ [b] := by rw [List.take_add_one, hb0]; rfl
    have hg := ge_lt (l.take j)
    have hg3 : ge (l.take j) < 256 ^ 3 := Nat.lt_of_lt_of_le hg (Nat.pow_le_pow_right (by decide) (by simp; omega))
    have hb := b.toNat_lt
    have e2 : (256 * (ge (l.take j) : Int) + (b.toNat : Int)) = ((ge (l.take (j + 1)) : Nat) : Int) := by rw [e1, ge_snoc]; omega
    clear hg
    repeat' (first | refine SW ?_ | refine SD ?_ | exact HO_seg rfl rfl | refine S1 ?_ | (refine S2 ?_; intro _) | (refine S3 ?_; intro _ _) | (refine S4 ?_; intro _ _ _) | (refine HO_g 2 rfl ?_; (first | apply HO_and rfl rfl rfl rfl rfl rfl rfl rfl rfl | apply HO_or rfl rfl rfl rfl rfl rfl rfl rfl rfl)) | refine S5 ?_ | (intro hb; try replace hb := simB hb; try exact kill hb))
    rw [e2]
    exact HX_at (j + 1) ⟨hlt, by omega⟩ ⟨rfl, rfl, rfl, trivial⟩ rfl
  · obtain rfl : j = l.length := by omega
    repeat' (first | refine SW ?_ | refine SD ?_ | exact HO_seg rfl rfl | refine S1 ?_ | (refine S2 ?_; intro _) | (refine S3 ?_; intro _ _) | (refine S4 ?_; intro _ _ _) | (refine HO_g 2 rfl ?_; (first | apply HO_and rfl rfl rfl rfl rfl rfl rfl rfl rfl | apply HO_or rfl rfl rfl rfl rfl rfl rfl rfl rfl)) | refine S5 ?_ | (intro hb; try replace hb := simB hb; try exact kill hb))
    ((first | apply HX_ret | apply HX_retn); (repeat (first | exact Res_nil | apply Res_tmp rfl | apply Res_ce rfl rfl rfl)); unfold RetQ; refine ⟨(), trivial, ?_, Keeps.nil⟩)
    rw [List.take_length]
    rfl

@[reducible] def TQ : Nat := 93
@[reducible] def rqP (b : Nat) (A : Option Addr) (c : Nat) (bad : Bool) (l : List UInt8) : List SL := [cel b TQ [.slice A l.length c, .bool bad], arr bE 1 A l]
theorem rbytes_t (b : Nat) (A : Option Addr) (c : Nat) (bad : Bool) (l : List UInt8) (n : Int) (hb : l.length ≤ 1000000000) (hc : l.length ≤ c) :
    Tri Tryz.prog 45 [pt b, .int .i64 n] [] (rqP b A c bad l) (fun x : OA × OA => (rdB bad l n).1.length ≤ x.1.2 ∧ (rdB bad l n).2.2.length ≤ x.2.2) (fun x => .slice x.1.1 (rdB bad l n).1.length x.1.2)
      (fun x => ownB x.1 (rdB bad l n).1 :: rqP b x.2.1 x.2.2 (rdB bad l n).2.1 (rdB bad l n).2.2) := by
  by_cases h : bad = true ∨ n < 0 ∨ l.length < n
  · rw [show rdB bad l n = ([], true, l) from if_pos h]
    rcases h with rfl | h | h
    all_goals
      refine Tri_of (N := Tryz.f45.ntmps) (c := bodyOf Tryz.f45) Tryz.func45 rfl rfl rfl rfl (fun w0 S0 => ?_)
      dsimp only [rqP, pt]
      repeat' (first | refine SW ?_ | refine SD ?_ | exact HO_seg rfl rfl | refine S1 ?_ | (refine S2 ?_; intro _) | (refine S3 ?_; intro _ _) | (refine S4 ?_; intro _ _ _) | (refine HO_g 2 rfl ?_; (first | apply HO_and rfl rfl rfl rfl rfl rfl rfl rfl rfl | apply HO_or rfl rfl rfl rfl rfl rfl rfl rfl rfl)) | refine S5 ?_ | (intro hb; try replace hb := simB hb; try exact kill hb) | refine HC_cond rfl rfl ?_ ?_)
    all_goals try exact false
    all_goals ((first | apply HX_ret | apply HX_retn); (repeat (first | exact Res_nil | apply Res_tmp rfl | apply Res_ce rfl rfl rfl)); unfold RetQ; refine ⟨((none, 0), (A, c)), ⟨Nat.le_refl _, hc⟩, rfl, Keeps.add (fun w => own_nil w) Keeps.refl⟩)
  · rw [show rdB bad l n = (l.take n.toNat, bad, l.drop n.toNat) from if_neg h]
    have hbad : bad = false := by cases bad <;> simp_all
    subst hbad
    have hn : 0 ≤ n ∧ n ≤ l.length := by simp at h; omega
    refine Tri_of (N := Tryz.f45.ntmps) (c := bodyOf Tryz.f45) Tryz.func45 rfl rfl rfl rfl (fun w0 S0 => ?_)
    dsimp only [rqP, pt]
    repeat' (first | refine SW ?_ | refine SD ?_ | exact HO_seg rfl rfl | refine S1 ?_ | (refine S2 ?_; intro _) | (refine S3 ?_; intro _ _) | (refine S4 ?_; intro _ _ _) | (refine HO_g 2 rfl ?_; (first | apply HO_and rfl rfl rfl rfl rfl rfl rfl rfl rfl | apply HO_or rfl rfl rfl rfl rfl rfl rfl rfl rfl)) | refine S5 ?_ | (intro hb; try replace hb := simB hb; try exact kill hb))
    have hn0 : 0 + n.toNat = (l.take n.toNat).length := by simp; omega
    refine HO_k 11 rfl ?_
    refine HO_app (k := 0) (k2 := 2) (l2 := (l.take n.toNat).map bE) rfl rfl rfl rfl rfl rfl rfl rfl ⟨_, rfl, fun _ S w h => arr_raw S w (arr_take _ S w h)⟩ (by simp; omega) WfL.map rfl rfl (by simp; omega) (by simp; omega) rfl rfl rfl soA ?_
    intro A' c'
    rw [hn0]
    repeat' (first | refine SW ?_ | refine SD ?_ | exact HO_seg rfl rfl | refine S1 ?_ | (refine S2 ?_; intro _) | (refine S3 ?_; intro _ _) | (refine S4 ?_; intro _ _ _) | (refine HO_g 2 rfl ?_; (first | apply HO_and rfl rfl rfl rfl rfl rfl rfl rfl rfl | apply HO_or rfl rfl rfl rfl rfl rfl rfl rfl rfl)) | refine S5 ?_ | (intro hb; try replace hb := simB hb; try exact kill hb))
    refine HX_know (C := (l.take n.toNat).length ≤ c') (fun w h => own_cap 0 rfl h) (fun hc' => ?_)
    have e : (l.drop n.toNat).length = l.length - n.toNat := by simp
    ((first | apply HX_ret | apply HX_retn); (repeat (first | exact Res_nil | apply Res_tmp rfl | apply Res_ce rfl rfl rfl)); unfold RetQ; refine ⟨((A', c'), (cutA A 1 c n.toNat, c - n.toNat)), ⟨hc', by rw [e]; simp only; omega⟩, rfl, Keeps.cons Ent.rfl_ (Keeps.cons (by rw [e]; exact Ent.rfl_) (Keeps.cons (arr_drop _ _ (fun h => by omega)) Keeps.nil))⟩)
theorem rnum_t (b : Nat) (A : Option Addr) (c : Nat) (bad : Bool) (l : List UInt8) (w : Int) (hw : 1 ≤ w ∧ w ≤ 4) (hb : l.length ≤ 1000000000) (hc : l.length ≤ c) :
    Tri Tryz.prog 44 [pt b, .int .i64 w] [] (rqP b A c bad l) (fun x : OA => (rdB bad l w).2.2.length ≤ x.2) (fun _ => .int .i64 (ge (rdB bad l w).1))
      (fun x => rqP b x.1 x.2 (rdB bad l w).2.1 (rdB bad l w).2.2) := by
  have hby := rbytes_t b A c bad l w hb hc
  have h4 : (rdB bad l w).1.length ≤ 4 := by unfold rdB; split <;> simp; omega
  obtain ⟨out, bad', l', hr⟩ : ∃ out bad' l', rdB bad l w = (out, bad', l') := ⟨_, _, _, rfl⟩
  rw [hr] at hby h4 ⊢
  refine Tri_of (N := Tryz.f44.ntmps) (c := bodyOf Tryz.f44) Tryz.func44 rfl rfl rfl rfl (fun w0 S0 => ?_)
  dsimp only [rqP, pt]
  repeat' (first | refine SW ?_ | refine SD ?_ | (refine HO_k 12 rfl ?_; refine HO_callq rfl rfl rfl rfl (rget_t _ _ _ out rfl h4) (fun _ _ => rfl) (AllSrc.via 0 rfl own_byte trivial) rfl rfl sqA ?_) | (refine HO_k 12 rfl ?_; refine HO_call rfl rfl rfl rfl (hby) rfl (trivial) rfl rfl soA ?_; intro ⟨⟨xA, xc⟩, ⟨yA, yc⟩⟩ hx; dsimp only [List.cons_append, List.nil_append]) | exact HO_seg rfl rfl | refine S1 ?_ | (refine S2 ?_; intro _) | (refine S3 ?_; intro _ _) | (refine S4 ?_; intro _ _ _) | (refine HO_g 2 rfl ?_; (first | apply HO_and rfl rfl rfl rfl rfl rfl rfl rfl rfl | apply HO_or rfl rfl rfl rfl rfl rfl rfl rfl rfl)) | refine S5 ?_ | (intro hb; try replace hb := simB hb; try exact kill hb))
  ((first | apply HX_ret | apply HX_retn); (repeat (first | exact Res_nil | apply Res_tmp rfl | apply Res_ce rfl rfl rfl)); unfold RetQ; refine ⟨(yA, yc), hx.2, rfl, Keeps.skip Keeps.refl⟩)
theorem rleft_t (b : Nat) (A : Option Addr) (n c : Nat) (bad : Bool) :
    Tri Tryz.prog 43 [pt b] [cel b TQ [.slice A n c, .bool bad]] [] (fun _ : Unit => True) (fun _ => .int .i64 (if bad = true then 0 else n)) (fun _ => []) := by
  cases bad
  all_goals
    refine Tri_of (N := Tryz.f43.ntmps) (c := bodyOf Tryz.f43) Tryz.func43 rfl rfl rfl rfl (fun w0 S0 => ?_)
    dsimp only [pt]
    repeat' (first | refine SW ?_ | refine SD ?_ | exact HO_seg rfl rfl | refine S1 ?_ | (refine S2 ?_; intro _) | (refine S3 ?_; intro _ _) | (refine S4 ?_; intro _ _ _) | (refine HO_g 2 rfl ?_; (first | apply HO_and rfl rfl rfl rfl rfl rfl rfl rfl rfl | apply HO_or rfl rfl rfl rfl rfl rfl rfl rfl rfl)) | refine S5 ?_ | (intro hb; try replace hb := simB hb; try exact kill hb))
    ((first | apply HX_ret | apply HX_retn); (repeat (first | exact Res_nil | apply Res_tmp rfl | apply Res_ce rfl rfl rfl)); unfold RetQ; refine ⟨(), trivial, ?_, Keeps.nil⟩)
    rfl
end Go.Proofs.YtdeeokkkcfkbjaaGreat
