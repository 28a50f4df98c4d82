/- Settings as they lie in memory; which numbers may be. -/
import Derived.Test.YtbhiojedmkcfoaaGreatDoorCfM
import Derived.Test.YtbhiojedmkcfoaaGreatDoorAd0
namespace Go.Proofs.YtbhiojedmkcfoaaGreatDoor
set_option linter.unusedVariables false
set_option linter.unusedSimpArgs false
open Go.RowKit
attribute [local irreducible] HC HX HO Tri eP adr

/-- settings in memory -/
structure CfS where
  q : CfQ
  iA : Option Addr
  ic : Nat
  dA : Option Addr
  dc : Nat
def CfS.e (c : CfS) : List Value := [.int .i64 (num c.q 0), .int .u32 c.q.id, .int .i64 (num c.q 2), .int .i64 (num c.q 3), .int .i64 (num c.q 4), .int .i64 (num c.q 5), .int .i64 (num c.q 6), .slice c.iA c.q.ifs.length c.ic, .int .i64 (num c.q 7), .int .i64 (num c.q 8), .int .i64 (num c.q 9), .int .i64 (num c.q 10), .int .i64 (num c.q 11), .int .i64 (num c.q 12), .int .i64 (num c.q 13), .int .i64 (num c.q 14), .int .i64 (num c.q 15), .slice c.dA c.q.deny.length c.dc, .int .i64 (num c.q 16), .int .i64 (num c.q 17)]
theorem within_e (n least most : Int) : (decide (least ≤ n) && decide (n ≤ most)) = within n least most := rfl
theorem cwithin_t (n a b : Int) : Tri Tryz.prog 68 [.int .i64 n, .int .i64 a, .int .i64 b] [] [] (fun _ : Unit => True) (fun _ => .bool (within n a b)) (fun _ => []) := by
  refine Tri_of (N := Tryz.f68.ntmps) (c := bodyOf Tryz.f68) Tryz.func68 rfl rfl rfl rfl (fun w0 S0 => ?_)
  repeat' (first | refine SW ?_ | exact HO_seg rfl rfl | refine S1 ?_ | (refine S2 ?_; intro _) | (refine S3 ?_; intro _ _) | (refine S4 ?_; intro _ _ _) | (refine HO_g 2 rfl ?_; (first | apply HO_and rfl rfl rfl rfl rfl rfl rfl rfl rfl | apply HO_or rfl rfl rfl rfl rfl rfl rfl rfl rfl)) | refine S5 ?_ | (intro hb; try replace hb := simB hb; try exact kill hb))
  ((first | apply HX_ret | apply HX_retn); (repeat (first | exact Res_nil | apply Res_tmp rfl | apply Res_ce rfl rfl rfl)); unfold RetQ; refine ⟨(), trivial, ?_, Keeps.nil⟩)
  rfl
theorem hwithin_t (n a b : Int) : Tri Tryz.prog 197 [.int .i64 n, .int .i64 a, .int .i64 b] [] [] (fun _ : Unit => True) (fun _ => .bool (within n a b)) (fun _ => []) := by
  refine Tri_of (N := Tryz.f197.ntmps) (c := bodyOf Tryz.f197) Tryz.func197 rfl rfl rfl rfl (fun w0 S0 => ?_)
  repeat' (first | refine SW ?_ | exact HO_seg rfl rfl | refine S1 ?_ | (refine S2 ?_; intro _) | (refine S3 ?_; intro _ _) | (refine S4 ?_; intro _ _ _) | (refine HO_g 2 rfl ?_; (first | apply HO_and rfl rfl rfl rfl rfl rfl rfl rfl rfl | apply HO_or rfl rfl rfl rfl rfl rfl rfl rfl rfl)) | refine S5 ?_ | (intro hb; try replace hb := simB hb; try exact kill hb))
  ((first | apply HX_ret | apply HX_retn); (repeat (first | exact Res_nil | apply Res_tmp rfl | apply Res_ce rfl rfl rfl)); unfold RetQ; refine ⟨(), trivial, ?_, Keeps.nil⟩)
  rfl
theorem rwithin19_t (n a b : Int) : Tri Tryz.prog 64 [.int .i64 n, .int .i64 a, .int .i64 b] [] [] (fun _ : Unit => True) (fun _ => .bool (within n a b)) (fun _ => []) := by
  refine Tri_of (N := Tryz.f64.ntmps) (c := bodyOf Tryz.f64) Tryz.func64 rfl rfl rfl rfl (fun w0 S0 => ?_)
  repeat' (first | refine SW ?_ | exact HO_seg rfl rfl | refine S1 ?_ | (refine S2 ?_; intro _) | (refine S3 ?_; intro _ _) | (refine S4 ?_; intro _ _ _) | (refine HO_g 2 rfl ?_; (first | apply HO_and rfl rfl rfl rfl rfl rfl rfl rfl rfl | apply HO_or rfl rfl rfl rfl rfl rfl rfl rfl rfl)) | refine S5 ?_ | (intro hb; try replace hb := simB hb; try exact kill hb))
  ((first | apply HX_ret | apply HX_retn); (repeat (first | exact Res_nil | apply Res_tmp rfl | apply Res_ce rfl rfl rfl)); unfold RetQ; refine ⟨(), trivial, ?_, Keeps.nil⟩)
  rfl
theorem owithin_t (n a b : Int) : Tri Tryz.prog 142 [.int .i64 n, .int .i64 a, .int .i64 b] [] [] (fun _ : Unit => True) (fun _ => .bool (within n a b)) (fun _ => []) := by
  refine Tri_of (N := Tryz.f142.ntmps) (c := bodyOf Tryz.f142) Tryz.func142 rfl rfl rfl rfl (fun w0 S0 => ?_)
  repeat' (first | refine SW ?_ | exact HO_seg rfl rfl | refine S1 ?_ | (refine S2 ?_; intro _) | (refine S3 ?_; intro _ _) | (refine S4 ?_; intro _ _ _) | (refine HO_g 2 rfl ?_; (first | apply HO_and rfl rfl rfl rfl rfl rfl rfl rfl rfl | apply HO_or rfl rfl rfl rfl rfl rfl rfl rfl rfl)) | refine S5 ?_ | (intro hb; try replace hb := simB hb; try exact kill hb))
  ((first | apply HX_ret | apply HX_retn); (repeat (first | exact Res_nil | apply Res_tmp rfl | apply Res_ce rfl rfl rfl)); unfold RetQ; refine ⟨(), trivial, ?_, Keeps.nil⟩)
  rfl
/-- what we say, as it lies in memory -/
def locE (sa hold : Int) (id : Nat) (retry : Int) : List Value := [.int .i64 sa, .int .i64 hold, .int .u32 id, .bool true, .int .i64 1, .int .i64 retry]
def opnE (sa hold : Int) (id : Nat) : List Value := [.int .i64 sa, .int .i64 hold, .int .u32 id, .bool true, .int .i64 1]
def opnOk (sa hold : Int) (id : Nat) : Bool := within sa 1 4294967295 && (decide (hold = 0) || within hold 3 65535) && decide (id ≠ 0)
set_option maxHeartbeats 4000000 in
theorem clocal_t (c : CfS) : Tri Tryz.prog 17 [.agg c.e.toArray] [] [] (fun _ : Unit => True) (fun _ => .agg (locE (num c.q 0) (num c.q 2) c.q.id (num c.q 3)).toArray) (fun _ => []) := by
  refine Tri_of (N := Tryz.f17.ntmps) (c := bodyOf Tryz.f17) Tryz.func17 rfl rfl rfl rfl (fun w0 S0 => ?_)
  dsimp only [CfS.e]
  repeat' (first | refine SW ?_ | exact HO_seg rfl rfl | refine S1 ?_ | (refine S2 ?_; intro _) | (refine S3 ?_; intro _ _) | (refine S4 ?_; intro _ _ _) | (refine HO_g 2 rfl ?_; (first | apply HO_and rfl rfl rfl rfl rfl rfl rfl rfl rfl | apply HO_or rfl rfl rfl rfl rfl rfl rfl rfl rfl)) | refine S5 ?_ | (intro hb; try replace hb := simB hb; try exact kill hb))
  ((first | apply HX_ret | apply HX_retn); (repeat (first | exact Res_nil | apply Res_tmp rfl | apply Res_ce rfl rfl rfl)); unfold RetQ; refine ⟨(), trivial, ?_, Keeps.nil⟩)
  rfl
set_option maxHeartbeats 4000000 in
theorem rlocal_t (c : CfS) : Tri Tryz.prog 18 [.agg c.e.toArray] [] [] (fun _ : Unit => True) (fun _ => .agg (locE (num c.q 0) (num c.q 2) c.q.id (num c.q 3)).toArray) (fun _ => []) := by
  refine Tri_of (N := Tryz.f18.ntmps) (c := bodyOf Tryz.f18) Tryz.func18 rfl rfl rfl rfl (fun w0 S0 => ?_)
  dsimp only [CfS.e]
  repeat' (first | refine SW ?_ | exact HO_seg rfl rfl | refine S1 ?_ | (refine S2 ?_; intro _) | (refine S3 ?_; intro _ _) | (refine S4 ?_; intro _ _ _) | (refine HO_g 2 rfl ?_; (first | apply HO_and rfl rfl rfl rfl rfl rfl rfl rfl rfl | apply HO_or rfl rfl rfl rfl rfl rfl rfl rfl rfl)) | refine S5 ?_ | (intro hb; try replace hb := simB hb; try exact kill hb))
  ((first | apply HX_ret | apply HX_retn); (repeat (first | exact Res_nil | apply Res_tmp rfl | apply Res_ce rfl rfl rfl)); unfold RetQ; refine ⟨(), trivial, ?_, Keeps.nil⟩)
  rfl
theorem id_ne (id : Nat) : decide (((id : Nat) : Int) = 0) = !decide (id ≠ 0) := by
  by_cases h : id = 0
  · subst h; rfl
  · rw [decide_eq_false (by omega), decide_eq_true h]; rfl
theorem opn_e (sa hold : Int) (id : Nat) : (!within sa 1 4294967295 || !(decide (hold = 0) || within hold 3 65535) || decide (((id : Nat) : Int) = 0) || !within 1 0 3) = !opnOk sa hold id := by
  rw [id_ne]
  unfold opnOk
  have h : within 1 0 3 = true := by decide
  rw [h]
  cases within sa 1 4294967295 <;> cases (decide (hold = 0) || within hold 3 65535) <;> cases decide (id ≠ 0) <;> rfl
set_option maxHeartbeats 8000000 in
theorem ocheck_t (sa hold : Int) (id : Nat) : Tri Tryz.prog 80 [.agg (opnE sa hold id).toArray] [] [] (fun _ : Unit => True) (fun _ => .int .i64 (if opnOk sa hold id = true then 0 else 40)) (fun _ => []) := by
  have hin := owithin_t
  have he := opn_e sa hold id
  refine Tri_of (N := Tryz.f80.ntmps) (c := bodyOf Tryz.f80) Tryz.func80 rfl rfl rfl rfl (fun w0 S0 => ?_)
  dsimp only [opnE]
  repeat' (first | refine SW ?_ | refine SD ?_ | (refine HO_k 12 rfl ?_; refine HO_callq rfl rfl rfl rfl (hin _ _ _) (fun _ _ => rfl) (trivial) rfl rfl sqA ?_) | exact HO_seg rfl rfl | refine S1 ?_ | (refine S2 ?_; intro _) | (refine S3 ?_; intro _ _) | (refine S4 ?_; intro _ _ _) | (refine HO_g 2 rfl ?_; (first | apply HO_and rfl rfl rfl rfl rfl rfl rfl rfl rfl | apply HO_or rfl rfl rfl rfl rfl rfl rfl rfl rfl)) | refine S5 ?_ | (intro hb; try replace hb := simB hb; try exact kill hb))
  refine HC_cond rfl rfl (fun hb => ?_) (fun hb => ?_)
  · rw [he] at hb
    have hx : opnOk sa hold id = false := by simpa using hb
    rw [hx]
    repeat' (first | refine SW ?_ | exact HO_seg rfl rfl | refine S1 ?_ | (refine S2 ?_; intro _) | (refine S3 ?_; intro _ _) | (refine S4 ?_; intro _ _ _) | (refine HO_g 2 rfl ?_; (first | apply HO_and rfl rfl rfl rfl rfl rfl rfl rfl rfl | apply HO_or rfl rfl rfl rfl rfl rfl rfl rfl rfl)) | refine S5 ?_ | (intro hb; try replace hb := simB hb; try exact kill hb))
    ((first | apply HX_ret | apply HX_retn); (repeat (first | exact Res_nil | apply Res_tmp rfl | apply Res_ce rfl rfl rfl)); unfold RetQ; refine ⟨(), trivial, ?_, Keeps.nil⟩)
    rfl
  · rw [he] at hb
    have hx : opnOk sa hold id = true := by simpa using hb
    rw [hx]
    repeat' (first | refine SW ?_ | exact HO_seg rfl rfl | refine S1 ?_ | (refine S2 ?_; intro _) | (refine S3 ?_; intro _ _) | (refine S4 ?_; intro _ _ _) | (refine HO_g 2 rfl ?_; (first | apply HO_and rfl rfl rfl rfl rfl rfl rfl rfl rfl | apply HO_or rfl rfl rfl rfl rfl rfl rfl rfl rfl)) | refine S5 ?_ | (intro hb; try replace hb := simB hb; try exact kill hb))
    ((first | apply HX_ret | apply HX_retn); (repeat (first | exact Res_nil | apply Res_tmp rfl | apply Res_ce rfl rfl rfl)); unfold RetQ; refine ⟨(), trivial, ?_, Keeps.nil⟩)
    rfl
theorem loc_eq (sa hold : Int) (id : Nat) (retry : Int) : locOk sa hold id retry = (opnOk sa hold id && within retry 1 65535) := rfl
theorem ret_e (retry : Int) : (decide (retry < 1) || decide (65535 < retry)) = !within retry 1 65535 := by
  unfold within
  by_cases h1 : retry < 1 <;> by_cases h2 : 65535 < retry <;> simp [h1, h2] <;> omega
set_option maxHeartbeats 8000000 in
theorem fcheck_t (sa hold : Int) (id : Nat) (retry : Int) : Tri Tryz.prog 23 [.agg (locE sa hold id retry).toArray] [] [] (fun _ : Unit => True) (fun _ => .int .i64 (if opnOk sa hold id = true then (if within retry 1 65535 = true then 0 else 1) else 40)) (fun _ => []) := by
  have ho := ocheck_t sa hold id
  have hr := ret_e retry
  dsimp only [opnE] at ho
  cases hx : opnOk sa hold id
  · rw [hx] at ho
    refine Tri_of (N := Tryz.f23.ntmps) (c := bodyOf Tryz.f23) Tryz.func23 rfl rfl rfl rfl (fun w0 S0 => ?_)
    dsimp only [locE]
    repeat' (first | refine SW ?_ | refine SD ?_ | (refine HO_k 12 rfl ?_; refine HO_callq rfl rfl rfl rfl (ho) (fun _ _ => rfl) (trivial) rfl rfl sqA ?_) | exact HO_seg rfl rfl | refine S1 ?_ | (refine S2 ?_; intro _) | (refine S3 ?_; intro _ _) | (refine S4 ?_; intro _ _ _) | (refine HO_g 2 rfl ?_; (first | apply HO_and rfl rfl rfl rfl rfl rfl rfl rfl rfl | apply HO_or rfl rfl rfl rfl rfl rfl rfl rfl rfl)) | refine S5 ?_ | (intro hb; try replace hb := simB hb; try exact kill hb))
    ((first | apply HX_ret | apply HX_retn); (repeat (first | exact Res_nil | apply Res_tmp rfl | apply Res_ce rfl rfl rfl)); unfold RetQ; refine ⟨(), trivial, ?_, Keeps.nil⟩)
    rfl
  · rw [hx] at ho
    refine Tri_of (N := Tryz.f23.ntmps) (c := bodyOf Tryz.f23) Tryz.func23 rfl rfl rfl rfl (fun w0 S0 => ?_)
    dsimp only [locE]
    repeat' (first | refine SW ?_ | refine SD ?_ | (refine HO_k 12 rfl ?_; refine HO_callq rfl rfl rfl rfl (ho) (fun _ _ => rfl) (trivial) rfl rfl sqA ?_) | exact HO_seg rfl rfl | refine S1 ?_ | (refine S2 ?_; intro _) | (refine S3 ?_; intro _ _) | (refine S4 ?_; intro _ _ _) | (refine HO_g 2 rfl ?_; (first | apply HO_and rfl rfl rfl rfl rfl rfl rfl rfl rfl | apply HO_or rfl rfl rfl rfl rfl rfl rfl rfl rfl)) | refine S5 ?_ | (intro hb; try replace hb := simB hb; try exact kill hb))
    refine HC_cond rfl rfl (fun hb => ?_) (fun hb => ?_)
    · rw [hr] at hb
      have hy : within retry 1 65535 = false := by simpa using hb
      rw [hy]
      repeat' (first | refine SW ?_ | exact HO_seg rfl rfl | refine S1 ?_ | (refine S2 ?_; intro _) | (refine S3 ?_; intro _ _) | (refine S4 ?_; intro _ _ _) | (refine HO_g 2 rfl ?_; (first | apply HO_and rfl rfl rfl rfl rfl rfl rfl rfl rfl | apply HO_or rfl rfl rfl rfl rfl rfl rfl rfl rfl)) | refine S5 ?_ | (intro hb; try replace hb := simB hb; try exact kill hb))
      ((first | apply HX_ret | apply HX_retn); (repeat (first | exact Res_nil | apply Res_tmp rfl | apply Res_ce rfl rfl rfl)); unfold RetQ; refine ⟨(), trivial, ?_, Keeps.nil⟩)
      rfl
    · rw [hr] at hb
      have hy : within retry 1 65535 = true := by simpa using hb
      rw [hy]
      repeat' (first | refine SW ?_ | exact HO_seg rfl rfl | refine S1 ?_ | (refine S2 ?_; intro _) | (refine S3 ?_; intro _ _) | (refine S4 ?_; intro _ _ _) | (refine HO_g 2 rfl ?_; (first | apply HO_and rfl rfl rfl rfl rfl rfl rfl rfl rfl | apply HO_or rfl rfl rfl rfl rfl rfl rfl rfl rfl)) | refine S5 ?_ | (intro hb; try replace hb := simB hb; try exact kill hb))
      ((first | apply HX_ret | apply HX_retn); (repeat (first | exact Res_nil | apply Res_tmp rfl | apply Res_ce rfl rfl rfl)); unfold RetQ; refine ⟨(), trivial, ?_, Keeps.nil⟩)
      rfl
set_option maxHeartbeats 8000000 in
theorem r04check_t (sa hold : Int) (id : Nat) : Tri Tryz.prog 137 [.agg (opnE sa hold id).toArray] [] [] (fun _ : Unit => True) (fun _ => .bool (opnOk sa hold id)) (fun _ => []) := by
  refine Tri_of (N := Tryz.f137.ntmps) (c := bodyOf Tryz.f137) Tryz.func137 rfl rfl rfl rfl (fun w0 S0 => ?_)
  dsimp only [opnE]
  repeat' (first | refine SW ?_ | refine SD ?_ | exact HO_seg rfl rfl | refine S1 ?_ | (refine S2 ?_; intro _) | (refine S3 ?_; intro _ _) | (refine S4 ?_; intro _ _ _) | (refine HO_g 2 rfl ?_; (first | apply HO_and rfl rfl rfl rfl rfl rfl rfl rfl rfl | apply HO_or rfl rfl rfl rfl rfl rfl rfl rfl rfl)) | refine S5 ?_ | (intro hb; try replace hb := simB hb; try exact kill hb))
  ((first | apply HX_ret | apply HX_retn); (repeat (first | exact Res_nil | apply Res_tmp rfl | apply Res_ce rfl rfl rfl)); unfold RetQ; refine ⟨(), trivial, ?_, Keeps.nil⟩)
  refine congrArg Value.bool ?_
  unfold opnOk within
  by_cases h1 : 1 ≤ sa <;> by_cases h2 : sa ≤ 4294967295 <;> by_cases h3 : (id : Int) = 0 <;> by_cases h4 : hold = 0 <;> by_cases h5 : 3 ≤ hold <;> by_cases h6 : hold ≤ 65535 <;> simp [h1, h2, h3, h4, h5, h6] <;> omega
set_option maxHeartbeats 8000000 in
theorem r11check_t (sa hold : Int) (id : Nat) (retry : Int) : Tri Tryz.prog 63 [.agg (locE sa hold id retry).toArray] [] [] (fun _ : Unit => True) (fun _ => .bool (locOk sa hold id retry)) (fun _ => []) := by
  have ho := r04check_t sa hold id
  dsimp only [opnE] at ho
  rw [loc_eq]
  refine Tri_of (N := Tryz.f63.ntmps) (c := bodyOf Tryz.f63) Tryz.func63 rfl rfl rfl rfl (fun w0 S0 => ?_)
  dsimp only [locE]
  repeat' (first | refine SW ?_ | refine SD ?_ | (refine HO_k 12 rfl ?_; refine HO_callq rfl rfl rfl rfl (ho) (fun _ _ => rfl) (trivial) rfl rfl sqA ?_) | exact HO_seg rfl rfl | refine S1 ?_ | (refine S2 ?_; intro _) | (refine S3 ?_; intro _ _) | (refine S4 ?_; intro _ _ _) | (refine HO_g 2 rfl ?_; (first | apply HO_and rfl rfl rfl rfl rfl rfl rfl rfl rfl | apply HO_or rfl rfl rfl rfl rfl rfl rfl rfl rfl)) | refine S5 ?_ | (intro hb; try replace hb := simB hb; try exact kill hb))
  ((first | apply HX_ret | apply HX_retn); (repeat (first | exact Res_nil | apply Res_tmp rfl | apply Res_ce rfl rfl rfl)); unfold RetQ; refine ⟨(), trivial, ?_, Keeps.nil⟩)
  unfold within
  rw [← Bool.and_assoc]
  rfl
def timesB (q : CfQ) : Bool := within (num q 10) 1 1048576 && within (num q 11) 1 1048576 && within (num q 12) 1 1048576 && within (num q 13) 1 1048576
theorem all4 (f : Int → Bool) (a b c d : Int) : [a, b, c, d].all f = (f a && f b && f c && f d) := by simp [Bool.and_assoc]
set_option maxHeartbeats 8000000 in
theorem times_t (c : CfS) : Tri Tryz.prog 69 [.agg c.e.toArray] [] [] (fun _ : Unit => True) (fun _ => .bool (timesB c.q)) (fun _ => []) := by
  have hin := cwithin_t
  have e0 : timesB c.q = [num c.q 10, num c.q 11, num c.q 12, num c.q 13].all (fun n => within n 1 1048576) := (all4 (fun n => within n 1 1048576) _ _ _ _).symm
  rw [e0]
  refine Tri_of (N := Tryz.f69.ntmps) (c := bodyOf Tryz.f69) Tryz.func69 rfl rfl rfl rfl (fun w0 S0 => ?_)
  dsimp only [CfS.e]
  repeat' (first | refine SW ?_ | refine SD ?_ | exact HO_seg rfl rfl | refine S1 ?_ | (refine S2 ?_; intro _) | (refine S3 ?_; intro _ _) | (refine S4 ?_; intro _ _ _) | (refine HO_g 2 rfl ?_; (first | apply HO_and rfl rfl rfl rfl rfl rfl rfl rfl rfl | apply HO_or rfl rfl rfl rfl rfl rfl rfl rfl rfl)) | refine S5 ?_ | (intro hb; try replace hb := simB hb; try exact kill hb))
  rename_i b1 b2
  obtain ⟨l, hl⟩ : ∃ l, [num c.q 10, num c.q 11, num c.q 12, num c.q 13] = l := ⟨_, rfl⟩
  have hl4 : l.length = 4 := by rw [← hl]; rfl
  have hraw : [[Value.int IntKind.i64 (num c.q 10)], [Value.int IntKind.i64 (num c.q 11)], [Value.int IntKind.i64 (num c.q 12)], [Value.int IntKind.i64 (num c.q 13)]] = l.map iE := by rw [← hl]; rfl
  rw [hraw, hl]
  refine HC_keeps (rw' := [own idE 3 1 (some ⟨b2, 0, none⟩) 4 4 (l.map iE)]) permA ?_
  refine HC_loop (α := Nat) (fun j => j ≤ 4 ∧ ∀ q y, q < j → l[q]? = some y → within y 1 1048576 = true) (fun j => [(15, .int .i64 j), (14, .int .i64 4), (13, .slice (some ⟨b2, 0, none⟩) 4 4)]) (fun _ => [own idE 3 1 (some ⟨b2, 0, none⟩) 4 4 (l.map iE)]) (fun j => 4 - j) rfl 0 ⟨Nat.zero_le _, fun q y hq => by omega⟩ ⟨rfl, rfl, rfl, trivial⟩ rfl ?_
  rintro j ⟨hj, hno⟩
  rcases Nat.lt_or_ge j 4 with hlt | hge
  · obtain ⟨x, hx⟩ : ∃ x, l[j]? = some x := ⟨l[j], List.getElem?_eq_getElem (by omega)⟩
    cases hw : within x 1 1048576
    · have hi := hin x 1 1048576
      rw [hw] at hi
      have hall : l.all (fun n => within n 1 1048576) = false := by
        rw [List.all_eq_false]
        exact ⟨x, List.mem_of_getElem? hx, by rw [hw]; decide⟩
      rw [hall]
      repeat' (first | refine SW ?_ | refine SD ?_ | (refine HO_k 12 rfl ?_; refine HO_callq rfl rfl rfl rfl (hi) (fun _ _ => rfl) (trivial) rfl rfl sqA ?_) | exact HO_seg rfl rfl | refine S1 ?_ | (refine S2 ?_; intro _) | (refine S3 ?_; intro _ _) | (refine S4 ?_; intro _ _ _) | (refine HO_g 2 rfl ?_; (first | apply HO_and rfl rfl rfl rfl rfl rfl rfl rfl rfl | apply HO_or rfl rfl rfl rfl rfl rfl rfl rfl rfl)) | refine S5 ?_ | (intro hb; try replace hb := simB hb; try exact kill hb))
      ((first | apply HX_ret | apply HX_retn); (repeat (first | exact Res_nil | apply Res_tmp rfl | apply Res_ce rfl rfl rfl)); unfold RetQ; refine ⟨(), trivial, ?_, Keeps.nil⟩)
      rfl
    · have hi := hin x 1 1048576
      rw [hw] at hi
      repeat' (first | refine SW ?_ | refine SD ?_ | (refine HO_k 12 rfl ?_; refine HO_callq rfl rfl rfl rfl (hi) (fun _ _ => rfl) (trivial) rfl rfl sqA ?_) | exact HO_seg rfl rfl | refine S1 ?_ | (refine S2 ?_; intro _) | (refine S3 ?_; intro _ _) | (refine S4 ?_; intro _ _ _) | (refine HO_g 2 rfl ?_; (first | apply HO_and rfl rfl rfl rfl rfl rfl rfl rfl rfl | apply HO_or rfl rfl rfl rfl rfl rfl rfl rfl rfl)) | refine S5 ?_ | (intro hb; try replace hb := simB hb; try exact kill hb))
      exact HX_at (j + 1) ⟨⟨hlt, fun q y hq hy => by
        rcases Nat.lt_or_ge q j with h | h
        · exact hno q y h hy
        · obtain rfl : q = j := by omega
          rw [hx] at hy
          injection hy with hy
          exact hy ▸ hw⟩, by show 4 - (j + 1) < 4 - j; omega⟩ ⟨rfl, rfl, rfl, trivial⟩ rfl
  · obtain rfl : j = 4 := by omega
    have hall : l.all (fun n => within n 1 1048576) = true := by
      rw [List.all_eq_true]
      intro x hx
      obtain ⟨q, hq⟩ := List.getElem?_of_mem hx
      exact hno q x (by have := (List.getElem?_eq_some_iff.1 hq).1; omega) hq
    rw [hall]
    repeat' (first | refine SW ?_ | refine SD ?_ | exact HO_seg rfl rfl | refine S1 ?_ | (refine S2 ?_; intro _) | (refine S3 ?_; intro _ _) | (refine S4 ?_; intro _ _ _) | (refine HO_g 2 rfl ?_; (first | apply HO_and rfl rfl rfl rfl rfl rfl rfl rfl rfl | apply HO_or rfl rfl rfl rfl rfl rfl rfl rfl rfl)) | refine S5 ?_ | (intro hb; try replace hb := simB hb; try exact kill hb))
    ((first | apply HX_ret | apply HX_retn); (repeat (first | exact Res_nil | apply Res_tmp rfl | apply Res_ce rfl rfl rfl)); unfold RetQ; refine ⟨(), trivial, ?_, Keeps.nil⟩)
    rfl
def boundsB (q : CfQ) : Bool := (within (num q 4) 1 16 && within (num q 5) 0 16 && within (num q 6) 0 16) && (within (num q 7) 1 1000 && within (num q 8) 0 (num q 7) && within (num q 9) 1 1024) && (within (num q 16) 0 65536 && within (num q 17) 4096 65536) && within (num q 14) 1 4294967295 && within (num q 15) 0 255
set_option maxHeartbeats 8000000 in
theorem bounds_t (c : CfS) : Tri Tryz.prog 70 [.agg c.e.toArray] [] [] (fun _ : Unit => True) (fun _ => .bool (boundsB c.q)) (fun _ => []) := by
  have hin := cwithin_t
  refine Tri_of (N := Tryz.f70.ntmps) (c := bodyOf Tryz.f70) Tryz.func70 rfl rfl rfl rfl (fun w0 S0 => ?_)
  dsimp only [CfS.e]
  repeat' (first | refine SW ?_ | refine SD ?_ | (refine HO_k 12 rfl ?_; refine HO_callq rfl rfl rfl rfl (hin _ _ _) (fun _ _ => rfl) (trivial) rfl rfl sqA ?_) | exact HO_seg rfl rfl | refine S1 ?_ | (refine S2 ?_; intro _) | (refine S3 ?_; intro _ _) | (refine S4 ?_; intro _ _ _) | (refine HO_g 2 rfl ?_; (first | apply HO_and rfl rfl rfl rfl rfl rfl rfl rfl rfl | apply HO_or rfl rfl rfl rfl rfl rfl rfl rfl rfl)) | refine S5 ?_ | (intro hb; try replace hb := simB hb; try exact kill hb))
  ((first | apply HX_ret | apply HX_retn); (repeat (first | exact Res_nil | apply Res_tmp rfl | apply Res_ce rfl rfl rfl)); unfold RetQ; refine ⟨(), trivial, ?_, Keeps.nil⟩)
  rfl
def IfQ.e (x : IfQ) : List Value := [.int .i64 x.id, .int .i64 x.router, .int .u32 x.a, .int .i64 x.n, .int .i64 x.cap]
instance : EncOk IfQ.e 5 := ⟨fun _ => ⟨rfl, rfl⟩⟩
theorem odd_e (x : IfQ) : (!within x.id 0 4294967295 || !within x.router 0 15 || !okX x.a x.n || !within x.cap 0 9007199254740991) = !ifOk x := by
  unfold ifOk
  cases within x.id 0 4294967295 <;> cases within x.router 0 15 <;> cases okX x.a x.n <;> rfl
theorem chk_ne (b : Bool) : (!decide ((if b = true then (0 : Int) else 20) = 0)) = !b := by cases b <;> rfl
set_option maxHeartbeats 8000000 in
theorem hodd_t (x : IfQ) (ha : x.a < 4294967296) : Tri Tryz.prog 139 [.agg x.e.toArray] [] [] (fun _ : Unit => True) (fun _ => .bool (!ifOk x)) (fun _ => []) := by
  have hin := hwithin_t
  have hc := addrCheck_t x.a ha x.n
  have he := chk_ne (okX x.a x.n)
  dsimp only [pfV] at hc
  refine Tri_of (N := Tryz.f139.ntmps) (c := bodyOf Tryz.f139) Tryz.func139 rfl rfl rfl rfl (fun w0 S0 => ?_)
  dsimp only [IfQ.e]
  repeat' (first | refine SW ?_ | (with_reducible refine HO_rw (congrArg Value.bool he) ?_) | refine SD ?_ | (refine HO_k 12 rfl ?_; refine HO_callq rfl rfl rfl rfl (hin _ _ _) (fun _ _ => rfl) (trivial) rfl rfl sqA ?_) | (refine HO_k 12 rfl ?_; refine HO_callq rfl rfl rfl rfl (hc) (fun _ _ => rfl) (trivial) rfl rfl sqA ?_) | exact HO_seg rfl rfl | refine S1 ?_ | (refine S2 ?_; intro _) | (refine S3 ?_; intro _ _) | (refine S4 ?_; intro _ _ _) | (refine HO_g 2 rfl ?_; (first | apply HO_and rfl rfl rfl rfl rfl rfl rfl rfl rfl | apply HO_or rfl rfl rfl rfl rfl rfl rfl rfl rfl)) | refine S5 ?_ | (intro hb; try replace hb := simB hb; try exact kill hb))
  ((first | apply HX_ret | apply HX_retn); (repeat (first | exact Res_nil | apply Res_tmp rfl | apply Res_ce rfl rfl rfl)); unfold RetQ; refine ⟨(), trivial, ?_, Keeps.nil⟩)
  exact congrArg Value.bool (odd_e x)
end Go.Proofs.YtbhiojedmkcfoaaGreatDoor
