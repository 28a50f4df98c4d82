/- Part of a proof of many texts: what the theorem at its end leans on. -/
import Derived.Test.YtbhiojedmkcfoaaGreatDoorZAdP
import Derived.Test.YtbhiojedmkcfoaaGreatDoorZAd0
namespace Go.Proofs.YtbhiojedmkcfoaaGreatDoor
set_option linter.unusedVariables false
set_option linter.unusedSimpArgs false
open Go.RowKit
attribute [local irreducible] HC HX HO Tri eP adr
structure CfS where
 q : CfQ
 iA : Option Addr
 ic : Nat
 dA : Option Addr
 dc : Nat
def CfS.e (c : CfS) : List Value := [.int .i64 (num c.q 0), .int .u32 c.q.id, .int .i64 (num c.q 2), .int .i64 (num c.q 3), .int .i64 (num c.q 4), .int .i64 (num c.q 5), .int .i64 (num c.q 6), .slice c.iA c.q.ifs.length c.ic, .int .i64 (num c.q 7), .int .i64 (num c.q 8), .int .i64 (num c.q 9), .int .i64 (num c.q 10), .int .i64 (num c.q 11), .int .i64 (num c.q 12), .int .i64 (num c.q 13), .int .i64 (num c.q 14), .int .i64 (num c.q 15), .slice c.dA c.q.deny.length c.dc, .int .i64 (num c.q 16), .int .i64 (num c.q 17)]
theorem cwithin_t (n a b : Int) : Tri Tryz.prog 68 [.int .i64 n, .int .i64 a, .int .i64 b] [] [] (fun _ : Unit => True) (fun _ => .bool (within n a b)) (fun _ => []) := by
 refine Tri_of (N := Tryz.f68.ntmps) (c := bodyOf Tryz.f68) Tryz.func68 rfl rfl rfl rfl (fun w0 S0 => ?_)
 repeat' (first | refine SW ?_ | exact HO_seg rfl rfl | refine S1 ?_ | (refine S2 ?_; intro _) | (refine S3 ?_; intro _ _) | (refine S4 ?_; intro _ _ _) | (refine HO_g 2 rfl ?_; first | apply HO_a1 rfl | apply HO_o1 rfl) | refine S5 ?_ | (intro hb; try replace hb := simB hb; try exact kill hb))
 (refine SR ?_; unfold RetQ; refine ⟨(), trivial, ?_, Keeps.nil⟩)
 rfl
theorem hwithin_t (n a b : Int) : Tri Tryz.prog 197 [.int .i64 n, .int .i64 a, .int .i64 b] [] [] (fun _ : Unit => True) (fun _ => .bool (within n a b)) (fun _ => []) := by
 refine Tri_of (N := Tryz.f197.ntmps) (c := bodyOf Tryz.f197) Tryz.func197 rfl rfl rfl rfl (fun w0 S0 => ?_)
 repeat' (first | refine SW ?_ | exact HO_seg rfl rfl | refine S1 ?_ | (refine S2 ?_; intro _) | (refine S3 ?_; intro _ _) | (refine S4 ?_; intro _ _ _) | (refine HO_g 2 rfl ?_; first | apply HO_a1 rfl | apply HO_o1 rfl) | refine S5 ?_ | (intro hb; try replace hb := simB hb; try exact kill hb))
 (refine SR ?_; unfold RetQ; refine ⟨(), trivial, ?_, Keeps.nil⟩)
 rfl
theorem rwithin19_t (n a b : Int) : Tri Tryz.prog 64 [.int .i64 n, .int .i64 a, .int .i64 b] [] [] (fun _ : Unit => True) (fun _ => .bool (within n a b)) (fun _ => []) := by
 refine Tri_of (N := Tryz.f64.ntmps) (c := bodyOf Tryz.f64) Tryz.func64 rfl rfl rfl rfl (fun w0 S0 => ?_)
 repeat' (first | refine SW ?_ | exact HO_seg rfl rfl | refine S1 ?_ | (refine S2 ?_; intro _) | (refine S3 ?_; intro _ _) | (refine S4 ?_; intro _ _ _) | (refine HO_g 2 rfl ?_; first | apply HO_a1 rfl | apply HO_o1 rfl) | refine S5 ?_ | (intro hb; try replace hb := simB hb; try exact kill hb))
 (refine SR ?_; unfold RetQ; refine ⟨(), trivial, ?_, Keeps.nil⟩)
 rfl
theorem owithin_t (n a b : Int) : Tri Tryz.prog 142 [.int .i64 n, .int .i64 a, .int .i64 b] [] [] (fun _ : Unit => True) (fun _ => .bool (within n a b)) (fun _ => []) := by
 refine Tri_of (N := Tryz.f142.ntmps) (c := bodyOf Tryz.f142) Tryz.func142 rfl rfl rfl rfl (fun w0 S0 => ?_)
 repeat' (first | refine SW ?_ | exact HO_seg rfl rfl | refine S1 ?_ | (refine S2 ?_; intro _) | (refine S3 ?_; intro _ _) | (refine S4 ?_; intro _ _ _) | (refine HO_g 2 rfl ?_; first | apply HO_a1 rfl | apply HO_o1 rfl) | refine S5 ?_ | (intro hb; try replace hb := simB hb; try exact kill hb))
 (refine SR ?_; unfold RetQ; refine ⟨(), trivial, ?_, Keeps.nil⟩)
 rfl
def locE (sa hold : Int) (id : Nat) (retry : Int) : List Value := [.int .i64 sa, .int .i64 hold, .int .u32 id, .bool true, .int .i64 1, .int .i64 retry]
def opnE (sa hold : Int) (id : Nat) : List Value := [.int .i64 sa, .int .i64 hold, .int .u32 id, .bool true, .int .i64 1]
def opnOk (sa hold : Int) (id : Nat) : Bool := within sa 1 4294967295 && (decide (hold = 0) || within hold 3 65535) && decide (id ≠ 0)
set_option maxHeartbeats 4000000 in
theorem clocal_t (c : CfS) : Tri Tryz.prog 17 [.agg c.e.toArray] [] [] (fun _ : Unit => True) (fun _ => .agg (locE (num c.q 0) (num c.q 2) c.q.id (num c.q 3)).toArray) (fun _ => []) := by
 refine Tri_of (N := Tryz.f17.ntmps) (c := bodyOf Tryz.f17) Tryz.func17 rfl rfl rfl rfl (fun w0 S0 => ?_)
 dsimp only [CfS.e]
 repeat' (first | refine SW ?_ | exact HO_seg rfl rfl | refine S1 ?_ | (refine S2 ?_; intro _) | (refine S3 ?_; intro _ _) | (refine S4 ?_; intro _ _ _) | (refine HO_g 2 rfl ?_; first | apply HO_a1 rfl | apply HO_o1 rfl) | refine S5 ?_ | (intro hb; try replace hb := simB hb; try exact kill hb))
 (refine SR ?_; unfold RetQ; refine ⟨(), trivial, ?_, Keeps.nil⟩)
 rfl
set_option maxHeartbeats 4000000 in
theorem rlocal_t (c : CfS) : Tri Tryz.prog 18 [.agg c.e.toArray] [] [] (fun _ : Unit => True) (fun _ => .agg (locE (num c.q 0) (num c.q 2) c.q.id (num c.q 3)).toArray) (fun _ => []) := by
 refine Tri_of (N := Tryz.f18.ntmps) (c := bodyOf Tryz.f18) Tryz.func18 rfl rfl rfl rfl (fun w0 S0 => ?_)
 dsimp only [CfS.e]
 repeat' (first | refine SW ?_ | exact HO_seg rfl rfl | refine S1 ?_ | (refine S2 ?_; intro _) | (refine S3 ?_; intro _ _) | (refine S4 ?_; intro _ _ _) | (refine HO_g 2 rfl ?_; first | apply HO_a1 rfl | apply HO_o1 rfl) | refine S5 ?_ | (intro hb; try replace hb := simB hb; try exact kill hb))
 (refine SR ?_; unfold RetQ; refine ⟨(), trivial, ?_, Keeps.nil⟩)
 rfl
theorem id_ne (id : Nat) : decide (((id : Nat) : Int) = 0) = !decide (id ≠ 0) := by
 by_cases h : id = 0
 ·subst h; rfl
 ·rw [decide_eq_false (by omega), decide_eq_true h]; rfl
theorem opn_e (sa hold : Int) (id : Nat) : (!within sa 1 4294967295 || !(decide (hold = 0) || within hold 3 65535) || decide (((id : Nat) : Int) = 0) || !within 1 0 3) = !opnOk sa hold id := by
 rw [id_ne]
 unfold opnOk
 have h : within 1 0 3 = true := by decide
 rw [h]
 cases within sa 1 4294967295 <;> cases (decide (hold = 0) || within hold 3 65535) <;> cases decide (id ≠ 0) <;> rfl
set_option maxHeartbeats 8000000 in
theorem ocheck_t (sa hold : Int) (id : Nat) : Tri Tryz.prog 80 [.agg (opnE sa hold id).toArray] [] [] (fun _ : Unit => True) (fun _ => .int .i64 (if opnOk sa hold id = true then 0 else 40)) (fun _ => []) := by
 have hin := owithin_t
 have he := opn_e sa hold id
 refine Tri_of (N := Tryz.f80.ntmps) (c := bodyOf Tryz.f80) Tryz.func80 rfl rfl rfl rfl (fun w0 S0 => ?_)
 dsimp only [opnE]
 repeat' (first | refine SW ?_ | refine SD ?_ | (refine HO_k 12 rfl ?_; refine HO_callq rfl rfl rfl rfl (hin _ _ _) (fun _ _ => rfl) (trivial) rfl rfl sqA ?_) | exact HO_seg rfl rfl | refine S1 ?_ | (refine S2 ?_; intro _) | (refine S3 ?_; intro _ _) | (refine S4 ?_; intro _ _ _) | (refine HO_g 2 rfl ?_; first | apply HO_a1 rfl | apply HO_o1 rfl) | refine S5 ?_ | (intro hb; try replace hb := simB hb; try exact kill hb))
 refine HC_cond rfl rfl (fun hb => ?_) (fun hb => ?_)
 ·rw [he] at hb
  have hx : opnOk sa hold id = false := by simpa using hb
  rw [hx]
  repeat' (first | refine SW ?_ | exact HO_seg rfl rfl | refine S1 ?_ | (refine S2 ?_; intro _) | (refine S3 ?_; intro _ _) | (refine S4 ?_; intro _ _ _) | (refine HO_g 2 rfl ?_; first | apply HO_a1 rfl | apply HO_o1 rfl) | refine S5 ?_ | (intro hb; try replace hb := simB hb; try exact kill hb))
  (refine SR ?_; unfold RetQ; refine ⟨(), trivial, ?_, Keeps.nil⟩)
  rfl
 ·rw [he] at hb
  have hx : opnOk sa hold id = true := by simpa using hb
  rw [hx]
  repeat' (first | refine SW ?_ | exact HO_seg rfl rfl | refine S1 ?_ | (refine S2 ?_; intro _) | (refine S3 ?_; intro _ _) | (refine S4 ?_; intro _ _ _) | (refine HO_g 2 rfl ?_; first | apply HO_a1 rfl | apply HO_o1 rfl) | refine S5 ?_ | (intro hb; try replace hb := simB hb; try exact kill hb))
  (refine SR ?_; unfold RetQ; refine ⟨(), trivial, ?_, Keeps.nil⟩)
  rfl
theorem loc_eq (sa hold : Int) (id : Nat) (retry : Int) : locOk sa hold id retry = (opnOk sa hold id && within retry 1 65535) := rfl
theorem ret_e (retry : Int) : (decide (retry < 1) || decide (65535 < retry)) = !within retry 1 65535 := by
 unfold within
 by_cases h1 : retry < 1 <;> by_cases h2 : 65535 < retry <;> simp [h1, h2] <;> omega
set_option maxHeartbeats 8000000 in
theorem fcheck_t (sa hold : Int) (id : Nat) (retry : Int) : Tri Tryz.prog 23 [.agg (locE sa hold id retry).toArray] [] [] (fun _ : Unit => True) (fun _ => .int .i64 (if opnOk sa hold id = true then (if within retry 1 65535 = true then 0 else 1) else 40)) (fun _ => []) := by
 have ho := ocheck_t sa hold id
 have hr := ret_e retry
 dsimp only [opnE] at ho
 cases hx : opnOk sa hold id
 ·rw [hx] at ho
  refine Tri_of (N := Tryz.f23.ntmps) (c := bodyOf Tryz.f23) Tryz.func23 rfl rfl rfl rfl (fun w0 S0 => ?_)
  dsimp only [locE]
  repeat' (first | refine SW ?_ | refine SD ?_ | (refine HO_k 12 rfl ?_; refine HO_callq rfl rfl rfl rfl (ho) (fun _ _ => rfl) (trivial) rfl rfl sqA ?_) | exact HO_seg rfl rfl | refine S1 ?_ | (refine S2 ?_; intro _) | (refine S3 ?_; intro _ _) | (refine S4 ?_; intro _ _ _) | (refine HO_g 2 rfl ?_; first | apply HO_a1 rfl | apply HO_o1 rfl) | refine S5 ?_ | (intro hb; try replace hb := simB hb; try exact kill hb))
  (refine SR ?_; unfold RetQ; refine ⟨(), trivial, ?_, Keeps.nil⟩)
  rfl
 ·rw [hx] at ho
  refine Tri_of (N := Tryz.f23.ntmps) (c := bodyOf Tryz.f23) Tryz.func23 rfl rfl rfl rfl (fun w0 S0 => ?_)
  dsimp only [locE]
  repeat' (first | refine SW ?_ | refine SD ?_ | (refine HO_k 12 rfl ?_; refine HO_callq rfl rfl rfl rfl (ho) (fun _ _ => rfl) (trivial) rfl rfl sqA ?_) | exact HO_seg rfl rfl | refine S1 ?_ | (refine S2 ?_; intro _) | (refine S3 ?_; intro _ _) | (refine S4 ?_; intro _ _ _) | (refine HO_g 2 rfl ?_; first | apply HO_a1 rfl | apply HO_o1 rfl) | refine S5 ?_ | (intro hb; try replace hb := simB hb; try exact kill hb))
  refine HC_cond rfl rfl (fun hb => ?_) (fun hb => ?_)
  ·rw [hr] at hb
   have hy : within retry 1 65535 = false := by simpa using hb
   rw [hy]
   repeat' (first | refine SW ?_ | exact HO_seg rfl rfl | refine S1 ?_ | (refine S2 ?_; intro _) | (refine S3 ?_; intro _ _) | (refine S4 ?_; intro _ _ _) | (refine HO_g 2 rfl ?_; first | apply HO_a1 rfl | apply HO_o1 rfl) | refine S5 ?_ | (intro hb; try replace hb := simB hb; try exact kill hb))
   (refine SR ?_; unfold RetQ; refine ⟨(), trivial, ?_, Keeps.nil⟩)
   rfl
  ·rw [hr] at hb
   have hy : within retry 1 65535 = true := by simpa using hb
   rw [hy]
   repeat' (first | refine SW ?_ | exact HO_seg rfl rfl | refine S1 ?_ | (refine S2 ?_; intro _) | (refine S3 ?_; intro _ _) | (refine S4 ?_; intro _ _ _) | (refine HO_g 2 rfl ?_; first | apply HO_a1 rfl | apply HO_o1 rfl) | refine S5 ?_ | (intro hb; try replace hb := simB hb; try exact kill hb))
   (refine SR ?_; unfold RetQ; refine ⟨(), trivial, ?_, Keeps.nil⟩)
   rfl
set_option maxHeartbeats 8000000 in
theorem r04check_t (sa hold : Int) (id : Nat) : Tri Tryz.prog 137 [.agg (opnE sa hold id).toArray] [] [] (fun _ : Unit => True) (fun _ => .bool (opnOk sa hold id)) (fun _ => []) := by
 refine Tri_of (N := Tryz.f137.ntmps) (c := bodyOf Tryz.f137) Tryz.func137 rfl rfl rfl rfl (fun w0 S0 => ?_)
 dsimp only [opnE]
 repeat' (first | refine SW ?_ | refine SD ?_ | exact HO_seg rfl rfl | refine S1 ?_ | (refine S2 ?_; intro _) | (refine S3 ?_; intro _ _) | (refine S4 ?_; intro _ _ _) | (refine HO_g 2 rfl ?_; first | apply HO_a1 rfl | apply HO_o1 rfl) | refine S5 ?_ | (intro hb; try replace hb := simB hb; try exact kill hb))
 (refine SR ?_; unfold RetQ; refine ⟨(), trivial, ?_, Keeps.nil⟩)
 refine congrArg Value.bool ?_
 unfold opnOk within
 by_cases h1 : 1 ≤ sa <;> by_cases h2 : sa ≤ 4294967295 <;> by_cases h3 : (id : Int) = 0 <;> by_cases h4 : hold = 0 <;> by_cases h5 : 3 ≤ hold <;> by_cases h6 : hold ≤ 65535 <;> simp [h1, h2, h3, h4, h5, h6] <;> omega
set_option maxHeartbeats 8000000 in
theorem r11check_t (sa hold : Int) (id : Nat) (retry : Int) : Tri Tryz.prog 63 [.agg (locE sa hold id retry).toArray] [] [] (fun _ : Unit => True) (fun _ => .bool (locOk sa hold id retry)) (fun _ => []) := by
 have ho := r04check_t sa hold id
 dsimp only [opnE] at ho
 rw [loc_eq]
 refine Tri_of (N := Tryz.f63.ntmps) (c := bodyOf Tryz.f63) Tryz.func63 rfl rfl rfl rfl (fun w0 S0 => ?_)
 dsimp only [locE]
 repeat' (first | refine SW ?_ | refine SD ?_ | (refine HO_k 12 rfl ?_; refine HO_callq rfl rfl rfl rfl (ho) (fun _ _ => rfl) (trivial) rfl rfl sqA ?_) | exact HO_seg rfl rfl | refine S1 ?_ | (refine S2 ?_; intro _) | (refine S3 ?_; intro _ _) | (refine S4 ?_; intro _ _ _) | (refine HO_g 2 rfl ?_; first | apply HO_a1 rfl | apply HO_o1 rfl) | refine S5 ?_ | (intro hb; try replace hb := simB hb; try exact kill hb))
 (refine SR ?_; unfold RetQ; refine ⟨(), trivial, ?_, Keeps.nil⟩)
 unfold within
 rw [← Bool.and_assoc]
 rfl
def timesB (q : CfQ) : Bool := within (num q 10) 1 1048576 && within (num q 11) 1 1048576 && within (num q 12) 1 1048576 && within (num q 13) 1 1048576
theorem all4 (f : Int → Bool) (a b c d : Int) : [a, b, c, d].all f = (f a && f b && f c && f d) := by simp [Bool.and_assoc]
set_option maxHeartbeats 8000000 in
theorem times_t (c : CfS) : Tri Tryz.prog 69 [.agg c.e.toArray] [] [] (fun _ : Unit => True) (fun _ => .bool (timesB c.q)) (fun _ => []) := by
 have hin := cwithin_t
 have e0 : timesB c.q = [num c.q 10, num c.q 11, num c.q 12, num c.q 13].all (fun n => within n 1 1048576) := (all4 (fun n => within n 1 1048576) _ _ _ _).symm
 rw [e0]
 refine Tri_of (N := Tryz.f69.ntmps) (c := bodyOf Tryz.f69) Tryz.func69 rfl rfl rfl rfl (fun w0 S0 => ?_)
 dsimp only [CfS.e]
 repeat' (first | refine SW ?_ | refine SD ?_ | exact HO_seg rfl rfl | refine S1 ?_ | (refine S2 ?_; intro _) | (refine S3 ?_; intro _ _) | (refine S4 ?_; intro _ _ _) | (refine HO_g 2 rfl ?_; first | apply HO_a1 rfl | apply HO_o1 rfl) | refine S5 ?_ | (intro hb; try replace hb := simB hb; try exact kill hb))
 rename_i b1 b2
 obtain ⟨l, hl⟩ : ∃ l, [num c.q 10, num c.q 11, num c.q 12, num c.q 13] = l := ⟨_, rfl⟩
 have hl4 : l.length = 4 := by rw [← hl]; rfl
 have hraw : [[Value.int IntKind.i64 (num c.q 10)], [Value.int IntKind.i64 (num c.q 11)], [Value.int IntKind.i64 (num c.q 12)], [Value.int IntKind.i64 (num c.q 13)]] = l.map iE := by rw [← hl]; rfl
 rw [hraw, hl]
 refine HC_keeps (rw' := [own idE 3 1 (some ⟨b2, 0, none⟩) 4 4 (l.map iE)]) permA ?_
 refine HC_loop (α := Nat) (fun j => j ≤ 4 ∧ ∀ q y, q < j → l[q]? = some y → within y 1 1048576 = true) (fun j => [(15, .int .i64 j), (14, .int .i64 4), (13, .slice (some ⟨b2, 0, none⟩) 4 4)]) (fun _ => [own idE 3 1 (some ⟨b2, 0, none⟩) 4 4 (l.map iE)]) (fun j => 4 - j) rfl 0 ⟨Nat.zero_le _, fun q y hq => by omega⟩ ⟨rfl, rfl, rfl, trivial⟩ rfl ?_
 rintro j ⟨hj, hno⟩
 rcases Nat.lt_or_ge j 4 with hlt | hge
 ·obtain ⟨x, hx⟩ : ∃ x, l[j]? = some x := ⟨l[j], List.getElem?_eq_getElem (by omega)⟩
  cases hw : within x 1 1048576
  ·have hi := hin x 1 1048576
   rw [hw] at hi
   have hall : l.all (fun n => within n 1 1048576) = false := by
    rw [List.all_eq_false]
    exact ⟨x, List.mem_of_getElem? hx, by rw [hw]; decide⟩
   rw [hall]
   repeat' (first | refine SW ?_ | refine SD ?_ | (refine HO_k 12 rfl ?_; refine HO_callq rfl rfl rfl rfl (hi) (fun _ _ => rfl) (trivial) rfl rfl sqA ?_) | exact HO_seg rfl rfl | refine S1 ?_ | (refine S2 ?_; intro _) | (refine S3 ?_; intro _ _) | (refine S4 ?_; intro _ _ _) | (refine HO_g 2 rfl ?_; first | apply HO_a1 rfl | apply HO_o1 rfl) | refine S5 ?_ | (intro hb; try replace hb := simB hb; try exact kill hb))
   (refine SR ?_; unfold RetQ; refine ⟨(), trivial, ?_, Keeps.nil⟩)
   rfl
  ·have hi := hin x 1 1048576
   rw [hw] at hi
   repeat' (first | refine SW ?_ | refine SD ?_ | (refine HO_k 12 rfl ?_; refine HO_callq rfl rfl rfl rfl (hi) (fun _ _ => rfl) (trivial) rfl rfl sqA ?_) | exact HO_seg rfl rfl | refine S1 ?_ | (refine S2 ?_; intro _) | (refine S3 ?_; intro _ _) | (refine S4 ?_; intro _ _ _) | (refine HO_g 2 rfl ?_; first | apply HO_a1 rfl | apply HO_o1 rfl) | refine S5 ?_ | (intro hb; try replace hb := simB hb; try exact kill hb))
   exact HX_at (j + 1) ⟨⟨hlt, fun q y hq hy => by
    rcases Nat.lt_or_ge q j with h | h
    ·exact hno q y h hy
    ·obtain rfl : q = j := by omega
     rw [hx] at hy
     injection hy with hy
     exact hy ▸ hw⟩, by show 4 - (j + 1) < 4 - j; omega⟩ ⟨rfl, rfl, rfl, trivial⟩ rfl
 ·obtain rfl : j = 4 := by omega
  have hall : l.all (fun n => within n 1 1048576) = true := by
   rw [List.all_eq_true]
   intro x hx
   obtain ⟨q, hq⟩ := List.getElem?_of_mem hx
   exact hno q x (by have := (List.getElem?_eq_some_iff.1 hq).1; omega) hq
  rw [hall]
  repeat' (first | refine SW ?_ | refine SD ?_ | exact HO_seg rfl rfl | refine S1 ?_ | (refine S2 ?_; intro _) | (refine S3 ?_; intro _ _) | (refine S4 ?_; intro _ _ _) | (refine HO_g 2 rfl ?_; first | apply HO_a1 rfl | apply HO_o1 rfl) | refine S5 ?_ | (intro hb; try replace hb := simB hb; try exact kill hb))
  (refine SR ?_; unfold RetQ; refine ⟨(), trivial, ?_, Keeps.nil⟩)
  rfl
def boundsB (q : CfQ) : Bool := (within (num q 4) 1 16 && within (num q 5) 0 16 && within (num q 6) 0 16) && (within (num q 7) 1 1000 && within (num q 8) 0 (num q 7) && within (num q 9) 1 1024) && (within (num q 16) 0 65536 && within (num q 17) 4096 65536) && within (num q 14) 1 4294967295 && within (num q 15) 0 255
set_option maxHeartbeats 8000000 in
theorem bounds_t (c : CfS) : Tri Tryz.prog 70 [.agg c.e.toArray] [] [] (fun _ : Unit => True) (fun _ => .bool (boundsB c.q)) (fun _ => []) := by
 have hin := cwithin_t
 refine Tri_of (N := Tryz.f70.ntmps) (c := bodyOf Tryz.f70) Tryz.func70 rfl rfl rfl rfl (fun w0 S0 => ?_)
 dsimp only [CfS.e]
 repeat' (first | refine SW ?_ | refine SD ?_ | (refine HO_k 12 rfl ?_; refine HO_callq rfl rfl rfl rfl (hin _ _ _) (fun _ _ => rfl) (trivial) rfl rfl sqA ?_) | exact HO_seg rfl rfl | refine S1 ?_ | (refine S2 ?_; intro _) | (refine S3 ?_; intro _ _) | (refine S4 ?_; intro _ _ _) | (refine HO_g 2 rfl ?_; first | apply HO_a1 rfl | apply HO_o1 rfl) | refine S5 ?_ | (intro hb; try replace hb := simB hb; try exact kill hb))
 (refine SR ?_; unfold RetQ; refine ⟨(), trivial, ?_, Keeps.nil⟩)
 rfl
def IfQ.e (x : IfQ) : List Value := [.int .i64 x.id, .int .i64 x.router, .int .u32 x.a, .int .i64 x.n, .int .i64 x.cap]
instance : EncOk IfQ.e 5 := ⟨fun _ => ⟨rfl, rfl⟩⟩
theorem odd_e (x : IfQ) : (!within x.id 0 4294967295 || !within x.router 0 15 || !okX x.a x.n || !within x.cap 0 9007199254740991) = !ifOk x := by
 unfold ifOk
 cases within x.id 0 4294967295 <;> cases within x.router 0 15 <;> cases okX x.a x.n <;> rfl
theorem chk_ne (b : Bool) : (!decide ((if b = true then (0 : Int) else 20) = 0)) = !b := by cases b <;> rfl
set_option maxHeartbeats 8000000 in
theorem hodd_t (x : IfQ) (ha : x.a < 4294967296) : Tri Tryz.prog 139 [.agg x.e.toArray] [] [] (fun _ : Unit => True) (fun _ => .bool (!ifOk x)) (fun _ => []) := by
 have hin := hwithin_t
 have hc := addrCheck_t x.a ha x.n
 have he := chk_ne (okX x.a x.n)
 dsimp only [pfV] at hc
 refine Tri_of (N := Tryz.f139.ntmps) (c := bodyOf Tryz.f139) Tryz.func139 rfl rfl rfl rfl (fun w0 S0 => ?_)
 dsimp only [IfQ.e]
 repeat' (first | refine SW ?_ | (with_reducible refine HO_rw (congrArg Value.bool he) ?_) | refine SD ?_ | (refine HO_k 12 rfl ?_; refine HO_callq rfl rfl rfl rfl (hin _ _ _) (fun _ _ => rfl) (trivial) rfl rfl sqA ?_) | (refine HO_k 12 rfl ?_; refine HO_callq rfl rfl rfl rfl (hc) (fun _ _ => rfl) (trivial) rfl rfl sqA ?_) | exact HO_seg rfl rfl | refine S1 ?_ | (refine S2 ?_; intro _) | (refine S3 ?_; intro _ _) | (refine S4 ?_; intro _ _ _) | (refine HO_g 2 rfl ?_; first | apply HO_a1 rfl | apply HO_o1 rfl) | refine S5 ?_ | (intro hb; try replace hb := simB hb; try exact kill hb))
 (refine SR ?_; unfold RetQ; refine ⟨(), trivial, ?_, Keeps.nil⟩)
 exact congrArg Value.bool (odd_e x)
theorem AllSrc.of {src : List SL} : ∀ {l : List SL}, (∀ e ∈ l, ∃ e0 ∈ src, Ent e0 e) → AllSrc src l
 | [], _ => trivial
 | e :: l, h => ⟨.inl (h e (by simp)), AllSrc.of fun f hf => h f (by simp [hf])⟩
theorem AllSrc.self {e : SL} {l r : List SL} : AllSrc (e :: l ++ r) l := AllSrc.of fun f hf => ⟨f, by simp [hf], Ent.rfl_⟩
def idxF {α : Type} (p : α → Bool) (l : List α) : Int := if l.any p = true then (l.findIdx p : Nat) else -1
theorem idxF_ge {α : Type} (p : α → Bool) (l : List α) : decide (0 ≤ idxF p l) = l.any p := by
 unfold idxF
 split
 ·rename_i h; rw [h]; exact decide_eq_true (by omega)
 ·rename_i h; rw [Bool.not_eq_true] at h; rw [h]; rfl
theorem idxF_at {α : Type} {p : α → Bool} {l : List α} {j : Nat} {a : α} (hj : l[j]? = some a) (ha : p a = true) (hno : ∀ q, q < j → ∀ b, l[q]? = some b → p b = false) : idxF p l = j := by
 obtain ⟨hlt, rfl⟩ := List.getElem?_eq_some_iff.1 hj
 have : l.any p = true := List.any_eq_true.2 ⟨_, List.getElem_mem hlt, ha⟩
 rw [idxF, if_pos this, (List.findIdx_eq hlt).2 ⟨ha, fun q hq => by simpa using hno q hq _ (List.getElem?_eq_getElem (by omega))⟩]
theorem idxF_no {α : Type} {p : α → Bool} {l : List α} (hno : ∀ q, q < l.length → ∀ b, l[q]? = some b → p b = false) : idxF p l = -1 := by
 rw [idxF, if_neg]
 intro h
 obtain ⟨a, ha, hp⟩ := List.any_eq_true.1 h
 obtain ⟨q, hq⟩ := List.getElem?_of_mem ha
 rw [hno q (List.getElem?_eq_some_iff.1 hq).1 a hq] at hp
 cases hp
set_option maxHeartbeats 4000000 in
theorem indexI_t (A : Option Addr) (n c : Nat) (l : List Int) (hn : n = l.length) (hl : l.length ≤ 1000000) (g : Nat) [FnOk Tryz.prog g] (cap : List Value) (roC : List SL) (p : Int → Bool)
  (hp : ∀ x ∈ l, Tri Tryz.prog g (.int .i64 x :: cap) roC [] (fun _ : Unit => True) (fun _ => .bool (p x)) (fun _ => [])) :
  Tri Tryz.prog 141 [.slice A n c, .func (.func g) #[] cap.toArray] (arr iE 1 A l :: roC) [] (fun _ : Unit => True) (fun _ => .int .i64 (idxF p l)) (fun _ => []) := by
 refine Tri_of (N := Tryz.f141.ntmps) (c := bodyOf Tryz.f141) Tryz.func141 rfl rfl rfl rfl (fun w0 S0 => ?_)
 repeat' (first | refine SW ?_ | refine SD ?_ | exact HO_seg rfl rfl | refine S1 ?_ | (refine S2 ?_; intro _) | (refine S3 ?_; intro _ _) | (refine S4 ?_; intro _ _ _) | (refine HO_g 2 rfl ?_; first | apply HO_a1 rfl | apply HO_o1 rfl) | refine S5 ?_ | (intro hb; try replace hb := simB hb; try exact kill hb))
 refine HC_loop (α := Nat) (fun j => j ≤ l.length ∧ ∀ q, q < j → ∀ b, l[q]? = some b → p b = false) (fun j => [(8, .int .i64 j), (7, .int .i64 n), (0, .slice A n c), (1, .func (.func g) #[] cap.toArray)]) (fun _ => []) (fun j => l.length - j) rfl 0 ⟨Nat.zero_le _, fun q hq => by omega⟩ ⟨rfl, rfl, rfl, rfl, trivial⟩ rfl ?_
 intro j ⟨hj, hno⟩
 rcases Nat.lt_or_ge j l.length with hlt | hge
 ·obtain ⟨a, ha⟩ : ∃ a, l[j]? = some a := ⟨l[j], List.getElem?_eq_getElem hlt⟩
  have hpa := hp a (List.mem_of_getElem? ha)
  repeat' (first | refine SW ?_ | refine SD ?_ | (refine HO_k 12 rfl ?_; refine HO_callq rfl rfl rfl rfl (hpa) (fun _ _ => rfl) (AllSrc.self) rfl rfl sqA ?_) | exact HO_seg rfl rfl | refine S1 ?_ | (refine S2 ?_; intro _) | (refine S3 ?_; intro _ _) | (refine S4 ?_; intro _ _ _) | (refine HO_g 2 rfl ?_; first | apply HO_a1 rfl | apply HO_o1 rfl) | refine S5 ?_ | (intro hb; try replace hb := simB hb; try exact kill hb) | refine HC_cond rfl rfl ?_ ?_)
  ·(refine SR ?_; unfold RetQ; refine ⟨(), trivial, ?_, Keeps.nil⟩)
   exact congrArg (Value.int .i64) (idxF_at ha hb hno).symm
  ·exact HX_at (j + 1) ⟨⟨hlt, fun q hq b hbq => by
    rcases Nat.lt_or_ge q j with h | h
    ·exact hno q h b hbq
    ·obtain rfl : q = j := by omega
     rw [ha] at hbq
     injection hbq with hbq
     exact hbq ▸ hb⟩, by omega⟩ ⟨rfl, rfl, rfl, rfl, trivial⟩ rfl
 ·obtain rfl : j = l.length := by omega
  repeat' (first | refine SW ?_ | refine SD ?_ | exact HO_seg rfl rfl | refine S1 ?_ | (refine S2 ?_; intro _) | (refine S3 ?_; intro _ _) | (refine S4 ?_; intro _ _ _) | (refine HO_g 2 rfl ?_; first | apply HO_a1 rfl | apply HO_o1 rfl) | refine S5 ?_ | (intro hb; try replace hb := simB hb; try exact kill hb))
  (refine SR ?_; unfold RetQ; refine ⟨(), trivial, ?_, Keeps.nil⟩)
  exact congrArg (Value.int .i64) (idxF_no hno).symm
set_option maxHeartbeats 4000000 in
theorem containsI_t (A : Option Addr) (n c : Nat) (l : List Int) (hn : n = l.length) (hl : l.length ≤ 1000000) (g : Nat) [FnOk Tryz.prog g] (cap : List Value) (roC : List SL) (p : Int → Bool)
  (hp : ∀ x ∈ l, Tri Tryz.prog g (.int .i64 x :: cap) roC [] (fun _ : Unit => True) (fun _ => .bool (p x)) (fun _ => [])) :
  Tri Tryz.prog 73 [.slice A n c, .func (.func g) #[] cap.toArray] (arr iE 1 A l :: roC) [] (fun _ : Unit => True) (fun _ => .bool (l.any p)) (fun _ => []) := by
 have h1 := indexI_t A n c l hn hl g cap roC p hp
 refine Tri_of (N := Tryz.f73.ntmps) (c := bodyOf Tryz.f73) Tryz.func73 rfl rfl rfl rfl (fun w0 S0 => ?_)
 repeat' (first | refine SW ?_ | (refine HO_k 12 rfl ?_; refine HO_callq rfl rfl rfl rfl (h1) (fun _ _ => rfl) (AllSrc.of fun f hf => ⟨f, List.mem_append.2 (.inl hf), Ent.rfl_⟩) rfl rfl sqA ?_) | exact HO_seg rfl rfl | refine S1 ?_ | (refine S2 ?_; intro _) | (refine S3 ?_; intro _ _) | (refine S4 ?_; intro _ _ _) | (refine HO_g 2 rfl ?_; first | apply HO_a1 rfl | apply HO_o1 rfl) | refine S5 ?_ | (intro hb; try replace hb := simB hb; try exact kill hb))
 (refine SR ?_; unfold RetQ; refine ⟨(), trivial, ?_, Keeps.nil⟩)
 exact congrArg Value.bool (idxF_ge p l)
set_option maxHeartbeats 4000000 in
theorem indexN_t (A : Option Addr) (n c : Nat) (l : List IfQ) (hn : n = l.length) (hl : l.length ≤ 1000000) (g : Nat) [FnOk Tryz.prog g] (cap : List Value) (roC : List SL) (p : IfQ → Bool)
  (hp : ∀ x ∈ l, Tri Tryz.prog g (.agg x.e.toArray :: cap) roC [] (fun _ : Unit => True) (fun _ => .bool (p x)) (fun _ => [])) :
  Tri Tryz.prog 140 [.slice A n c, .func (.func g) #[] cap.toArray] (arr IfQ.e 5 A l :: roC) [] (fun _ : Unit => True) (fun _ => .int .i64 (idxF p l)) (fun _ => []) := by
 refine Tri_of (N := Tryz.f140.ntmps) (c := bodyOf Tryz.f140) Tryz.func140 rfl rfl rfl rfl (fun w0 S0 => ?_)
 repeat' (first | refine SW ?_ | refine SD ?_ | exact HO_seg rfl rfl | refine S1 ?_ | (refine S2 ?_; intro _) | (refine S3 ?_; intro _ _) | (refine S4 ?_; intro _ _ _) | (refine HO_g 2 rfl ?_; first | apply HO_a1 rfl | apply HO_o1 rfl) | refine S5 ?_ | (intro hb; try replace hb := simB hb; try exact kill hb))
 refine HC_loop (α := Nat) (fun j => j ≤ l.length ∧ ∀ q, q < j → ∀ b, l[q]? = some b → p b = false) (fun j => [(8, .int .i64 j), (7, .int .i64 n), (0, .slice A n c), (1, .func (.func g) #[] cap.toArray)]) (fun _ => []) (fun j => l.length - j) rfl 0 ⟨Nat.zero_le _, fun q hq => by omega⟩ ⟨rfl, rfl, rfl, rfl, trivial⟩ rfl ?_
 intro j ⟨hj, hno⟩
 rcases Nat.lt_or_ge j l.length with hlt | hge
 ·obtain ⟨a, ha⟩ : ∃ a, l[j]? = some a := ⟨l[j], List.getElem?_eq_getElem hlt⟩
  have hpa := hp a (List.mem_of_getElem? ha)
  repeat' (first | refine SW ?_ | refine SD ?_ | (refine HO_k 12 rfl ?_; refine HO_callq rfl rfl rfl rfl (hpa) (fun _ _ => rfl) (AllSrc.self) rfl rfl sqA ?_) | exact HO_seg rfl rfl | refine S1 ?_ | (refine S2 ?_; intro _) | (refine S3 ?_; intro _ _) | (refine S4 ?_; intro _ _ _) | (refine HO_g 2 rfl ?_; first | apply HO_a1 rfl | apply HO_o1 rfl) | refine S5 ?_ | (intro hb; try replace hb := simB hb; try exact kill hb) | refine HC_cond rfl rfl ?_ ?_)
  ·(refine SR ?_; unfold RetQ; refine ⟨(), trivial, ?_, Keeps.nil⟩)
   exact congrArg (Value.int .i64) (idxF_at ha hb hno).symm
  ·exact HX_at (j + 1) ⟨⟨hlt, fun q hq b hbq => by
    rcases Nat.lt_or_ge q j with h | h
    ·exact hno q h b hbq
    ·obtain rfl : q = j := by omega
     rw [ha] at hbq
     injection hbq with hbq
     exact hbq ▸ hb⟩, by omega⟩ ⟨rfl, rfl, rfl, rfl, trivial⟩ rfl
 ·obtain rfl : j = l.length := by omega
  repeat' (first | refine SW ?_ | refine SD ?_ | exact HO_seg rfl rfl | refine S1 ?_ | (refine S2 ?_; intro _) | (refine S3 ?_; intro _ _) | (refine S4 ?_; intro _ _ _) | (refine HO_g 2 rfl ?_; first | apply HO_a1 rfl | apply HO_o1 rfl) | refine S5 ?_ | (intro hb; try replace hb := simB hb; try exact kill hb))
  (refine SR ?_; unfold RetQ; refine ⟨(), trivial, ?_, Keeps.nil⟩)
  exact congrArg (Value.int .i64) (idxF_no hno).symm
set_option maxHeartbeats 4000000 in
theorem containsN_t (A : Option Addr) (n c : Nat) (l : List IfQ) (hn : n = l.length) (hl : l.length ≤ 1000000) (g : Nat) [FnOk Tryz.prog g] (cap : List Value) (roC : List SL) (p : IfQ → Bool)
  (hp : ∀ x ∈ l, Tri Tryz.prog g (.agg x.e.toArray :: cap) roC [] (fun _ : Unit => True) (fun _ => .bool (p x)) (fun _ => [])) :
  Tri Tryz.prog 72 [.slice A n c, .func (.func g) #[] cap.toArray] (arr IfQ.e 5 A l :: roC) [] (fun _ : Unit => True) (fun _ => .bool (l.any p)) (fun _ => []) := by
 have h1 := indexN_t A n c l hn hl g cap roC p hp
 refine Tri_of (N := Tryz.f72.ntmps) (c := bodyOf Tryz.f72) Tryz.func72 rfl rfl rfl rfl (fun w0 S0 => ?_)
 repeat' (first | refine SW ?_ | (refine HO_k 12 rfl ?_; refine HO_callq rfl rfl rfl rfl (h1) (fun _ _ => rfl) (AllSrc.of fun f hf => ⟨f, List.mem_append.2 (.inl hf), Ent.rfl_⟩) rfl rfl sqA ?_) | exact HO_seg rfl rfl | refine S1 ?_ | (refine S2 ?_; intro _) | (refine S3 ?_; intro _ _) | (refine S4 ?_; intro _ _ _) | (refine HO_g 2 rfl ?_; first | apply HO_a1 rfl | apply HO_o1 rfl) | refine S5 ?_ | (intro hb; try replace hb := simB hb; try exact kill hb))
 (refine SR ?_; unfold RetQ; refine ⟨(), trivial, ?_, Keeps.nil⟩)
 exact congrArg Value.bool (idxF_ge p l)
@[reducible] def TIf : Nat := 101
instance : KeyOf Tryz.prog 3 (fun n : Int => Value.int .i64 n) := KeyOf.int (by kernel_rfl)
@[reducible] def NetK := Int × Nat × Int
def netC (k : NetK) : List Value := [.int .i64 k.1, .int .u32 k.2.1, .int .i64 k.2.2]
theorem net_eq (a b : NetK) : eqZ [0, 0, 0] (netC a) (netC b) = some (decide (a = b)) := by
 obtain ⟨a1, a2, a3⟩ := a
 obtain ⟨b1, b2, b3⟩ := b
 have h2 : decide (((a2 : Nat) : Int) = b2) = decide (a2 = b2) := decide_eq_decide.2 (by omega)
 show some (decide (a1 = b1) && (decide (((a2 : Nat) : Int) = b2) && (decide (a3 = b3) && true))) = _
 rw [h2]
 congr 1
 by_cases h1 : a1 = b1 <;> by_cases h3 : a2 = b2 <;> by_cases h4 : a3 = b3 <;> simp [h1, h3, h4]
instance : KeyOf Tryz.prog 209 (fun k : NetK => Value.agg (netC k).toArray) := KeyOf.deep (n := 20) (cells := netC) (ks := [0, 0, 0]) (by kernel_rfl) (by decide) (by kernel_rfl) (fun _ => rfl) net_eq (fun k v hv => by
 simp [netC] at hv
 rcases hv with rfl | rfl | rfl
 ·exact ⟨_, _, rfl⟩
 ·exact ⟨_, _, rfl⟩
 ·exact ⟨_, _, rfl⟩) (by kernel_rfl)
@[reducible] def idK (n : Int) : Value := .int .i64 n
@[reducible] def netV (k : NetK) : Value := .agg (netC k).toArray
@[reducible] def boolV (b : Bool) : Value := .bool b
def idsL (l : List IfQ) : List Int := l.map (·.id)
def netsL (l : List IfQ) : List NetK := l.map fun x => (x.router, x.a, x.n)
theorem any_odd (l : List IfQ) : l.any (fun x => !ifOk x) = !l.all ifOk := by
 induction l with
 | nil => rfl
 | cons x l ih => simp only [List.any_cons, List.all_cons, ih, Bool.not_and]
theorem ifs_e (l : List IfQ) : (decide ((256 : Int) < l.length) || decide (((setL (idsL l)).length : Int) < l.length) || decide (((setL (netsL l)).length : Int) < l.length) || l.any (fun x => !ifOk x)) = !ifsOk l := by
 have h1 := setL_lt (idsL l)
 have h2 := setL_lt (netsL l)
 have e1 : (idsL l).length = l.length := by simp [idsL]
 have e2 : (netsL l).length = l.length := by simp [netsL]
 rw [e1] at h1
 rw [e2] at h2
 have h3 : decide ((256 : Int) < l.length) = !decide (l.length ≤ 256) := by
  by_cases h : l.length ≤ 256
  ·rw [decide_eq_true h, decide_eq_false (by omega)]; rfl
  ·rw [decide_eq_false h, decide_eq_true (by omega)]; rfl
 rw [h1, h2, h3, any_odd]
 unfold ifsOk
 show _ = !(decide (l.length ≤ 256) && (decide (idsL l).Nodup && (decide (netsL l).Nodup && l.all ifOk)))
 cases decide (l.length ≤ 256) <;> cases decide (idsL l).Nodup <;> cases decide (netsL l).Nodup <;> rfl
section
variable {m : Md} {P : Program} {N : Nat} {w0 : World} {S0 : Foot} {ops : List Oper} {i : Nat} {lq : List Nat} {env : Env} {ro rw : List SL} {K : Act → World → Prop} {d : Nat} {ty : TypeId} {pos : String} {aft : Array Edge} {g : Option (Nat × Bool)}
theorem HO_mkmapT {κ ν : Type} [DecidableEq κ] (ke : κ → Value) (ve : ν → Value) {T Kt E : Nat} [hT : TyMap P T Kt E] [hK : KeyOf P Kt ke] (ho : ops[i]? = some ⟨some d, .makeMap T none, ty, pos, aft, g⟩) (hw : wantE ops env g = some true) (hN : Nat.blt d N = true) (hs : soleB m ops i lq = true)
  (h : ∀ b : Nat, HO (nmM m) P N w0 S0 ops lq ((d, .map (some b)) :: env) ro (mapP ke ve b [] :: rw) K) : HO m P N w0 S0 ops (i :: lq) env ro rw K := HO_mkmap ke ve ho hw hN hs h
theorem HO_mapsetO {κ ν : Type} [DecidableEq κ] {ke : κ → Value} {ve : ν → Value} {T Kt E b : Nat} {x y z : Operand} {l : List (κ × ν)} {rw' : List SL} [hT : TyMap P T Kt E] [hK : KeyOf P Kt ke] (q : Nat) (k : κ) (v : ν) (ho : ops[i]? = some ⟨none, .mapUpdate T x y z, ty, pos, aft, g⟩)
  (hx : Env.ev env x = some (.map (some b))) (hy : Env.ev env y = some (ke k)) (hz : Env.ev env z = some (ve v)) (hq : rw[q]? = some (mapP ke ve b l)) (hrw : setO rw q (mapP ke ve b (stL k v l)) = some rw')
  (hw : wantE ops env g = some true) (hs : soleB m ops i lq = true)
  (h : HO (nmM m) P N w0 S0 ops lq env ro rw' K) : HO m P N w0 S0 ops (i :: lq) env ro rw K := by
 have := setO_eq hrw
 subst this
 exact HO_mapset q k v ho hx hy hz hq hw hs h
end
theorem take_snoc {α : Type} {l : List α} {j : Nat} {x : α} (h : l[j]? = some x) : l.take (j + 1) = l.take j ++ [x] := by rw [List.take_add_one, h]; rfl
set_option maxHeartbeats 16000000 in
theorem hcheck_t (A : Option Addr) (c : Nat) (l : List IfQ) (hl : l.length ≤ 1000000) (ha : ∀ x ∈ l, x.a < 4294967296) :
  Tri Tryz.prog 71 [.slice A l.length c] [arr IfQ.e 5 A l] [] (fun _ : Unit => True) (fun _ => .int .i64 (if ifsOk l = true then 0 else 160)) (fun _ => []) := by
 have hany := containsN_t A l.length c l rfl hl 139 [] [] (fun x => !ifOk x) (fun x hx => hodd_t x (ha x hx))
 have he := ifs_e l
 refine Tri_of (N := Tryz.f71.ntmps) (c := bodyOf Tryz.f71) Tryz.func71 rfl rfl rfl rfl (fun w0 S0 => ?_)
 repeat' (first | refine SW ?_ | refine SD ?_ | (refine HO_k 21 rfl ?_; (first | refine HO_mkmapT idK boolV rfl rfl rfl soA ?_ | refine HO_mkmapT netV boolV rfl rfl rfl soA ?_); intro _) | exact HO_seg rfl rfl | refine S1 ?_ | (refine S2 ?_; intro _) | (refine S3 ?_; intro _ _) | (refine S4 ?_; intro _ _ _) | (refine HO_g 2 rfl ?_; first | apply HO_a1 rfl | apply HO_o1 rfl) | refine S5 ?_ | (intro hb; try replace hb := simB hb; try exact kill hb))
 rename_i b1 b2
 refine HC_loop (α := Nat) (fun j => j ≤ l.length) (fun j => [(11, .int .i64 j), (10, .int .i64 l.length), (9, .slice A l.length c), (4, .map (some b2)), (3, .map (some b1)), (0, .slice A l.length c)]) (fun j => [mapP netV boolV b2 (setL (netsL (l.take j))), mapP idK boolV b1 (setL (idsL (l.take j)))]) (fun j => l.length - j) rfl 0 (Nat.zero_le _) ⟨rfl, rfl, rfl, rfl, rfl, rfl, trivial⟩ rfl ?_
 intro j hj
 rcases Nat.lt_or_ge j l.length with hlt | hge
 ·obtain ⟨x, hx⟩ : ∃ x, l[j]? = some x := ⟨l[j], List.getElem?_eq_getElem hlt⟩
  have e1 : stL x.id true (setL (idsL (l.take j))) = setL (idsL (l.take (j + 1))) := by rw [take_snoc hx]; unfold idsL; rw [List.map_append]; exact (setL_snoc _ _).symm
  have e2 : stL (x.router, x.a, x.n) true (setL (netsL (l.take j))) = setL (netsL (l.take (j + 1))) := by rw [take_snoc hx]; unfold netsL; rw [List.map_append]; exact (setL_snoc _ _).symm
  repeat' (first | refine SW ?_ | refine SD ?_ | (refine HO_k 21 rfl ?_; (first | refine HO_mapsetO (ke := idK) (ve := boolV) 2 x.id true rfl rfl rfl rfl rfl rfl rfl soA ?_ | refine HO_mapsetO (ke := netV) (ve := boolV) 1 (x.router, x.a, x.n) true rfl rfl rfl rfl rfl rfl rfl soA ?_)) | exact HO_seg rfl rfl | refine S1 ?_ | (refine S2 ?_; intro _) | (refine S3 ?_; intro _ _) | (refine S4 ?_; intro _ _ _) | (refine HO_g 2 rfl ?_; first | apply HO_a1 rfl | apply HO_o1 rfl) | refine S5 ?_ | (intro hb; try replace hb := simB hb; try exact kill hb))
  rw [e1, e2]
  refine HX_keeps (rw' := [mapP netV boolV b2 (setL (netsL (l.take (j + 1)))), mapP idK boolV b1 (setL (idsL (l.take (j + 1))))]) permA ?_
  exact HX_at (j + 1) ⟨hlt, by show l.length - (j + 1) < l.length - j; omega⟩ ⟨rfl, rfl, rfl, rfl, rfl, rfl, trivial⟩ rfl
 ·obtain rfl : j = l.length := by omega
  rw [List.take_length]
  repeat' (first | refine SW ?_ | refine SD ?_ | (refine HO_k 8 rfl ?_; (first | refine HO_maplen (ke := netV) (ve := boolV) 1 rfl rfl rfl rfl rfl rdA ?_ | refine HO_maplen (ke := idK) (ve := boolV) 2 rfl rfl rfl rfl rfl rdA ?_)) | (refine HO_k 12 rfl ?_; refine HO_callq rfl rfl rfl rfl (hany) (fun _ _ => rfl) (srcsA) rfl rfl sqA ?_) | exact HO_seg rfl rfl | refine S1 ?_ | (refine S2 ?_; intro _) | (refine S3 ?_; intro _ _) | (refine S4 ?_; intro _ _ _) | (refine HO_g 2 rfl ?_; first | apply HO_a1 rfl | apply HO_o1 rfl) | refine S5 ?_ | (intro hb; try replace hb := simB hb; try exact kill hb))
  refine HC_cond rfl rfl (fun hb => ?_) (fun hb => ?_)
  ·rw [he] at hb
   have hx : ifsOk l = false := by simpa using hb
   rw [hx]
   repeat' (first | refine SW ?_ | exact HO_seg rfl rfl | refine S1 ?_ | (refine S2 ?_; intro _) | (refine S3 ?_; intro _ _) | (refine S4 ?_; intro _ _ _) | (refine HO_g 2 rfl ?_; first | apply HO_a1 rfl | apply HO_o1 rfl) | refine S5 ?_ | (intro hb; try replace hb := simB hb; try exact kill hb))
   (refine SR ?_; unfold RetQ; refine ⟨(), trivial, ?_, Keeps.nil⟩)
   rfl
  ·rw [he] at hb
   have hx : ifsOk l = true := by simpa using hb
   rw [hx]
   repeat' (first | refine SW ?_ | exact HO_seg rfl rfl | refine S1 ?_ | (refine S2 ?_; intro _) | (refine S3 ?_; intro _ _) | (refine S4 ?_; intro _ _ _) | (refine HO_g 2 rfl ?_; first | apply HO_a1 rfl | apply HO_o1 rfl) | refine S5 ?_ | (intro hb; try replace hb := simB hb; try exact kill hb))
   (refine SR ?_; unfold RetQ; refine ⟨(), trivial, ?_, Keeps.nil⟩)
   rfl
theorem bad_e (x : IfQ) : (decide (x.id < 0) || decide (4294967295 < x.id) || decide (x.router < 0) || decide (15 < x.router) || !okX x.a x.n || decide (x.cap < 0) || decide (9007199254740991 < x.cap)) = !ifOk x := by
 unfold ifOk within
 by_cases h1 : x.id < 0 <;> by_cases h2 : 4294967295 < x.id <;> by_cases h3 : x.router < 0 <;> by_cases h4 : 15 < x.router <;> by_cases h5 : x.cap < 0 <;> by_cases h6 : 9007199254740991 < x.cap <;> cases okX x.a x.n <;> simp [h1, h2, h3, h4, h5, h6] <;> omega
theorem nodup_pre {α : Type} {l : List α} (h : l.Nodup) (i : Nat) : (l.take i).Nodup := h.sublist (List.take_sublist i l)
theorem ids_at {l : List IfQ} {i : Nat} {x : IfQ} (h : l[i]? = some x) : (idsL l)[i]? = some x.id := by unfold idsL; rw [List.getElem?_map, h]; rfl
theorem nets_at {l : List IfQ} {i : Nat} {x : IfQ} (h : l[i]? = some x) : (netsL l)[i]? = some (x.router, x.a, x.n) := by unfold netsL; rw [List.getElem?_map, h]; rfl
theorem ifs_dup {l : List IfQ} {i k : Nat} {x y : IfQ} (hx : l[i]? = some x) (hy : l[k]? = some y) (hk : k < i) (h : y.id = x.id ∨ (y.router = x.router ∧ y.a = x.a ∧ y.n = x.n)) : ifsOk l = false := by
 cases hok : ifsOk l with
 | false => rfl
 | true =>
  exfalso
  unfold ifsOk at hok
  simp only [Bool.and_eq_true, decide_eq_true_eq] at hok
  obtain ⟨_, h1, h2, _⟩ := hok
  rcases h with h | ⟨a1, a2, a3⟩
  ·exact ((nodup_take _ i _ (ids_at hx)).1 (nodup_pre h1 (i + 1))).2 k _ hk (ids_at hy) h
  ·exact ((nodup_take _ i _ (nets_at hx)).1 (nodup_pre h2 (i + 1))).2 k _ hk (nets_at hy) (by rw [a1, a2, a3])
theorem ifs_odd {l : List IfQ} {i : Nat} {x : IfQ} (hx : l[i]? = some x) (h : ifOk x = false) : ifsOk l = false := by
 unfold ifsOk
 have : l.all ifOk = false := List.all_eq_false.2 ⟨x, List.mem_of_getElem? hx, by rw [h]; decide⟩
 rw [this]
 simp
theorem ifs_all {l : List IfQ} (h1 : ∀ q y, q < l.length → l[q]? = some y → ifOk y = true) (h2 : ((idsL l).take l.length).Nodup) (h3 : ((netsL l).take l.length).Nodup) : decide ((l.length : Int) ≤ 256) = ifsOk l := by
 have e1 : (idsL l).length = l.length := by simp [idsL]
 have e2 : (netsL l).length = l.length := by simp [netsL]
 rw [List.take_of_length_le (by omega)] at h2 h3
 unfold ifsOk
 have h4 : l.all ifOk = true := by
  rw [List.all_eq_true]
  intro x hx
  obtain ⟨q, hq⟩ := List.getElem?_of_mem hx
  exact h1 q x (List.getElem?_eq_some_iff.1 hq).1 hq
 have h2' : (l.map (·.id)).Nodup := h2
 have h3' : (l.map fun x => (x.router, x.a, x.n)).Nodup := h3
 rw [decide_eq_true h2', decide_eq_true h3', h4]
 simp only [Bool.true_and, Bool.and_true]
 exact decide_eq_decide.2 (by omega)
set_option maxHeartbeats 16000000 in
theorem r16check_t (A : Option Addr) (c : Nat) (l : List IfQ) (hl : l.length ≤ 1000000) (ha : ∀ x ∈ l, x.a < 4294967296) :
  Tri Tryz.prog 65 [.slice A l.length c] [arr IfQ.e 5 A l] [] (fun _ : Unit => True) (fun _ => .bool (ifsOk l)) (fun _ => []) := by
 refine Tri_of (N := Tryz.f65.ntmps) (c := bodyOf Tryz.f65) Tryz.func65 rfl rfl rfl rfl (fun w0 S0 => ?_)
 repeat' (first | refine SW ?_ | refine SD ?_ | exact HO_seg rfl rfl | refine S1 ?_ | (refine S2 ?_; intro _) | (refine S3 ?_; intro _ _) | (refine S4 ?_; intro _ _ _) | (refine HO_g 2 rfl ?_; first | apply HO_a1 rfl | apply HO_o1 rfl) | refine S5 ?_ | (intro hb; try replace hb := simB hb; try exact kill hb))
 refine HC_loop (α := Nat) (fun i => i ≤ l.length ∧ (∀ q y, q < i → l[q]? = some y → ifOk y = true) ∧ ((idsL l).take i).Nodup ∧ ((netsL l).take i).Nodup) (fun i => [(3, .int .i64 i), (0, .slice A l.length c)]) (fun _ => []) (fun i => l.length - i) rfl 0 ⟨Nat.zero_le _, fun q y hq => by omega, by simp, by simp⟩ ⟨rfl, rfl, trivial⟩ rfl ?_
 rintro i ⟨hi, hok, hn1, hn2⟩
 rcases Nat.lt_or_ge i l.length with hlt | hge
 ·obtain ⟨x, hx⟩ : ∃ x, l[i]? = some x := ⟨l[i], List.getElem?_eq_getElem hlt⟩
  have hc := rchk_t x.a (ha x (List.mem_of_getElem? hx)) x.n
  have he := bad_e x
  dsimp only [pfV] at hc
  repeat' (first | refine SW ?_ | refine SD ?_ | (refine HO_k 12 rfl ?_; refine HO_callq rfl rfl rfl rfl (hc) (fun _ _ => rfl) (trivial) rfl rfl sqA ?_) | exact HO_seg rfl rfl | refine S1 ?_ | (refine S2 ?_; intro _) | (refine S3 ?_; intro _ _) | (refine S4 ?_; intro _ _ _) | (refine HO_g 2 rfl ?_; first | apply HO_a1 rfl | apply HO_o1 rfl) | refine S5 ?_ | (intro hb; try replace hb := simB hb; try exact kill hb))
  rename_i b4
  refine HC_cond rfl rfl (fun hb => ?_) (fun hb => ?_)
  ·rw [he] at hb
   have hx' : ifOk x = false := by simpa using hb
   rw [ifs_odd hx hx']
   repeat' (first | refine SW ?_ | exact HO_seg rfl rfl | refine S1 ?_ | (refine S2 ?_; intro _) | (refine S3 ?_; intro _ _) | (refine S4 ?_; intro _ _ _) | (refine HO_g 2 rfl ?_; first | apply HO_a1 rfl | apply HO_o1 rfl) | refine S5 ?_ | (intro hb; try replace hb := simB hb; try exact kill hb))
   (refine SR ?_; unfold RetQ; refine ⟨(), trivial, ?_, Keeps.nil⟩)
   rfl
  ·rw [he] at hb
   have hx' : ifOk x = true := by simpa using hb
   repeat' (first | refine SW ?_ | exact HO_seg rfl rfl | refine S1 ?_ | (refine S2 ?_; intro _) | (refine S3 ?_; intro _ _) | (refine S4 ?_; intro _ _ _) | (refine HO_g 2 rfl ?_; first | apply HO_a1 rfl | apply HO_o1 rfl) | refine S5 ?_ | (intro hb; try replace hb := simB hb; try exact kill hb))
   refine HC_loop (α := Nat) (fun k => k ≤ i ∧ ∀ q y, q < k → l[q]? = some y → ¬ (y.id = x.id ∨ (y.router = x.router ∧ y.a = x.a ∧ y.n = x.n))) (fun k => [(5, .int .i64 k), (4, pt b4), (3, .int .i64 i), (0, .slice A l.length c)]) (fun _ => [cel b4 TIf x.e]) (fun k => i - k) rfl 0 ⟨Nat.zero_le _, fun q y hq => by omega⟩ ⟨rfl, rfl, rfl, rfl, trivial⟩ rfl ?_
   rintro k ⟨hk, hno⟩
   rcases Nat.lt_or_ge k i with hki | hki
   ·obtain ⟨y, hy⟩ : ∃ y, l[k]? = some y := ⟨l[k], List.getElem?_eq_getElem (by omega)⟩
    dsimp only [IfQ.e]
    repeat' (first | refine SW ?_ | refine SD ?_ | exact HO_seg rfl rfl | refine S1 ?_ | (refine S2 ?_; intro _) | (refine S3 ?_; intro _ _) | (refine S4 ?_; intro _ _ _) | (refine HO_g 2 rfl ?_; first | apply HO_a1 rfl | apply HO_o1 rfl) | refine S5 ?_ | (intro hb; try replace hb := simB hb; try exact kill hb))
    have hiff : (decide (y.id = x.id) || decide (y.router = x.router) && (decide (((y.a : Nat) : Int) = (x.a : Nat)) && decide (y.n = x.n))) = true ↔ (y.id = x.id ∨ (y.router = x.router ∧ y.a = x.a ∧ y.n = x.n)) := by
     simp only [Bool.or_eq_true, Bool.and_eq_true, decide_eq_true_eq]
     omega
    refine HC_cond rfl rfl (fun hb => ?_) (fun hb => ?_)
    ·rw [ifs_dup hx hy hki (hiff.1 hb)]
     repeat' (first | refine SW ?_ | exact HO_seg rfl rfl | refine S1 ?_ | (refine S2 ?_; intro _) | (refine S3 ?_; intro _ _) | (refine S4 ?_; intro _ _ _) | (refine HO_g 2 rfl ?_; first | apply HO_a1 rfl | apply HO_o1 rfl) | refine S5 ?_ | (intro hb; try replace hb := simB hb; try exact kill hb))
     (refine SR ?_; unfold RetQ; refine ⟨(), trivial, ?_, Keeps.nil⟩)
     rfl
    ·have hnb : ¬ (y.id = x.id ∨ (y.router = x.router ∧ y.a = x.a ∧ y.n = x.n)) := fun h => by rw [hiff.2 h] at hb; cases hb
     repeat' (first | refine SW ?_ | exact HO_seg rfl rfl | refine S1 ?_ | (refine S2 ?_; intro _) | (refine S3 ?_; intro _ _) | (refine S4 ?_; intro _ _ _) | (refine HO_g 2 rfl ?_; first | apply HO_a1 rfl | apply HO_o1 rfl) | refine S5 ?_ | (intro hb; try replace hb := simB hb; try exact kill hb))
     exact HX_at (k + 1) ⟨⟨hki, fun q z hq hz => by
      rcases Nat.lt_or_ge q k with h | h
      ·exact hno q z h hz
      ·obtain rfl : q = k := by omega
       rw [hy] at hz
       injection hz with hz
       exact hz ▸ hnb⟩, by show i - (k + 1) < i - k; omega⟩ ⟨rfl, rfl, rfl, rfl, trivial⟩ rfl
   ·obtain rfl : k = i := by omega
    repeat' (first | refine SW ?_ | refine SD ?_ | exact HO_seg rfl rfl | refine S1 ?_ | (refine S2 ?_; intro _) | (refine S3 ?_; intro _ _) | (refine S4 ?_; intro _ _ _) | (refine HO_g 2 rfl ?_; first | apply HO_a1 rfl | apply HO_o1 rfl) | refine S5 ?_ | (intro hb; try replace hb := simB hb; try exact kill hb))
    refine HX_keeps (rw' := []) (Keeps.skip Keeps.nil) ?_
    refine HX_at (k + 1) ⟨⟨hlt, fun q y hq hy => ?_, ?_, ?_⟩, by show l.length - (k + 1) < l.length - k; omega⟩ ⟨rfl, rfl, trivial⟩ rfl
    ·rcases Nat.lt_or_ge q k with h | h
     ·exact hok q y h hy
     ·obtain rfl : q = k := by omega
      rw [hx] at hy
      injection hy with hy
      exact hy ▸ hx'
    ·refine (nodup_take _ k _ (ids_at hx)).2 ⟨hn1, fun q z hq hz e => ?_⟩
     obtain ⟨y, hy⟩ : ∃ y, l[q]? = some y := ⟨l[q], List.getElem?_eq_getElem (by omega)⟩
     rw [ids_at hy] at hz
     injection hz with hz
     exact hno q y hq hy (.inl (hz.trans e))
    ·refine (nodup_take _ k _ (nets_at hx)).2 ⟨hn2, fun q z hq hz e => ?_⟩
     obtain ⟨y, hy⟩ : ∃ y, l[q]? = some y := ⟨l[q], List.getElem?_eq_getElem (by omega)⟩
     rw [nets_at hy] at hz
     injection hz with hz
     have := hz.trans e
     injection this with g1 g2
     injection g2 with g2 g3
     exact hno q y hq hy (.inr ⟨g1, g2, g3⟩)
 ·obtain rfl : i = l.length := by omega
  have hall := ifs_all hok hn1 hn2
  rw [← hall]
  repeat' (first | refine SW ?_ | refine SD ?_ | exact HO_seg rfl rfl | refine S1 ?_ | (refine S2 ?_; intro _) | (refine S3 ?_; intro _ _) | (refine S4 ?_; intro _ _ _) | (refine HO_g 2 rfl ?_; first | apply HO_a1 rfl | apply HO_o1 rfl) | refine S5 ?_ | (intro hb; try replace hb := simB hb; try exact kill hb))
  (refine SR ?_; unfold RetQ; refine ⟨(), trivial, ?_, Keeps.nil⟩)
  rfl
end Go.Proofs.YtbhiojedmkcfoaaGreatDoor
