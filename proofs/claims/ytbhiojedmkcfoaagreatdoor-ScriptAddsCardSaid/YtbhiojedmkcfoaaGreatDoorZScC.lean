/- Part of a proof of many texts: what the theorem at its end leans on. -/
import Derived.Test.YtbhiojedmkcfoaaGreatDoorZScB
namespace Go.Proofs.YtbhiojedmkcfoaaGreatDoor
set_option linter.unusedVariables false
set_option linter.unusedSimpArgs false
open Go.RowKit
attribute [local irreducible] HC HX HO Tri eP adr
theorem sodd1_t (c : CntQ) (ha : c.a < 4294967296) : Tri Tryz.prog 212 [.agg c.e.toArray] [] [] (fun _ : Unit => True) (fun _ => .bool (!cntOk c)) (fun _ => []) := by
 have h1 := addrCheck_t c.a ha c.n
 have h2 := sfits_t c.k 4 (by decide) (by decide)
 dsimp only [pfV] at h1
 unfold cntOk
 cases hx : okX c.a c.n with
 | false =>
  rw [hx] at h1
  refine Tri_of (N := Tryz.f212.ntmps) (c := bodyOf Tryz.f212) Tryz.func212 rfl rfl rfl rfl (fun w0 S0 => ?_)
  dsimp only [CntQ.e]
  repeat' (first | refine SW ?_ | refine SD ?_ | ((refine HO_g 2 rfl ?_); (refine HO_skip rfl rfl rfl rfl rdA ?_)) | (refine HO_k 12 rfl ?_; refine HO_callq rfl rfl rfl rfl (h1) (fun _ _ => rfl) (trivial) rfl rfl sqA ?_) | (refine HO_k 12 rfl ?_; refine HO_callq rfl rfl rfl rfl (h2) (fun _ _ => rfl) (trivial) rfl rfl sqA ?_) | exact HO_seg rfl rfl | refine S1 ?_ | (refine S2 ?_; intro _) | (refine S3 ?_; intro _ _) | (refine S4 ?_; intro _ _ _) | (refine HO_g 2 rfl ?_; first | apply HO_a1 rfl | apply HO_o1 rfl) | refine S5 ?_ | (intro hb; try replace hb := simB hb; try exact kill hb))
  (refine SR ?_; unfold RetQ; refine ⟨(), trivial, ?_, Keeps.nil⟩)
  rfl
 | true =>
  rw [hx] at h1
  refine Tri_of (N := Tryz.f212.ntmps) (c := bodyOf Tryz.f212) Tryz.func212 rfl rfl rfl rfl (fun w0 S0 => ?_)
  dsimp only [CntQ.e]
  repeat' (first | refine SW ?_ | refine SD ?_ | (refine HO_k 12 rfl ?_; refine HO_callq rfl rfl rfl rfl (h1) (fun _ _ => rfl) (trivial) rfl rfl sqA ?_) | (refine HO_k 12 rfl ?_; refine HO_callq rfl rfl rfl rfl (h2) (fun _ _ => rfl) (trivial) rfl rfl sqA ?_) | exact HO_seg rfl rfl | refine S1 ?_ | (refine S2 ?_; intro _) | (refine S3 ?_; intro _ _) | (refine S4 ?_; intro _ _ _) | (refine HO_g 2 rfl ?_; first | apply HO_a1 rfl | apply HO_o1 rfl) | refine S5 ?_ | (intro hb; try replace hb := simB hb; try exact kill hb))
  (refine SR ?_; unfold RetQ; refine ⟨(), trivial, ?_, Keeps.nil⟩)
  rfl
theorem sodd2_t (c : CarQ) : Tri Tryz.prog 214 [.agg c.e.toArray] [] [] (fun _ : Unit => True) (fun _ => .bool (!carOk c)) (fun _ => []) := by
 have h1 := sfits_t c.i 4 (by decide) (by decide)
 have h2 := sfits_t c.c 4 (by decide) (by decide)
 unfold carOk
 rw [Bool.not_and]
 refine Tri_of (N := Tryz.f214.ntmps) (c := bodyOf Tryz.f214) Tryz.func214 rfl rfl rfl rfl (fun w0 S0 => ?_)
 dsimp only [CarQ.e]
 repeat' (first | refine SW ?_ | (refine HO_k 12 rfl ?_; refine HO_callq rfl rfl rfl rfl (h1) (fun _ _ => rfl) (trivial) rfl rfl sqA ?_) | (refine HO_k 12 rfl ?_; refine HO_callq rfl rfl rfl rfl (h2) (fun _ _ => rfl) (trivial) rfl rfl sqA ?_) | exact HO_seg rfl rfl | refine S1 ?_ | (refine S2 ?_; intro _) | (refine S3 ?_; intro _ _) | (refine S4 ?_; intro _ _ _) | (refine HO_g 2 rfl ?_; first | apply HO_a1 rfl | apply HO_o1 rfl) | refine S5 ?_ | (intro hb; try replace hb := simB hb; try exact kill hb))
 (refine SR ?_; unfold RetQ; refine ⟨(), trivial, ?_, Keeps.nil⟩)
 rfl
def i64R (n : Int) : Prop := -9223372036854775808 ≤ n ∧ n ≤ 9223372036854775807
def Or0 (a b : Int) : Prop := (a = 0 ∧ i64R b) ∨ (b = 0 ∧ i64R a)
theorem wrap_id {n : Int} (h : i64R n) : IntKind.i64.wrap ((BitVec.ofInt 64 n).toNat : Int) = n := by
 have h1 := h.1
 have h2 := h.2
 simp only [IntKind.wrap, IntKind.bits, IntKind.signed, BitVec.toNat_ofInt]
 simp
 omega
theorem or_add {a b : Int} (h : Or0 a b) : bOr .i64 a b = a + b := by
 rcases h with ⟨rfl, h⟩ | ⟨rfl, h⟩
 ·unfold bOr
  have e : BitVec.ofInt IntKind.i64.bits 0 ||| BitVec.ofInt IntKind.i64.bits b = BitVec.ofInt IntKind.i64.bits b := by simp
  rw [e, Int.zero_add]
  exact wrap_id h
 ·unfold bOr
  have e : BitVec.ofInt IntKind.i64.bits a ||| BitVec.ofInt IntKind.i64.bits 0 = BitVec.ofInt IntKind.i64.bits a := by simp
  rw [e, Int.add_zero]
  exact wrap_id h
theorem fit_add {w : Nat} {a b : Int} (h : Or0 a b) : fitW w (a + b) = (fitW w a && fitW w b) := by
 have h0 : fitW w 0 = true := fitW_iff.2 ⟨0, rfl, Nat.pow_pos (by decide)⟩
 rcases h with ⟨rfl, h⟩ | ⟨rfl, h⟩
 ·rw [Int.zero_add, h0, Bool.true_and]
 ·rw [Int.add_zero, h0, Bool.and_true]
theorem any_all {α : Type} (p : α → Bool) : ∀ l : List α, (l.any fun c => !p c) = !l.all p
 | [] => rfl
 | x :: l => by rw [List.any_cons, List.all_cons, any_all p l, Bool.not_and]
theorem le_dec (n k : Nat) : decide ((n : Int) ≤ (k : Nat)) = decide (n ≤ k) := decide_eq_decide.2 (by omega)
set_option maxHeartbeats 16000000 in
theorem ssmall_t (d : DoS) (hL : DoL d.q) (ha : ∀ c ∈ d.q.cl, c.a < 4294967296) (h1 : Or0 d.q.cs d.q.rs) (h2 : Or0 d.q.cq d.q.rq) : Tri Tryz.prog 177 [.agg d.e.toArray] d.ro [] (fun _ : Unit => True) (fun _ => .bool (smallQ d.q)) (fun _ => []) := by
 have f1 := sfits_t d.q.r 1 (by decide) (by decide)
 have f2 := sfits_t d.q.n 4 (by decide) (by decide)
 have f3 := sfits_t (d.q.cs + d.q.rs) 1 (by decide) (by decide)
 have f4 := sfits_t (d.q.cq + d.q.rq) 4 (by decide) (by decide)
 have o1 := or_add h1
 have o2 := or_add h2
 have g1 := containsC_t d.cA d.q.cl.length d.cc d.q.cl rfl hL.2.1 212 [] [] (fun c => !cntOk c) (fun x hx => sodd1_t x (ha x hx))
 have g2 := containsR_t d.rA d.q.rl.length d.rc d.q.rl rfl hL.2.2 214 [] [] (fun c => !carOk c) (fun x hx => sodd2_t x)
 rw [any_all] at g1 g2
 have e : smallQ d.q = ((((((fitW 1 d.q.r && fitW 4 d.q.n) && fitW 1 (d.q.cs + d.q.rs)) && fitW 4 (d.q.cq + d.q.rq)) && ((decide ((d.q.data.length : Int) ≤ 8192) && decide ((d.q.cl.length : Int) ≤ 255)) && decide ((d.q.rl.length : Int) ≤ 255))) && !!d.q.cl.all cntOk) && !!d.q.rl.all carOk) := by
  rw [fit_add h1, fit_add h2]
  have e1 := le_dec d.q.data.length 8192
  have e2 := le_dec d.q.cl.length 255
  have e3 := le_dec d.q.rl.length 255
  rw [show ((8192 : Nat) : Int) = 8192 from rfl] at e1
  rw [show ((255 : Nat) : Int) = 255 from rfl] at e2 e3
  rw [e1, e2, e3]
  unfold smallQ
  rw [Bool.eq_iff_iff]
  simp only [Bool.and_eq_true, Bool.not_not]
  constructor
  ·rintro ⟨⟨⟨⟨⟨⟨⟨⟨⟨⟨a, b⟩, c⟩, d⟩, e⟩, f⟩, g⟩, h⟩, i⟩, j⟩, k⟩
   exact ⟨⟨⟨⟨⟨⟨a, b⟩, ⟨d, f⟩⟩, ⟨e, g⟩⟩, ⟨⟨c, h⟩, i⟩⟩, j⟩, k⟩
  ·rintro ⟨⟨⟨⟨⟨⟨a, b⟩, ⟨d, f⟩⟩, ⟨e, g⟩⟩, ⟨⟨c, h⟩, i⟩⟩, j⟩, k⟩
   exact ⟨⟨⟨⟨⟨⟨⟨⟨⟨⟨a, b⟩, c⟩, d⟩, e⟩, f⟩, g⟩, h⟩, i⟩, j⟩, k⟩
 rw [e]
 refine Tri_of (N := Tryz.f177.ntmps) (c := bodyOf Tryz.f177) Tryz.func177 rfl rfl rfl rfl (fun w0 S0 => ?_)
 dsimp only [DoS.e, DoS.ro]
 repeat' (first | refine SW ?_ | (with_reducible refine HO_rw (congrArg (Value.int .i64) o1) ?_) | (with_reducible refine HO_rw (congrArg (Value.int .i64) o2) ?_) | (refine HO_k 12 rfl ?_; refine HO_callq rfl rfl rfl rfl (f1) (fun _ _ => rfl) (trivial) rfl rfl sqA ?_) | (refine HO_k 12 rfl ?_; refine HO_callq rfl rfl rfl rfl (f2) (fun _ _ => rfl) (trivial) rfl rfl sqA ?_) | (refine HO_k 12 rfl ?_; refine HO_callq rfl rfl rfl rfl (f3) (fun _ _ => rfl) (trivial) rfl rfl sqA ?_) | (refine HO_k 12 rfl ?_; refine HO_callq rfl rfl rfl rfl (f4) (fun _ _ => rfl) (trivial) rfl rfl sqA ?_) | (refine HO_k 12 rfl ?_; refine HO_callq rfl rfl rfl rfl (g1) (fun _ _ => rfl) (srcsA) rfl rfl sqA ?_) | (refine HO_k 12 rfl ?_; refine HO_callq rfl rfl rfl rfl (g2) (fun _ _ => rfl) (srcsA) rfl rfl sqA ?_) | exact HO_seg rfl rfl | refine S1 ?_ | (refine S2 ?_; intro _) | (refine S3 ?_; intro _ _) | (refine S4 ?_; intro _ _ _) | (refine HO_g 2 rfl ?_; first | apply HO_a1 rfl | apply HO_o1 rfl) | refine S5 ?_ | (intro hb; try replace hb := simB hb; try exact kill hb))
 (refine SR ?_; unfold RetQ; refine ⟨(), trivial, ?_, Keeps.nil⟩)
 rfl
def DoR (d : DoQ) : Prop := i64R d.cs ∧ i64R d.cq ∧ i64R d.rs ∧ i64R d.rq
theorem used_src (d : DoS) : AllSrc d.ro (d.ro ++ (usedS d).ro) := by
 refine ⟨.inl ⟨_, .head _, Ent.rfl_⟩, .inl ⟨_, .tail _ (.head _), Ent.rfl_⟩, .inl ⟨_, .tail _ (.tail _ (.head _)), Ent.rfl_⟩, ?_, ?_, ?_, trivial⟩
 ·by_cases h : d.q.k = 5
  ·simp only [usedS, usedQ, h, if_true]
   exact .inl ⟨_, .head _, Ent.rfl_⟩
  ·simp only [usedS, usedQ, h, if_false]
   exact .inr (fun w => arr_nil _ w)
 ·by_cases h : d.q.k = 8
  ·simp only [usedS, usedQ, h, if_true]
   exact .inl ⟨_, .tail _ (.head _), Ent.rfl_⟩
  ·simp only [usedS, usedQ, h, if_false]
   exact .inr (fun w => arr_nil _ w)
 ·by_cases h : d.q.k = 9
  ·simp only [usedS, usedQ, h, if_true]
   exact .inl ⟨_, .tail _ (.tail _ (.head _)), Ent.rfl_⟩
  ·simp only [usedS, usedQ, h, if_false]
   exact .inr (fun w => arr_nil _ w)
theorem used_L {d : DoQ} (h : DoL d) : DoL (usedQ d) := by
 obtain ⟨h1, h2, h3⟩ := h
 refine ⟨?_, ?_, ?_⟩
 ·simp only [usedQ]; split
  ·exact h1
  ·exact Nat.zero_le _
 ·simp only [usedQ]; split
  ·exact h2
  ·exact Nat.zero_le _
 ·simp only [usedQ]; split
  ·exact h3
  ·exact Nat.zero_le _
theorem used_or {d : DoQ} (hR : DoR d) (h : d = usedQ d) : Or0 d.cs d.rs ∧ Or0 d.cq d.rq := by
 obtain ⟨k, r, n, data, cs, cq, cl, rs, rq, rl⟩ := d
 obtain ⟨u1, u2, u3, u4, u5, u6, u7, u8, u9⟩ := used_eq h
 obtain ⟨r1, r2, r3, r4⟩ := hR
 dsimp only at *
 by_cases hk : k = 8
 ·have h9 : ¬ k = 9 := by omega
  rw [if_neg h9] at u7 u8
  exact ⟨.inr ⟨u7, r1⟩, .inr ⟨u8, r2⟩⟩
 ·rw [if_neg hk] at u4 u5
  exact ⟨.inl ⟨u4, r3⟩, .inl ⟨u5, r4⟩⟩
theorem one_k {d : DoQ} (h : ¬ (1 ≤ d.k ∧ d.k ≤ 9)) : oneQ d = false := by
 cases e : oneQ d with
 | false => rfl
 | true => exact absurd ⟨(oneQ_iff.1 e).k1, (oneQ_iff.1 e).k9⟩ h
theorem one_small {d : DoQ} (h : 1 ≤ d.k ∧ d.k ≤ 9) : oneQ d = (decide (d = usedQ d) && smallQ d) := by
 unfold oneQ
 rw [decide_eq_true h.1, decide_eq_true h.2]
 rfl
set_option maxHeartbeats 16000000 in
theorem sodd_t (d : DoS) (hL : DoL d.q) (ha : ∀ c ∈ d.q.cl, c.a < 4294967296) (hR : DoR d.q) : Tri Tryz.prog 116 [.agg d.e.toArray] d.ro [] (fun _ : Unit => True) (fun _ => .bool (!oneQ d.q)) (fun _ => []) := by
 by_cases hk : 1 ≤ d.q.k ∧ d.q.k ≤ 9
 ·have c1 := sused_t d hk
  have c2 := Tri_ro (sdo_t d (usedS d) hL (used_L hL)) (used_src d)
  rw [one_small hk]
  obtain ⟨hk1, hk9⟩ := hk
  obtain ⟨U, hU⟩ : ∃ U, usedS d = U := ⟨_, rfl⟩
  have hUq : U.q = usedQ d.q := by rw [← hU]; rfl
  rw [hU] at c1 c2
  rw [hUq] at c2
  by_cases hu : d.q = usedQ d.q
  ·obtain ⟨o1, o2⟩ := used_or hR hu
   have c3 := ssmall_t d hL ha o1 o2
   rw [decide_eq_true hu] at c2 ⊢
   dsimp only [DoS.e, DoS.ro] at c1 c2 c3
   refine Tri_of (N := Tryz.f116.ntmps) (c := bodyOf Tryz.f116) Tryz.func116 rfl rfl rfl rfl (fun w0 S0 => ?_)
   dsimp only [DoS.e, DoS.ro]
   repeat' (first | refine SW ?_ | refine SD ?_ | (refine HO_k 12 rfl ?_; refine HO_callq rfl rfl rfl rfl (c1) (fun _ _ => rfl) (trivial) rfl rfl sqA ?_) | (refine HO_k 12 rfl ?_; refine HO_callq rfl rfl rfl rfl (c2) (fun _ _ => rfl) (srcsA) rfl rfl sqA ?_) | (refine HO_k 12 rfl ?_; refine HO_callq rfl rfl rfl rfl (c3) (fun _ _ => rfl) (srcsA) rfl rfl sqA ?_) | exact HO_seg rfl rfl | refine S1 ?_ | (refine S2 ?_; intro _) | (refine S3 ?_; intro _ _) | (refine S4 ?_; intro _ _ _) | (refine HO_g 2 rfl ?_; first | apply HO_a1 rfl | apply HO_o1 rfl) | refine S5 ?_ | (intro hb; try replace hb := simB hb; try exact kill hb))
   (refine SR ?_; unfold RetQ; refine ⟨(), trivial, ?_, Keeps.nil⟩)
   rfl
  ·rw [decide_eq_false hu] at c2 ⊢
   dsimp only [DoS.e, DoS.ro] at c1 c2
   refine Tri_of (N := Tryz.f116.ntmps) (c := bodyOf Tryz.f116) Tryz.func116 rfl rfl rfl rfl (fun w0 S0 => ?_)
   dsimp only [DoS.e, DoS.ro]
   repeat' (first | refine SW ?_ | ((refine HO_g 2 rfl ?_); (refine HO_skip rfl rfl rfl rfl rdA ?_)) | refine SD ?_ | (refine HO_k 12 rfl ?_; refine HO_callq rfl rfl rfl rfl (c1) (fun _ _ => rfl) (trivial) rfl rfl sqA ?_) | (refine HO_k 12 rfl ?_; refine HO_callq rfl rfl rfl rfl (c2) (fun _ _ => rfl) (srcsA) rfl rfl sqA ?_) | exact HO_seg rfl rfl | refine S1 ?_ | (refine S2 ?_; intro _) | (refine S3 ?_; intro _ _) | (refine S4 ?_; intro _ _ _) | (refine HO_g 2 rfl ?_; first | apply HO_a1 rfl | apply HO_o1 rfl) | refine S5 ?_ | (intro hb; try replace hb := simB hb; try exact kill hb))
   (refine SR ?_; unfold RetQ; refine ⟨(), trivial, ?_, Keeps.nil⟩)
   rfl
 ·rw [one_k hk]
  by_cases h1 : d.q.k < 1
  ·refine Tri_of (N := Tryz.f116.ntmps) (c := bodyOf Tryz.f116) Tryz.func116 rfl rfl rfl rfl (fun w0 S0 => ?_)
   dsimp only [DoS.e, DoS.ro]
   repeat' (first | refine SW ?_ | ((refine HO_g 2 rfl ?_); (refine HO_skip rfl rfl rfl rfl rdA ?_)) | refine SD ?_ | exact HO_seg rfl rfl | refine S1 ?_ | (refine S2 ?_; intro _) | (refine S3 ?_; intro _ _) | (refine S4 ?_; intro _ _ _) | (refine HO_g 2 rfl ?_; first | apply HO_a1 rfl | apply HO_o1 rfl) | refine S5 ?_ | (intro hb; try replace hb := simB hb; try exact kill hb))
   (refine SR ?_; unfold RetQ; refine ⟨(), trivial, ?_, Keeps.nil⟩)
   rfl
  ·have h9 : 9 < d.q.k := by omega
   refine Tri_of (N := Tryz.f116.ntmps) (c := bodyOf Tryz.f116) Tryz.func116 rfl rfl rfl rfl (fun w0 S0 => ?_)
   dsimp only [DoS.e, DoS.ro]
   repeat' (first | refine SW ?_ | ((refine HO_g 2 rfl ?_); (refine HO_skip rfl rfl rfl rfl rdA ?_)) | refine SD ?_ | exact HO_seg rfl rfl | refine S1 ?_ | (refine S2 ?_; intro _) | (refine S3 ?_; intro _ _) | (refine S4 ?_; intro _ _ _) | (refine HO_g 2 rfl ?_; first | apply HO_a1 rfl | apply HO_o1 rfl) | refine S5 ?_ | (intro hb; try replace hb := simB hb; try exact kill hb))
   (refine SR ?_; unfold RetQ; refine ⟨(), trivial, ?_, Keeps.nil⟩)
   rfl
theorem rfit1_t (n : Int) (w : Nat) (h1 : 1 ≤ w) (h4 : w ≤ 4) : Tri Tryz.prog 211 [.int .i64 n, .int .i64 w] [] [] (fun _ : Unit => True) (fun _ => .bool (fitW w n)) (fun _ => []) := fits_t n w h1 h4
def headQ (d : DoQ) : Bool := (((((((((!fitW 1 d.r || !fitW 4 d.n) || decide ((8192 : Int) < d.data.length)) || !fitW 1 d.cs) || !fitW 4 d.cq) || !fitW 1 d.rs) || !fitW 4 d.rq) || decide ((255 : Int) < d.cl.length)) || decide ((255 : Int) < d.rl.length)))
theorem gt_dec (n k : Nat) : decide (((k : Nat) : Int) < (n : Int)) = !decide (n ≤ k) := by
 rw [← decide_not]
 exact decide_eq_decide.2 (by omega)
theorem small_head (d : DoQ) : smallQ d = (!headQ d && (d.cl.all cntOk && d.rl.all carOk)) := by
 have e1 := gt_dec d.data.length 8192
 have e2 := gt_dec d.cl.length 255
 have e3 := gt_dec d.rl.length 255
 rw [show ((8192 : Nat) : Int) = 8192 from rfl] at e1
 rw [show ((255 : Nat) : Int) = 255 from rfl] at e2 e3
 unfold headQ smallQ
 rw [e1, e2, e3]
 generalize fitW 1 d.r = a1
 generalize fitW 4 d.n = a2
 generalize decide (d.data.length ≤ 8192) = a3
 generalize fitW 1 d.cs = a4
 generalize fitW 4 d.cq = a5
 generalize fitW 1 d.rs = a6
 generalize fitW 4 d.rq = a7
 generalize decide (d.cl.length ≤ 255) = a8
 generalize decide (d.rl.length ≤ 255) = a9
 generalize d.cl.all cntOk = b1
 generalize d.rl.all carOk = b2
 rw [Bool.eq_iff_iff]
 simp only [Bool.and_eq_true, Bool.not_eq_true', Bool.or_eq_false_iff, Bool.not_eq_false']
 constructor
 ·rintro ⟨⟨⟨⟨⟨⟨⟨⟨⟨⟨a, b⟩, c⟩, d⟩, e⟩, f⟩, g⟩, h⟩, i⟩, j⟩, k⟩
  exact ⟨⟨⟨⟨⟨⟨⟨⟨⟨a, b⟩, c⟩, d⟩, e⟩, f⟩, g⟩, h⟩, i⟩, j, k⟩
 ·rintro ⟨⟨⟨⟨⟨⟨⟨⟨⟨a, b⟩, c⟩, d⟩, e⟩, f⟩, g⟩, h⟩, i⟩, j, k⟩
  exact ⟨⟨⟨⟨⟨⟨⟨⟨⟨⟨a, b⟩, c⟩, d⟩, e⟩, f⟩, g⟩, h⟩, i⟩, j⟩, k⟩
theorem all_no {α : Type} {p : α → Bool} {l : List α} {x : α} (h : x ∈ l) (hp : p x = false) : l.all p = false := by
 cases e : l.all p with
 | false => rfl
 | true => rw [List.all_eq_true] at e; rw [e x h] at hp; cases hp
theorem all_upto {α : Type} {p : α → Bool} {l : List α} (h : ∀ q, q < l.length → ∀ x, l[q]? = some x → p x = true) : l.all p = true := by
 rw [List.all_eq_true]
 intro x hx
 obtain ⟨q, hq⟩ := List.getElem?_of_mem hx
 exact h q (List.getElem?_eq_some_iff.1 hq).1 x hq
set_option maxHeartbeats 16000000 in
theorem r27small_t (d : DoS) (hL : DoL d.q) (ha : ∀ c ∈ d.q.cl, c.a < 4294967296) : Tri Tryz.prog 174 [.agg d.e.toArray] d.ro [] (fun _ : Unit => True) (fun _ => .bool (smallQ d.q)) (fun _ => []) := by
 have f1 := fun n => rfit1_t n 1 (by decide) (by decide)
 have f4 := fun n => rfit1_t n 4 (by decide) (by decide)
 rw [small_head]
 cases hh : headQ d.q with
 | true =>
  have hh' := hh
  unfold headQ at hh'
  refine Tri_of (N := Tryz.f174.ntmps) (c := bodyOf Tryz.f174) Tryz.func174 rfl rfl rfl rfl (fun w0 S0 => ?_)
  dsimp only [DoS.e, DoS.ro]
  repeat' (first | refine SW ?_ | (with_reducible refine HO_rw (congrArg Value.bool hh') ?_) | (refine HO_k 12 rfl ?_; refine HO_callq rfl rfl rfl rfl (f1 _) (fun _ _ => rfl) (trivial) rfl rfl sqA ?_) | (refine HO_k 12 rfl ?_; refine HO_callq rfl rfl rfl rfl (f4 _) (fun _ _ => rfl) (trivial) rfl rfl sqA ?_) | exact HO_seg rfl rfl | refine S1 ?_ | (refine S2 ?_; intro _) | (refine S3 ?_; intro _ _) | (refine S4 ?_; intro _ _ _) | (refine HO_g 2 rfl ?_; first | apply HO_a1 rfl | apply HO_o1 rfl) | refine S5 ?_ | (intro hb; try replace hb := simB hb; try exact kill hb))
  (refine SR ?_; unfold RetQ; refine ⟨(), trivial, ?_, Keeps.nil⟩)
  rfl
 | false =>
  have hh' := hh
  unfold headQ at hh'
  refine Tri_of (N := Tryz.f174.ntmps) (c := bodyOf Tryz.f174) Tryz.func174 rfl rfl rfl rfl (fun w0 S0 => ?_)
  dsimp only [DoS.e, DoS.ro]
  repeat' (first | refine SW ?_ | (with_reducible refine HO_rw (congrArg Value.bool hh') ?_) | (refine HO_k 12 rfl ?_; refine HO_callq rfl rfl rfl rfl (f1 _) (fun _ _ => rfl) (trivial) rfl rfl sqA ?_) | (refine HO_k 12 rfl ?_; refine HO_callq rfl rfl rfl rfl (f4 _) (fun _ _ => rfl) (trivial) rfl rfl sqA ?_) | exact HO_seg rfl rfl | refine S1 ?_ | (refine S2 ?_; intro _) | (refine S3 ?_; intro _ _) | (refine S4 ?_; intro _ _ _) | (refine HO_g 2 rfl ?_; first | apply HO_a1 rfl | apply HO_o1 rfl) | refine S5 ?_ | (intro hb; try replace hb := simB hb; try exact kill hb))
  rename_i bd
  refine HC_loop (α := Nat) (fun j => j ≤ d.q.cl.length ∧ ∀ q, q < j → ∀ x, d.q.cl[q]? = some x → cntOk x = true) (fun j => [(3, .int .i64 j), (1, pt bd)]) (fun _ => [cel bd TDo d.e]) (fun j => d.q.cl.length - j) rfl 0 ⟨Nat.zero_le _, fun q hq => by omega⟩ ⟨rfl, rfl, trivial⟩ rfl ?_
  intro j ⟨hj, hall⟩
  have hLc := hL.2.1
  have hLr := hL.2.2
  rcases Nat.lt_or_ge j d.q.cl.length with hlt | hge
  ·obtain ⟨x, hx⟩ : ∃ x, d.q.cl[j]? = some x := ⟨d.q.cl[j], List.getElem?_eq_getElem hlt⟩
   have hmem := List.mem_of_getElem? hx
   have g1 := rchk_t x.a (ha x hmem) x.n
   have g2 := f4 x.k
   dsimp only [pfV] at g1
   cases hc : cntOk x with
   | true =>
    have hc' := hc
    unfold cntOk at hc'
    rw [Bool.and_eq_true] at hc'
    rw [hc'.1] at g1
    rw [hc'.2] at g2
    dsimp only [DoS.e]
    repeat' (first | refine SW ?_ | refine SD ?_ | (refine HO_k 12 rfl ?_; refine HO_callq rfl rfl rfl rfl (g1) (fun _ _ => rfl) (trivial) rfl rfl sqA ?_) | (refine HO_k 12 rfl ?_; refine HO_callq rfl rfl rfl rfl (g2) (fun _ _ => rfl) (trivial) rfl rfl sqA ?_) | exact HO_seg rfl rfl | refine S1 ?_ | (refine S2 ?_; intro _) | (refine S3 ?_; intro _ _) | (refine S4 ?_; intro _ _ _) | (refine HO_g 2 rfl ?_; first | apply HO_a1 rfl | apply HO_o1 rfl) | refine S5 ?_ | (intro hb; try replace hb := simB hb; try exact kill hb))
    exact HX_at (j + 1) ⟨⟨hlt, fun q hq y hy => by
     rcases Nat.lt_or_ge q j with h | h
     ·exact hall q h y hy
     ·obtain rfl : q = j := by omega
      rw [hx] at hy
      injection hy with hy
      exact hy ▸ hc⟩, by omega⟩ ⟨rfl, rfl, trivial⟩ rfl
   | false =>
    rw [all_no hmem hc]
    have hc' := hc
    unfold cntOk at hc'
    dsimp only [DoS.e]
    cases hp : okX x.a x.n with
    | false =>
     rw [hp] at g1
     repeat' (first | refine SW ?_ | ((refine HO_g 2 rfl ?_); (refine HO_skip rfl rfl rfl rfl rdA ?_)) | refine SD ?_ | (refine HO_k 12 rfl ?_; refine HO_callq rfl rfl rfl rfl (g1) (fun _ _ => rfl) (trivial) rfl rfl sqA ?_) | (refine HO_k 12 rfl ?_; refine HO_callq rfl rfl rfl rfl (g2) (fun _ _ => rfl) (trivial) rfl rfl sqA ?_) | exact HO_seg rfl rfl | refine S1 ?_ | (refine S2 ?_; intro _) | (refine S3 ?_; intro _ _) | (refine S4 ?_; intro _ _ _) | (refine HO_g 2 rfl ?_; first | apply HO_a1 rfl | apply HO_o1 rfl) | refine S5 ?_ | (intro hb; try replace hb := simB hb; try exact kill hb))
     (refine SR ?_; unfold RetQ; refine ⟨(), trivial, ?_, Keeps.nil⟩)
     rfl
    | true =>
     rw [hp] at g1
     rw [hp, Bool.true_and] at hc'
     rw [hc'] at g2
     repeat' (first | refine SW ?_ | refine SD ?_ | (refine HO_k 12 rfl ?_; refine HO_callq rfl rfl rfl rfl (g1) (fun _ _ => rfl) (trivial) rfl rfl sqA ?_) | (refine HO_k 12 rfl ?_; refine HO_callq rfl rfl rfl rfl (g2) (fun _ _ => rfl) (trivial) rfl rfl sqA ?_) | exact HO_seg rfl rfl | refine S1 ?_ | (refine S2 ?_; intro _) | (refine S3 ?_; intro _ _) | (refine S4 ?_; intro _ _ _) | (refine HO_g 2 rfl ?_; first | apply HO_a1 rfl | apply HO_o1 rfl) | refine S5 ?_ | (intro hb; try replace hb := simB hb; try exact kill hb))
     (refine SR ?_; unfold RetQ; refine ⟨(), trivial, ?_, Keeps.nil⟩)
     rfl
  obtain rfl : j = d.q.cl.length := by omega
  rw [all_upto hall]
  clear hall hj hge
  dsimp only [DoS.e]
  repeat' (first | refine SW ?_ | refine SD ?_ | exact HO_seg rfl rfl | refine S1 ?_ | (refine S2 ?_; intro _) | (refine S3 ?_; intro _ _) | (refine S4 ?_; intro _ _ _) | (refine HO_g 2 rfl ?_; first | apply HO_a1 rfl | apply HO_o1 rfl) | refine S5 ?_ | (intro hb; try replace hb := simB hb; try exact kill hb))
  refine HC_loop (α := Nat) (fun j => j ≤ d.q.rl.length ∧ ∀ q, q < j → ∀ x, d.q.rl[q]? = some x → carOk x = true) (fun j => [(4, .int .i64 j), (1, pt bd)]) (fun _ => [cel bd TDo d.e]) (fun j => d.q.rl.length - j) rfl 0 ⟨Nat.zero_le _, fun q hq => by omega⟩ ⟨rfl, rfl, trivial⟩ rfl ?_
  intro j ⟨hj, hall⟩
  rcases Nat.lt_or_ge j d.q.rl.length with hlt | hge
  ·obtain ⟨x, hx⟩ : ∃ x, d.q.rl[j]? = some x := ⟨d.q.rl[j], List.getElem?_eq_getElem hlt⟩
   have hmem := List.mem_of_getElem? hx
   have g1 := f4 x.i
   have g2 := f4 x.c
   cases hc : carOk x with
   | true =>
    have hc' := hc
    unfold carOk at hc'
    rw [Bool.and_eq_true] at hc'
    rw [hc'.1] at g1
    rw [hc'.2] at g2
    dsimp only [DoS.e]
    repeat' (first | refine SW ?_ | refine SD ?_ | (refine HO_k 12 rfl ?_; refine HO_callq rfl rfl rfl rfl (g1) (fun _ _ => rfl) (trivial) rfl rfl sqA ?_) | (refine HO_k 12 rfl ?_; refine HO_callq rfl rfl rfl rfl (g2) (fun _ _ => rfl) (trivial) rfl rfl sqA ?_) | exact HO_seg rfl rfl | refine S1 ?_ | (refine S2 ?_; intro _) | (refine S3 ?_; intro _ _) | (refine S4 ?_; intro _ _ _) | (refine HO_g 2 rfl ?_; first | apply HO_a1 rfl | apply HO_o1 rfl) | refine S5 ?_ | (intro hb; try replace hb := simB hb; try exact kill hb))
    exact HX_at (j + 1) ⟨⟨hlt, fun q hq y hy => by
     rcases Nat.lt_or_ge q j with h | h
     ·exact hall q h y hy
     ·obtain rfl : q = j := by omega
      rw [hx] at hy
      injection hy with hy
      exact hy ▸ hc⟩, by omega⟩ ⟨rfl, rfl, trivial⟩ rfl
   | false =>
    rw [all_no hmem hc]
    have hc' := hc
    unfold carOk at hc'
    dsimp only [DoS.e]
    cases hp : fitW 4 x.i with
    | false =>
     rw [hp] at g1
     repeat' (first | refine SW ?_ | ((refine HO_g 2 rfl ?_); (refine HO_skip rfl rfl rfl rfl rdA ?_)) | refine SD ?_ | (refine HO_k 12 rfl ?_; refine HO_callq rfl rfl rfl rfl (g1) (fun _ _ => rfl) (trivial) rfl rfl sqA ?_) | (refine HO_k 12 rfl ?_; refine HO_callq rfl rfl rfl rfl (g2) (fun _ _ => rfl) (trivial) rfl rfl sqA ?_) | exact HO_seg rfl rfl | refine S1 ?_ | (refine S2 ?_; intro _) | (refine S3 ?_; intro _ _) | (refine S4 ?_; intro _ _ _) | (refine HO_g 2 rfl ?_; first | apply HO_a1 rfl | apply HO_o1 rfl) | refine S5 ?_ | (intro hb; try replace hb := simB hb; try exact kill hb))
     (refine SR ?_; unfold RetQ; refine ⟨(), trivial, ?_, Keeps.nil⟩)
     rfl
    | true =>
     rw [hp] at g1
     rw [hp, Bool.true_and] at hc'
     rw [hc'] at g2
     repeat' (first | refine SW ?_ | refine SD ?_ | (refine HO_k 12 rfl ?_; refine HO_callq rfl rfl rfl rfl (g1) (fun _ _ => rfl) (trivial) rfl rfl sqA ?_) | (refine HO_k 12 rfl ?_; refine HO_callq rfl rfl rfl rfl (g2) (fun _ _ => rfl) (trivial) rfl rfl sqA ?_) | exact HO_seg rfl rfl | refine S1 ?_ | (refine S2 ?_; intro _) | (refine S3 ?_; intro _ _) | (refine S4 ?_; intro _ _ _) | (refine HO_g 2 rfl ?_; first | apply HO_a1 rfl | apply HO_o1 rfl) | refine S5 ?_ | (intro hb; try replace hb := simB hb; try exact kill hb))
     (refine SR ?_; unfold RetQ; refine ⟨(), trivial, ?_, Keeps.nil⟩)
     rfl
  obtain rfl : j = d.q.rl.length := by omega
  rw [all_upto hall]
  dsimp only [DoS.e]
  repeat' (first | refine SW ?_ | refine SD ?_ | exact HO_seg rfl rfl | refine S1 ?_ | (refine S2 ?_; intro _) | (refine S3 ?_; intro _ _) | (refine S4 ?_; intro _ _ _) | (refine HO_g 2 rfl ?_; first | apply HO_a1 rfl | apply HO_o1 rfl) | refine S5 ?_ | (intro hb; try replace hb := simB hb; try exact kill hb))
  (refine SR ?_; unfold RetQ; refine ⟨(), trivial, ?_, Keeps.nil⟩)
  rfl
set_option maxHeartbeats 16000000 in
theorem rone_t (d : DoS) (hL : DoL d.q) (ha : ∀ c ∈ d.q.cl, c.a < 4294967296) : Tri Tryz.prog 114 [.agg d.e.toArray] d.ro [] (fun _ : Unit => True) (fun _ => .bool (oneQ d.q)) (fun _ => []) := by
 by_cases hk : 1 ≤ d.q.k ∧ d.q.k ≤ 9
 ·have c1 := rused_t d hk
  have c2 := Tri_ro (rdo_t d (usedS d) hL (used_L hL)) (used_src d)
  have c3 := r27small_t d hL ha
  rw [one_small hk]
  obtain ⟨hk1, hk9⟩ := hk
  obtain ⟨U, hU⟩ : ∃ U, usedS d = U := ⟨_, rfl⟩
  have hUq : U.q = usedQ d.q := by rw [← hU]; rfl
  rw [hU] at c1 c2
  rw [hUq] at c2
  dsimp only [DoS.e, DoS.ro] at c1 c2 c3
  refine Tri_of (N := Tryz.f114.ntmps) (c := bodyOf Tryz.f114) Tryz.func114 rfl rfl rfl rfl (fun w0 S0 => ?_)
  dsimp only [DoS.e, DoS.ro]
  repeat' (first | refine SW ?_ | refine SD ?_ | (refine HO_k 12 rfl ?_; refine HO_callq rfl rfl rfl rfl (c1) (fun _ _ => rfl) (trivial) rfl rfl sqA ?_) | (refine HO_k 12 rfl ?_; refine HO_callq rfl rfl rfl rfl (c2) (fun _ _ => rfl) (srcsA) rfl rfl sqA ?_) | (refine HO_k 12 rfl ?_; refine HO_callq rfl rfl rfl rfl (c3) (fun _ _ => rfl) (srcsA) rfl rfl sqA ?_) | exact HO_seg rfl rfl | refine S1 ?_ | (refine S2 ?_; intro _) | (refine S3 ?_; intro _ _) | (refine S4 ?_; intro _ _ _) | (refine HO_g 2 rfl ?_; first | apply HO_a1 rfl | apply HO_o1 rfl) | refine S5 ?_ | (intro hb; try replace hb := simB hb; try exact kill hb))
  (refine SR ?_; unfold RetQ; refine ⟨(), trivial, ?_, Keeps.nil⟩)
  rfl
 ·rw [one_k hk]
  by_cases h1 : d.q.k < 1
  ·refine Tri_of (N := Tryz.f114.ntmps) (c := bodyOf Tryz.f114) Tryz.func114 rfl rfl rfl rfl (fun w0 S0 => ?_)
   dsimp only [DoS.e, DoS.ro]
   repeat' (first | refine SW ?_ | ((refine HO_g 2 rfl ?_); (refine HO_skip rfl rfl rfl rfl rdA ?_)) | refine SD ?_ | exact HO_seg rfl rfl | refine S1 ?_ | (refine S2 ?_; intro _) | (refine S3 ?_; intro _ _) | (refine S4 ?_; intro _ _ _) | (refine HO_g 2 rfl ?_; first | apply HO_a1 rfl | apply HO_o1 rfl) | refine S5 ?_ | (intro hb; try replace hb := simB hb; try exact kill hb))
   (refine SR ?_; unfold RetQ; refine ⟨(), trivial, ?_, Keeps.nil⟩)
   rfl
  ·have h9 : 9 < d.q.k := by omega
   refine Tri_of (N := Tryz.f114.ntmps) (c := bodyOf Tryz.f114) Tryz.func114 rfl rfl rfl rfl (fun w0 S0 => ?_)
   dsimp only [DoS.e, DoS.ro]
   repeat' (first | refine SW ?_ | ((refine HO_g 2 rfl ?_); (refine HO_skip rfl rfl rfl rfl rdA ?_)) | refine SD ?_ | exact HO_seg rfl rfl | refine S1 ?_ | (refine S2 ?_; intro _) | (refine S3 ?_; intro _ _) | (refine S4 ?_; intro _ _ _) | (refine HO_g 2 rfl ?_; first | apply HO_a1 rfl | apply HO_o1 rfl) | refine S5 ?_ | (intro hb; try replace hb := simB hb; try exact kill hb))
   (refine SR ?_; unfold RetQ; refine ⟨(), trivial, ?_, Keeps.nil⟩)
   rfl
end Go.Proofs.YtbhiojedmkcfoaaGreatDoor
