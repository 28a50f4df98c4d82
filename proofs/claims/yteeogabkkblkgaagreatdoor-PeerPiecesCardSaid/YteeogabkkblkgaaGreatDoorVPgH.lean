/- Part of a proof of many texts: what the theorem at its end leans on. -/
import Derived.Test.YteeogabkkblkgaaGreatDoorVPgG
import Derived.Test.YteeogabkkblkgaaGreatDoorVPgB
import Derived.Test.YteeogabkkblkgaaGreatDoorVPeH
namespace Go.Proofs.YteeogabkkblkgaaGreatDoor
set_option maxHeartbeats 1000000000
set_option linter.unusedVariables false
set_option linter.unusedSimpArgs false
open Go.RowKit
attribute [local irreducible] HC HX HO Tri eP adr
theorem pdo_t (p t : Nat) (k now : Int) (x : PrQ) (hx : PrOk x) (hid : 0 ≤ x.lo.id ∧ x.lo.id ≤ 4294967295) :
  Tri Tryz.prog 20 [pt p, .int .i64 k, .int .i64 now] [leW] [peP p t x] (RsOk (doM now x k).2) (fun z => rsV (doM now x k).2 z) (fun z => rsP (doM now x k).2 z ++ [peP p t (doM now x k : PrQ × RsQ UpP).1]) := by
 by_cases hk : k = 1 ∨ k = 2 ∨ k = 3 ∨ k = 4 ∨ k = 10 ∨ k = 11 ∨ k = 12
 ·have e : (doM now x k : PrQ × RsQ UpP) = onM now x ⟨k, op0, nt0⟩ := by
   unfold doM onM
   by_cases hn : now < 0
   ·rw [if_pos hn, if_neg (fun h => by omega)]
   ·rw [if_neg hn, if_pos ⟨hk, by omega⟩]
  rw [e]
  have c1 := ponce_t p t now x hx hid ⟨k, op0, nt0⟩ none 0 (Nat.zero_le _)
  obtain ⟨⟨x2, r2⟩, hR⟩ : ∃ R, onM now x ⟨k, op0, nt0⟩ = R := ⟨_, rfl⟩
  rw [hR] at c1 ⊢
  rcases hk with rfl | rfl | rfl | rfl | rfl | rfl | rfl
  all_goals
   refine Tri_in Tryz.func20 rfl (fun w0 S0 => ?_)
   repeat' (first | refine SD ?_ | (refine KC ?_; refine HO_callP rfl rfl rfl rfl (c1) findA ((AllSrc.free (fun w => arr_nil _ w) (AllSrc.at_ 0 rfl trivial))) rfl rfl soA ?_; intro z hz; dsimp only [lca, lna]) | refine SB ?_ | (refine S2 ?_; intro _) | fail)
   (refine SRt ?_; unfold RetQ; refine ⟨z, hz, rfl, permA⟩)
 ·have e : (doM now x k : PrQ × RsQ UpP) = (x, rs0) := by
   unfold doM
   rw [if_neg (fun h => hk h.1)]
  rw [e]
  have k1 : ¬ k = 1 := fun h => hk (.inl h)
  have k2 : ¬ k = 2 := fun h => hk (.inr (.inl h))
  have k3 : ¬ k = 3 := fun h => hk (.inr (.inr (.inl h)))
  have k4 : ¬ k = 4 := fun h => hk (.inr (.inr (.inr (.inl h))))
  have k5 : ¬ k = 10 := fun h => hk (.inr (.inr (.inr (.inr (.inl h)))))
  have k6 : ¬ k = 11 := fun h => hk (.inr (.inr (.inr (.inr (.inr (.inl h))))))
  have k7 : ¬ k = 12 := fun h => hk (.inr (.inr (.inr (.inr (.inr (.inr h))))))
  clear hk
  refine Tri_in Tryz.func20 rfl (fun w0 S0 => ?_)
  repeat' (first | refine SD ?_ | refine SB ?_ | (refine S2 ?_; intro _) | fail)
  (refine SRt ?_; unfold RetQ; refine ⟨(⟨[], (none, 0), (none, 0)⟩ : RsZ), ⟨rfl, fun u hu => (by cases hu)⟩, rfl, (Keeps.add (fun w => own_nil w) (Keeps.add inn_nil (Keeps.add (fun w => own_nil w) permA)))⟩)
theorem pclo_t (p t : Nat) (now : Int) (x : PrQ) (hx : PrOk x) (hid : 0 ≤ x.lo.id ∧ x.lo.id ≤ 4294967295) (n : NtQ) (A : Option Addr) (c : Nat) (hd : n.d.length ≤ 1000000) :
  Tri Tryz.prog 24 [pt p, noV n A c, .int .i64 now] [arr bE 1 A n.d, leW] [peP p t x] (RsOk (closeM now x n).2) (fun z => rsV (closeM now x n).2 z) (fun z => rsP (closeM now x n).2 z ++ [peP p t (closeM now x n : PrQ × RsQ UpP).1]) := by
 have e : (closeM now x n : PrQ × RsQ UpP) = onM now x (badQ n) := by
  unfold closeM onM
  by_cases hn : now < 0
  ·rw [if_pos hn, if_neg (by omega)]
  ·rw [if_neg hn, if_pos (by omega)]
 rw [e]
 have c1 := ponce_t p t now x hx hid (badQ n) A c hd
 have c2 := pbad_t n A c
 obtain ⟨⟨x2, r2⟩, hR⟩ : ∃ R, onM now x (badQ n) = R := ⟨_, rfl⟩
 rw [hR] at c1 ⊢
 dsimp only [noV, badQ] at c1 c2 ⊢
 refine Tri_in Tryz.func24 rfl (fun w0 S0 => ?_)
 repeat' (first | (refine KC ?_; refine HO_callq rfl rfl rfl rfl (c2) (fun _ _ => rfl) (trivial) rfl rfl sqA ?_) | (refine KC ?_; refine HO_callP rfl rfl rfl rfl (c1) findA (srcsA) rfl rfl soA ?_; intro z hz; dsimp only [lca, lna]) | refine SB ?_ | (refine S2 ?_; intro _) | fail)
 (refine SRt ?_; unfold RetQ; refine ⟨z, hz, rfl, permA⟩)
def putM (x : PrQ) (ok : Bool) (b : List UInt8) : PrQ × Int := if x.st.ph ≠ 5 then (x, 1) else if ok = false then (x, 70) else ((sendM x 2 b).1, if (sendM x 2 b).2 = true then 0 else 2)
theorem upB_ok {four : Bool} {u : UpS} (h : upOk four false u = true) : msgOk 2 (upB four false u).length = true := by
 have h2 := (ok_parts h).2
 refine msgOk_iff.2 ⟨by decide, ?_, by omega, .inl (by decide)⟩
 show (23 : Int) ≤ 19 + ((upB four false u).length : Nat)
 unfold upB bodyB
 simp only [List.length_append, pcB_len]
 omega
theorem pputu_t (p t : Nat) (x : PrQ) (hx : PrOk x) (u : UpS) (hu : UpW u) :
  Tri Tryz.prog 17 [pt p, .agg u.e.toArray] (u.ro ++ [leW]) [peP p t x] (fun _ : Unit => True) (fun _ => .int .i64 (putM x (upOk x.st.four false u) (upB x.st.four false u)).2) (fun _ => [peP p t (putM x (upOk x.st.four false u) (upB x.st.four false u)).1]) := by
 have c0 := pmade_t p t x
 unfold putM
 refine Tri_open (fun w hw => ?_)
 dsimp only [peF, peC, UpS.e, UpS.ro, lca, lna]
 by_cases h5 : x.st.ph ≠ 5
 ·rw [if_pos h5]
  refine Tri_in Tryz.func17 rfl (fun w0 S0 => ?_)
  repeat' (first | refine SD ?_ | (refine KC ?_; refine HO_keeps ((Keeps.close (φ := fun _ : Nat × Nat => True) (f := peF p t x) w trivial findA)) ?_; refine HO_callP rfl rfl rfl rfl (c0) findA (trivial) rfl rfl soA ?_; intro u hu; dsimp only [lca, lna]) | (refine HO_open (β := Nat × Nat) 0 rfl rfl rfl (fun w hw => ?_); dsimp only [peF, peC, haF, rsC, rsP, lca, lna]) | refine SB ?_ | (refine S2 ?_; intro _) | fail)
  (refine SRt ?_; unfold RetQ; refine ⟨(), trivial, rfl, (Keeps.close (φ := fun _ : Nat × Nat => True) (f := peF p t x) w trivial permA)⟩)
 have h5 : x.st.ph = 5 := by omega
 rw [if_neg (by omega)]
 cases hok : upOk x.st.four false u with
 | false =>
  rw [if_pos rfl]
  have c1 := uput_bad u hu x.st.four false hok
  dsimp only [UpS.e, UpS.ro] at c1
  refine Tri_in Tryz.func17 rfl (fun w0 S0 => ?_)
  repeat' (first | refine SD ?_ | (refine KC ?_; refine HO_keeps ((Keeps.close (φ := fun _ : Nat × Nat => True) (f := peF p t x) w trivial findA)) ?_; refine HO_callP rfl rfl rfl rfl (c0) findA (trivial) rfl rfl soA ?_; intro u hu; dsimp only [lca, lna]) | (refine HO_open (β := Nat × Nat) 0 rfl rfl rfl (fun w hw => ?_); dsimp only [peF, peC, haF, rsC, rsP, lca, lna]) | (refine HC_lex rfl rfl (by decide +kernel) rfl rfl ?_; refine HO_names (l' := [0, 1, 2, 3, 4, 5, 6, 7, 8, 9, 10, 11, 12]) (by decide +kernel) ?_) | (refine HO_2p 6 10 (by decide +kernel) rfl rfl (by decide +kernel) ?_ ?_) | (refine KC ?_; refine HO_callP rfl rfl rfl rfl (c1) findA (srcsA) rfl rfl soA ?_; intro u hu; dsimp only [lca, lna]) | refine SB ?_ | (refine S2 ?_; intro _) | fail)
  all_goals (refine SRt ?_; unfold RetQ; refine ⟨(), trivial, rfl, (Keeps.close (φ := fun _ : Nat × Nat => True) (f := peF p t x) w trivial permA)⟩)
 | true =>
  rw [if_neg (by decide)]
  have c1 := uput_t u hu x.st.four false hok
  have hm := upB_ok hok
  have c2 := fun A c => psend_t p t x hx 2 A c (upB x.st.four false u) hm
  obtain ⟨B, hB⟩ : ∃ B, upB x.st.four false u = B := ⟨_, rfl⟩
  rw [hB] at c1 c2 ⊢
  obtain ⟨⟨x2, bo⟩, hS⟩ : ∃ S, sendM x 2 B = S := ⟨_, rfl⟩
  rw [hS] at c2 ⊢
  dsimp only [UpS.e, UpS.ro, mgV] at c1 c2 ⊢
  cases bo
  all_goals
   refine Tri_in Tryz.func17 rfl (fun w0 S0 => ?_)
   repeat' (first | refine SD ?_ | (refine KC ?_; refine HO_keeps ((Keeps.close (φ := fun _ : Nat × Nat => True) (f := peF p t x) w trivial findA)) ?_; refine HO_callP rfl rfl rfl rfl (c0) findA (trivial) rfl rfl soA ?_; intro u hu; dsimp only [lca, lna]) | (refine HO_open (β := Nat × Nat) 0 rfl rfl rfl (fun w hw => ?_); dsimp only [peF, peC, haF, rsC, rsP, lca, lna]) | (refine HC_lex rfl rfl (by decide +kernel) rfl rfl ?_; refine HO_names (l' := [0, 1, 2, 3, 4, 5, 6, 7, 8, 9, 10, 11, 12]) (by decide +kernel) ?_) | (refine HO_2p 6 10 (by decide +kernel) rfl rfl (by decide +kernel) ?_ ?_) | (refine KC ?_; refine HO_callP rfl rfl rfl rfl (c1) findA (srcsA) rfl rfl soA ?_; intro ⟨y1, y2⟩ hy; dsimp only [lca, lna]) | (refine KC ?_; refine HO_keeps ((Keeps.close (φ := fun _ : Nat × Nat => True) (f := peF p t x) w trivial findA)) ?_; refine HO_callP rfl rfl rfl rfl (c2 _ _) findA (srcsA) rfl rfl soA ?_; intro u hu; dsimp only [lca, lna]) | refine SB ?_ | (refine S2 ?_; intro _) | fail)
   all_goals (refine SRt ?_; unfold RetQ; refine ⟨(), trivial, rfl, (Keeps.close (φ := fun _ : Nat × Nat => True) (f := peF p t x2) w trivial permA)⟩)
@[reducible] def staV (s : Sta) : Value := .agg #[.int .i64 s.ph, .int .i64 s.hold, .bool s.four, .bool s.paths, .int .u32 s.id]
theorem pstate_t (p t : Nat) (x : PrQ) : Tri Tryz.prog 12 [pt p] [] [peP p t x] (fun _ : Unit => True) (fun _ => staV x.st) (fun _ => [peP p t x]) := by
 have c0 := pmade_t p t x
 refine Tri_open (fun w hw => ?_)
 dsimp only [peF, peC, lca, lna]
 refine Tri_in Tryz.func12 rfl (fun w0 S0 => ?_)
 repeat' (first | (refine KC ?_; refine HO_keeps ((Keeps.close (φ := fun _ : Nat × Nat => True) (f := peF p t x) w trivial findA)) ?_; refine HO_callP rfl rfl rfl rfl (c0) findA (trivial) rfl rfl soA ?_; intro u hu; dsimp only [lca, lna]) | (refine HO_open (β := Nat × Nat) 0 rfl rfl rfl (fun w hw => ?_); dsimp only [peF, peC, haF, rsC, rsP, lca, lna]) | refine SB ?_ | (refine S2 ?_; intro _) | fail)
 (refine SRt ?_; unfold RetQ; refine ⟨(), trivial, rfl, (Keeps.close (φ := fun _ : Nat × Nat => True) (f := peF p t x) w trivial permA)⟩)
theorem pnumber_t (p t : Nat) (x : PrQ) : Tri Tryz.prog 26 [pt p] [] [peP p t x] (fun _ : Unit => True) (fun _ => .int .i64 x.n) (fun _ => [peP p t x]) := by
 have c0 := pmade_t p t x
 refine Tri_open (fun w hw => ?_)
 dsimp only [peF, peC, lca, lna]
 refine Tri_in Tryz.func26 rfl (fun w0 S0 => ?_)
 repeat' (first | refine SB ?_ | fail)
 (refine SRt ?_; unfold RetQ; refine ⟨(), trivial, rfl, (Keeps.close (φ := fun _ : Nat × Nat => True) (f := peF p t x) w trivial permA)⟩)
theorem pwaiting_t (p t : Nat) (x : PrQ) : Tri Tryz.prog 25 [pt p] [] [peP p t x] (fun _ : Unit => True) (fun _ => .int .i64 x.q.length) (fun _ => [peP p t x]) := by
 have c0 := pmade_t p t x
 have c1 := fun q => qlen_t q x.room x.q
 refine Tri_open (fun w hw => ?_)
 dsimp only [peF, peC, lca, lna]
 refine Tri_in Tryz.func25 rfl (fun w0 S0 => ?_)
 repeat' (first | (refine KC ?_; refine HO_keeps ((Keeps.close (φ := fun _ : Nat × Nat => True) (f := peF p t x) w trivial findA)) ?_; refine HO_callP rfl rfl rfl rfl (c0) findA (trivial) rfl rfl soA ?_; intro u hu; dsimp only [lca, lna]) | (refine HO_open (β := Nat × Nat) 0 rfl rfl rfl (fun w hw => ?_); dsimp only [peF, peC, haF, rsC, rsP, lca, lna]) | (refine KC ?_; refine HO_callP rfl rfl rfl rfl (c1 _) findA (trivial) rfl rfl soA ?_; intro u hu; dsimp only [lca, lna]) | refine SB ?_ | fail)
 (refine SRt ?_; unfold RetQ; refine ⟨(), trivial, rfl, (Keeps.close (φ := fun _ : Nat × Nat => True) (f := peF p t x) w trivial permA)⟩)
theorem pout_t (p t : Nat) (x : PrQ) (hx : PrOk x) (n : Int) : Tri Tryz.prog 13 [pt p, .int .i64 n] [] [peP p t x] (fun _ : OA => True) (fun z => .slice z.1 (x.q.take (tkN n x.q.length)).length z.2) (fun z => [ownB z (x.q.take (tkN n x.q.length)), peP p t { x with q := x.q.drop (tkN n x.q.length) }]) := by
 have c0 := pmade_t p t x
 have c1 := fun q => qtake_t q x.room x.q hx.room n
 refine Tri_open (fun w hw => ?_)
 dsimp only [peF, peC, lca, lna]
 refine Tri_in Tryz.func13 rfl (fun w0 S0 => ?_)
 repeat' (first | (refine KC ?_; refine HO_keeps ((Keeps.close (φ := fun _ : Nat × Nat => True) (f := peF p t x) w trivial findA)) ?_; refine HO_callP rfl rfl rfl rfl (c0) findA (trivial) rfl rfl soA ?_; intro u hu; dsimp only [lca, lna]) | (refine HO_open (β := Nat × Nat) 0 rfl rfl rfl (fun w hw => ?_); dsimp only [peF, peC, haF, rsC, rsP, lca, lna]) | (refine KC ?_; refine HO_callP rfl rfl rfl rfl (c1 _) findA (trivial) rfl rfl soA ?_; intro ⟨y1, y2⟩ hu; dsimp only [lca, lna]) | refine SB ?_ | fail)
 (refine SRt ?_; unfold RetQ; refine ⟨(y1, y2), trivial, rfl, (Keeps.pick 0 rfl rfl (Keeps.close (φ := fun _ : Nat × Nat => True) (f := peF p t { x with q := x.q.drop (tkN n x.q.length) }) w trivial permA))⟩)
@[reducible] def nilV : Value := .pointer none
theorem nmade_t : Tri Tryz.prog 35 [nilV] [] [] (fun _ : Unit => True) (fun _ => .bool false) (fun _ => []) := by
 refine Tri_in Tryz.func35 rfl (fun w0 S0 => ?_)
 repeat' (first | refine SK ?_ | refine SB ?_ | fail)
 (refine SRt ?_; refine RU ?_)
 rfl
@[reducible] def rs0V : Value := .agg #[.slice none 0 0, .bool false, .bool false, .slice none 0 0, .bool false, .bool false]
theorem nonce_t (e : EvQ) (A : Option Addr) (c : Nat) (now : Int) : Tri Tryz.prog 49 [nilV, evV e A c, .int .i64 now] [] [] (fun _ : Unit => True) (fun _ => rs0V) (fun _ => []) := by
 refine Tri_in Tryz.func49 rfl (fun w0 S0 => ?_)
 repeat' (first | refine SK ?_ | (refine KC ?_; refine HO_callq rfl rfl rfl rfl (nmade_t) (fun _ _ => rfl) (trivial) rfl rfl sqA ?_) | refine SB ?_ | (refine S2 ?_; intro _) | fail)
 (refine SRt ?_; refine RU ?_)
 rfl
theorem ndo_t (k now : Int) : Tri Tryz.prog 20 [nilV, .int .i64 k, .int .i64 now] [] [] (fun _ : Unit => True) (fun _ => rs0V) (fun _ => []) := by
 have c1 := nonce_t ⟨k, op0, nt0⟩ none 0 now
 by_cases hk : k = 1 ∨ k = 2 ∨ k = 3 ∨ k = 4 ∨ k = 10 ∨ k = 11 ∨ k = 12
 ·rcases hk with rfl | rfl | rfl | rfl | rfl | rfl | rfl
  all_goals
   refine Tri_in Tryz.func20 rfl (fun w0 S0 => ?_)
   repeat' (first | refine SD ?_ | (refine KC ?_; refine HO_callq rfl rfl rfl rfl (c1) (fun _ _ => rfl) (trivial) rfl rfl sqA ?_) | refine SB ?_ | (refine S2 ?_; intro _) | fail)
   (refine SRt ?_; refine RU ?_)
   rfl
 ·have k1 : ¬ k = 1 := fun h => hk (.inl h)
  have k2 : ¬ k = 2 := fun h => hk (.inr (.inl h))
  have k3 : ¬ k = 3 := fun h => hk (.inr (.inr (.inl h)))
  have k4 : ¬ k = 4 := fun h => hk (.inr (.inr (.inr (.inl h))))
  have k5 : ¬ k = 10 := fun h => hk (.inr (.inr (.inr (.inr (.inl h)))))
  have k6 : ¬ k = 11 := fun h => hk (.inr (.inr (.inr (.inr (.inr (.inl h))))))
  have k7 : ¬ k = 12 := fun h => hk (.inr (.inr (.inr (.inr (.inr (.inr h))))))
  clear hk
  refine Tri_in Tryz.func20 rfl (fun w0 S0 => ?_)
  repeat' (first | refine SD ?_ | refine SB ?_ | (refine S2 ?_; intro _) | fail)
  (refine SRt ?_; refine RU ?_)
  rfl
theorem nclo_t (n : NtQ) (A : Option Addr) (c : Nat) (now : Int) : Tri Tryz.prog 24 [nilV, noV n A c, .int .i64 now] [] [] (fun _ : Unit => True) (fun _ => rs0V) (fun _ => []) := by
 have c1 := nonce_t (badQ n) A c now
 have c2 := pbad_t n A c
 dsimp only [noV, badQ] at c1 c2 ⊢
 refine Tri_in Tryz.func24 rfl (fun w0 S0 => ?_)
 repeat' (first | (refine KC ?_; refine HO_callq rfl rfl rfl rfl (c2) (fun _ _ => rfl) (trivial) rfl rfl sqA ?_) | (refine KC ?_; refine HO_callq rfl rfl rfl rfl (c1) (fun _ _ => rfl) (trivial) rfl rfl sqA ?_) | refine SB ?_ | (refine S2 ?_; intro _) | fail)
 (refine SRt ?_; refine RU ?_)
 rfl
theorem nfeed_t (A : Option Addr) (n c : Nat) (now : Int) : Tri Tryz.prog 10 [nilV, .slice A n c, .int .i64 now] [] [] (fun _ : Unit => True) (fun _ => rs0V) (fun _ => []) := by
 refine Tri_in Tryz.func10 rfl (fun w0 S0 => ?_)
 repeat' (first | refine SK ?_ | (refine KC ?_; refine HO_callq rfl rfl rfl rfl (nmade_t) (fun _ _ => rfl) (trivial) rfl rfl sqA ?_) | refine SB ?_ | (refine S2 ?_; intro _) | fail)
 (refine SRt ?_; refine RU ?_)
 rfl
theorem nput_p (u : UpS) : Tri Tryz.prog 17 [nilV, .agg u.e.toArray] [] [] (fun _ : Unit => True) (fun _ => .int .i64 6) (fun _ => []) := by
 dsimp only [UpS.e]
 refine Tri_in Tryz.func17 rfl (fun w0 S0 => ?_)
 repeat' (first | (refine KC ?_; refine HO_callq rfl rfl rfl rfl (nmade_t) (fun _ _ => rfl) (trivial) rfl rfl sqA ?_) | refine SB ?_ | (refine S2 ?_; intro _) | fail)
 (refine SRt ?_; refine RU ?_)
 rfl
theorem nout_t (n : Int) : Tri Tryz.prog 13 [nilV, .int .i64 n] [] [] (fun _ : Unit => True) (fun _ => .slice none 0 0) (fun _ => []) := by
 refine Tri_in Tryz.func13 rfl (fun w0 S0 => ?_)
 repeat' (first | (refine KC ?_; refine HO_callq rfl rfl rfl rfl (nmade_t) (fun _ _ => rfl) (trivial) rfl rfl sqA ?_) | refine SB ?_ | fail)
 (refine SRt ?_; refine RU ?_)
 rfl
theorem nwait_t : Tri Tryz.prog 25 [nilV] [] [] (fun _ : Unit => True) (fun _ => .int .i64 0) (fun _ => []) := by
 refine Tri_in Tryz.func25 rfl (fun w0 S0 => ?_)
 repeat' (first | (refine KC ?_; refine HO_callq rfl rfl rfl rfl (nmade_t) (fun _ _ => rfl) (trivial) rfl rfl sqA ?_) | refine SB ?_ | fail)
 (refine SRt ?_; refine RU ?_)
 rfl
theorem nstate_t : Tri Tryz.prog 12 [nilV] [] [] (fun _ : Unit => True) (fun _ => staV ⟨0, 0, false, false, 0⟩) (fun _ => []) := by
 refine Tri_in Tryz.func12 rfl (fun w0 S0 => ?_)
 repeat' (first | (refine KC ?_; refine HO_callq rfl rfl rfl rfl (nmade_t) (fun _ _ => rfl) (trivial) rfl rfl sqA ?_) | refine SB ?_ | (refine S2 ?_; intro _) | fail)
 (refine SRt ?_; refine RU ?_)
 rfl
theorem nnumber_t : Tri Tryz.prog 26 [nilV] [] [] (fun _ : Unit => True) (fun _ => .int .i64 0) (fun _ => []) := by
 refine Tri_in Tryz.func26 rfl (fun w0 S0 => ?_)
 repeat' (first | refine SB ?_ | fail)
 (refine SRt ?_; refine RU ?_)
 rfl
def newP (n : Int) (l : Loc) (room : Nat) (tm : TmM) : PrQ := ⟨n, l, ⟨1, 0, false, false, 0⟩, st0, [], room, tm⟩
def roomOk (room : Int) : Bool := decide (4096 ≤ room) && decide (room ≤ 65536)
@[reducible] def locV (l : Loc) : Value := .agg #[.int .i64 l.asn, .int .i64 l.hold, .int .u32 l.id, .bool l.four, .int .i64 l.paths, .int .i64 l.retry]
theorem pnew_no (n : Int) (l : Loc) (room : Int) (t : Nat) (h : (locOk l.asn l.hold l.id l.paths l.retry l.four && roomOk room) = false) : Tri Tryz.prog 28 [.int .i64 n, locV l, .int .i64 room, pt t] [] [] (fun e : Int => e ≠ 0) (fun e => .tuple #[nilV, .int .i64 e]) (fun _ => []) := by
 have c1 := fcheck_t l.asn l.hold l.id l.paths l.retry l.four
 cases hl : locOk l.asn l.hold l.id l.paths l.retry l.four with
 | false =>
  rw [hl, if_neg (by decide)] at c1
  obtain ⟨e, he⟩ : ∃ e : Int, (if openOk l.asn l.hold l.id l.paths l.four = true then 1 else 40) = e := ⟨_, rfl⟩
  have he0 : ¬ e = 0 := by rw [← he]; split <;> decide
  rw [he] at c1
  clear hl h
  refine Tri_in Tryz.func28 rfl (fun w0 S0 => ?_)
  repeat' (first | refine SK ?_ | refine SD ?_ | (refine KC ?_; refine HO_callq rfl rfl rfl rfl (c1) (fun _ _ => rfl) (trivial) rfl rfl sqA ?_) | refine SB ?_ | (refine S2 ?_; intro _) | fail)
  (refine SRt ?_; unfold RetQ; refine ⟨e, he0, rfl, Keeps.nil⟩)
 | true =>
  rw [hl, if_pos rfl] at c1
  rw [hl, Bool.true_and] at h
  unfold roomOk at h
  simp only [Bool.and_eq_false_iff, decide_eq_false_iff_not] at h
  clear hl
  by_cases h1 : room < 4096
  ·refine Tri_in Tryz.func28 rfl (fun w0 S0 => ?_)
   repeat' (first | refine SK ?_ | refine SD ?_ | (refine KC ?_; refine HO_callq rfl rfl rfl rfl (c1) (fun _ _ => rfl) (trivial) rfl rfl sqA ?_) | refine SB ?_ | (refine S2 ?_; intro _) | fail)
   (refine SRt ?_; unfold RetQ; refine ⟨(1 : Int), (by decide), rfl, Keeps.nil⟩)
  ·have h2 : room > 65536 := by omega
   clear h
   refine Tri_in Tryz.func28 rfl (fun w0 S0 => ?_)
   repeat' (first | refine SK ?_ | refine SD ?_ | (refine KC ?_; refine HO_callq rfl rfl rfl rfl (c1) (fun _ _ => rfl) (trivial) rfl rfl sqA ?_) | refine SB ?_ | (refine S2 ?_; intro _) | fail)
   (refine SRt ?_; unfold RetQ; refine ⟨(1 : Int), (by decide), rfl, Keeps.nil⟩)
theorem pnew_t (n : Int) (l : Loc) (room : Nat) (t : Nat) (tm : TmM) (hl : locOk l.asn l.hold l.id l.paths l.retry l.four = true) (hr : roomOk room = true) : Tri Tryz.prog 28 [.int .i64 n, locV l, .int .i64 room, pt t] [] [tmP t tm] (fun _ : Nat => True) (fun p => .tuple #[pt p, .int .i64 0]) (fun p => [peP p t (newP n l room tm)]) := by
 have c1 := fcheck_t l.asn l.hold l.id l.paths l.retry l.four
 rw [hl, if_pos rfl] at c1
 simp only [roomOk, Bool.and_eq_true, decide_eq_true_eq] at hr
 have h1 : ¬ (room : Int) < 4096 := by omega
 have h2 : ¬ (room : Int) > 65536 := by omega
 have c2 := qnew_t room (by omega)
 clear hl
 refine Tri_in Tryz.func28 rfl (fun w0 S0 => ?_)
 repeat' (first | refine SD ?_ | (refine KC ?_; refine HO_callq rfl rfl rfl rfl (c1) (fun _ _ => rfl) (trivial) rfl rfl sqA ?_) | (refine KC ?_; refine HO_callP rfl rfl rfl rfl (c2) findA (trivial) rfl rfl soA ?_; intro q hq; dsimp only [lca, lna]) | (refine HC_lex rfl rfl (by decide +kernel) rfl rfl ?_; refine HO_names (l' := [0, 1, 2, 3, 5, 4, 6, 7, 8, 9]) (by decide +kernel) ?_) | (refine KC ?_; refine HO_callP rfl rfl rfl rfl (snew_t) findA (trivial) rfl rfl soA ?_; intro s hs; dsimp only [lca, lna]) | refine SB ?_ | (refine S2 ?_; intro _) | fail)
 rename_i bp
 (refine SRt ?_; unfold RetQ; refine ⟨bp, trivial, rfl, (Keeps.close (φ := fun _ : Nat × Nat => True) (f := peF bp t (newP n l room tm)) (q, s) trivial permA)⟩)
end Go.Proofs.YteeogabkkblkgaaGreatDoor
