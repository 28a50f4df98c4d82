/- slices.Chunk of bytes by 4: its rounds. -/
import Derived.Test.YtdeeokkkcfkbjaaGreatAttP
import Derived.Test.YtdeeokkkcfkbjaaGreatEng13
import Derived.LoopIn
import Derived.LoopNIn
import Derived.TacticsInMore
import Derived.RegionIn
namespace Go.Proofs.YtdeeokkkcfkbjaaGreat
set_option linter.unusedVariables false
set_option linter.unusedSimpArgs false
open Go.RowKit

attribute [local go_sem] Oper.semAt_some

/-- the k-th four bytes of a slice -/
def chkV (A : Option Addr) (c k : Nat) : Value := .slice (cutA A 1 c (4 * k)) 4 4

set_option maxRecDepth 100000 in
set_option maxHeartbeats 1000000 in
theorem chunk_in (l b1 b2 T1 T2 : Nat) (A : Option Addr) (c m : Nat) (hm : 4 * m ≤ 1000000) (hc : 4 * m ≤ c) (J Jx : List (Fin m) → World → Prop)
    (hJ : ∀ s (W : World), J s W → J s W.drew)
    (hY : ∀ pre x W, J pre W → pre.length < m → YieldAt Fence.wide 1 Tryz.prog l #[chkV A c x.val] W fun e W' =>
      (e = .returned (.bool true) ∧ J (pre ++ [x]) W' ∧ KpB b1 b2 W W') ∨ (e = .returned (.bool false) ∧ Jx (pre ++ [x]) W'))
    (W : World) (h1 : W.heap[b1]? = some (.cells #[.slice A (4 * m) c] T1 (0, 0))) (h2 : W.heap[b2]? = some (.cells #[.int .i64 4] T2 (0, 0))) (h0 : J [] W) :
    CallsIn Fence.wide 2 Tryz.prog 119 #[.func (.yield l) #[] #[], .pointer (some ⟨b1, 0, none⟩), .pointer (some ⟨b2, 0, none⟩)] W fun e W' => (∃ v, e = .returned v) ∧
      ((∃ ys, ys = List.finRange m ∧ J ys W') ∨ (∃ pre, pre <+: List.finRange m ∧ Jx pre W')) := by
  refine callsIn_of_wp Tryz.func119 rfl trivial ?_ rfl
  simp only [Tryz.ntmps119, List.size_toArray, List.length_cons, List.length_nil, Nat.reduceAdd, Nat.reduceSub, Array.replicate_succ, Array.replicate_zero, List.push_toArray, List.append_toArray, List.nil_append, List.cons_append]
  gi_wp2
  gi_loopw [4] (fun p wr => ∃ (pre rest : List (Fin m)), p = .int .i64 (4 * pre.length : Nat) ∧ List.finRange m = pre ++ rest ∧ wr.heap[b1]? = some (.cells #[.slice A (4 * m) c] T1 (0, 0)) ∧ wr.heap[b2]? = some (.cells #[.int .i64 4] T2 (0, 0)) ∧ J pre wr)
    (fun p _ => match p with
      | .int _ q => 4 * m - q.toNat
      | _ => 0)
  case atStart =>
    exact ⟨[], List.finRange m, rfl, rfl, h1, h2, h0⟩
  case round =>
    obtain ⟨pre, rest, rfl, hx, hc1, hc2, hJs⟩ := hrel
    have hv1 : wr.cell? ⟨b1, 0, none⟩ = some (.slice A (4 * m) c) := by simp [World.cell?, hc1]
    have hv2 : wr.cell? ⟨b2, 0, none⟩ = some (.int .i64 4) := by simp [World.cell?, hc2]
    have hlen : pre.length + rest.length = m := by
      have := congrArg List.length hx
      simpa using this.symm
    cases rest with
    | nil =>
      simp at hlen
      gi_wp2
      go_end0
      exact ⟨⟨_, rfl⟩, .inl ⟨pre, by simp [hx], hJs⟩⟩
    | cons x rest =>
      simp at hlen
      have hxv : x.val = pre.length := by
        have h3 : (List.finRange m)[pre.length]? = some x := by rw [hx]; simp
        have h4 := (List.getElem?_eq_some_iff.1 h3).2
        simp at h4
        rw [← h4]
      obtain ⟨fn, tmps, assign, body, hy, hR⟩ := hY pre x wr.drew (hJ _ _ hJs) (by omega)
      have hcv : chkV A c x.val = .slice (A.map (fun y => y.add (4 * pre.length))) 4 4 := by
        unfold chkV cutA
        rw [hxv, if_neg (by omega), Nat.mul_one]
      rw [hcv] at hy
      gi_wp2
      gi_region
      have hd1 : wr.drew.cell? ⟨b1, 0, none⟩ = some (.slice A (4 * m) c) := hv1
      gi_wp2
      refine hR.mono ?_
      rintro e W3 (⟨rfl, hJ3, hk3⟩ | ⟨rfl, hJx3⟩)
      · have hw1 : W3.heap[b1]? = some (.cells #[.slice A (4 * m) c] T1 (0, 0)) := hk3.1.trans hc1
        have hw2 : W3.heap[b2]? = some (.cells #[.int .i64 4] T2 (0, 0)) := hk3.2.trans hc2
        have hv1' : W3.cell? ⟨b1, 0, none⟩ = some (.slice A (4 * m) c) := by simp [World.cell?, hw1]
        have hv2' : W3.cell? ⟨b2, 0, none⟩ = some (.int .i64 4) := by simp [World.cell?, hw2]
        gi_wp2
        go_roundw
        case rel => exact ⟨pre ++ [x], rest, by simp; omega, by simp [hx], hw1, hw2, hJ3⟩
        case measure => simp; omega
      · gi_wp2
        refine bodyPost_ret (results_none rfl _ _ _) rfl ?_
        exact ⟨⟨_, rfl⟩, .inr ⟨pre ++ [x], ⟨rest, by simp [hx]⟩, hJx3⟩⟩
end Go.Proofs.YtdeeokkkcfkbjaaGreat
