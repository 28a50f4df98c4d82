/- Part of a proof of many texts: what the theorem at its end leans on. -/
import Derived.Test.YtbhiojedmkcfoaaGreatDoorRMan
namespace Go.Proofs.YtbhiojedmkcfoaaGreatDoor
set_option linter.unusedVariables false
set_option linter.unusedSimpArgs false
open Go.RowKit
theorem zeroC_len (z : Array Value) (n : Nat) : (Builtin.zeroCells z n).toList.length = n * z.size := by simp [Builtin.zeroCells]
theorem zeroC_one {z : Array Value} {n : Nat} (h : ∀ v ∈ z.toList, v.oneCell' = true) (h0 : 0 < z.size) : ∀ v ∈ (Builtin.zeroCells z n).toList, v.oneCell' = true := by
 intro v hv
 simp only [Builtin.zeroCells, Array.toList_map, List.mem_map] at hv
 obtain ⟨i, _, rfl⟩ := hv
 have hi : i % z.size < z.size := Nat.mod_lt _ h0
 rw [getElem!_pos z _ hi]
 exact h _ (by simp)
section
variable {m : Md} {P : Program} {N : Nat} {w0 : World} {S0 : Foot} {ops : List Oper} {i : Nat} {lq : List Nat} {env : Env} {ro rw : List SL} {K : Act → World → Prop} {d : Nat} {ty : TypeId} {pos : String} {aft : Array Edge} {g : Option (Nat × Bool)}
theorem HO_unitv {o : Oper} {rw' : List SL} {v : Value} (ho : ops[i]? = some o) (hw : wantE ops env o.guard = some true) (hd : o.dst = none) (hs : soleB m ops i lq = true)
  (hv : ∀ w1 S1 a S w, Agree N env a → Fits w1 S1 ro rw S w → ∃ S' w', (execOp a.eval o).run P w = .ok (.value v) w' ∧ Fits w1 S1 ro rw' S' w')
  (h : HO (nmM m) P N w0 S0 ops lq env ro rw' K) : HO m P N w0 S0 ops (i :: lq) env ro rw K := by
 refine HO_do (α := Unit) (φ := fun _ => True) (val := fun _ => v) (rw' := fun _ => rw') ho hw hs (by simp only [dOk, hd]) (fun w1 S1 a S w n ha hf hn => ?_) (fun x hx => by simp only [dEnv, hd]; exact h)
 obtain ⟨S', w', hr, hf'⟩ := hv w1 S1 a S w ha hf
 unfold Oper.wp
 rw [hr, Oper.upon_value]
 exact hn () S' w' trivial hf'
theorem HO_clr {T e sz by_ k n c c2 sz' : Nat} {y : Operand} {A0 A2 : Option Addr} {z : Value} {xs : List (List Value)} {rw' : List SL} (q m2 : Nat) [hT : TySlice P T e] [hI : TyInfo P e sz by_] [hZ : TyZero P e z]
  (ho : ops[i]? = some ⟨none, .call { callee := .builtin .clear, args := #[y], argTypes := #[T] }, ty, pos, aft, g⟩) (hy : Env.ev env y = some (.slice A2 m2 c2))
  [hk : OwnAt rw A0 k e sz' n c xs] (hs' : Nat.beq sz sz' = true) (hm : m2 = n - q) (hq : q < n) (hA2 : A2 = A0.map (·.add (q * sz))) (hwf : WfL sz' xs) (hzs : Nat.beq z.cells.size sz = true) (hz1 : (cellsL z).all Value.oneCell' = true) (hsz : Nat.blt 0 sz = true)
  (hrw : setO rw k (own idE e sz' A0 q c (xs.take q)) = some rw') (hw : wantE ops env g = some true) (hs : soleB m ops i lq = true)
  (h : HO (nmM m) P N w0 S0 ops lq env ro rw' K) : HO m P N w0 S0 ops (i :: lq) env ro rw K := by
 have hs' := Nat.eq_of_beq_eq_true hs'
 subst hs'
 have hzs := Nat.eq_of_beq_eq_true hzs
 have hsz : 0 < sz := by simpa [Nat.blt_eq] using hsz
 have hrw := setO_eq hrw
 subst hrw
 subst hm
 refine HO_unitv (v := .tuple #[]) ho hw rfl hs (fun w1 S1 a S w ha hf => ?_) h
 obtain ⟨A, hA, hp, hss⟩ := set_get hk.h (own idE e sz A0 q c (xs.take q)) hf.star
 obtain ⟨hn, how, hS⟩ := hp
 obtain ⟨hlen, how2⟩ := how
 rcases how2 with ⟨_, hn0⟩ | ⟨gb, cap, cur, hv, hgb, hh, hnc, hcm, hcs, htk⟩
 ·omega
 injection hv with hA0 hnn hcc
 subst hA0
 have hSb : A gb := hS _ rfl
 have haddr : (⟨gb, 0, none⟩ : Addr).add (q * sz) = ⟨gb, q * sz, none⟩ := by rw [addr_add]; simp
 rw [Option.map_some, haddr] at hA2
 subst hA2
 have hxl : ∀ x ∈ xs, x.length = sz := fun x hx => (hwf x hx).1
 obtain ⟨vs, hvs⟩ : ∃ vs, (Builtin.zeroCells z.cells (n - q)).toList = vs := ⟨_, rfl⟩
 have hvl : vs.length = (n - q) * sz := by rw [← hvs, zeroC_len, hzs]
 have hv1 : ∀ v ∈ vs, v.oneCell' = true := by
  rw [← hvs]
  exact zeroC_one (fun v hv => List.all_eq_true.1 hz1 v (by rw [cellsL_eq] at hv; simpa using hv)) (by rw [hzs]; exact hsz)
 have hsum : q * sz + (n - q) * sz = n * sz := by rw [← Nat.add_mul]; congr 1; omega
 have hcsz : n * sz ≤ cur.size := by rw [hcs]; exact Nat.mul_le_mul_right _ hnc
 have hst := run_storeCells_at P gb (q * sz) e vs 0 cur w hh (by omega) hv1
 obtain ⟨ncur, hncur⟩ : ∃ nc, cur.toList.take (q * sz + 0) ++ vs ++ cur.toList.drop (q * sz + 0 + vs.length) = nc := ⟨_, rfl⟩
 rw [hncur] at hst
 have hcl : cur.toList.length = cur.size := Array.length_toList
 have hq1 : q * sz ≤ n * sz := Nat.mul_le_mul_right _ (by omega)
 have hnl : ncur.length = cur.size := by
  rw [← hncur, List.length_append, List.length_append, List.length_take, List.length_drop, hvl, hcl]
  omega
 have htk2 : ncur.take (q * sz) = (xs.take q).flatMap idE := by
  rw [← hncur, Nat.add_zero, List.append_assoc, List.take_append_of_le_length (by rw [List.length_take, hcl]; omega), List.take_take, Nat.min_self, flatMap_take xs q hxl, ← htk, List.take_take, Nat.min_eq_left hq1]
 have hfl : ((xs.take q).flatMap idE).length = q * sz := by rw [← htk2, List.length_take, hnl]; omega
 have hblk : ∀ c, c ≠ gb → (w.setRow gb ncur.toArray).heap[c]? = w.heap[c]? := fun c hc => setRow_other w gb c _ hc
 have hzz : (w.setRow gb ncur.toArray).heap.size = w.heap.size := by simp [World.setRow]
 refine ⟨S, w.setRow gb ncur.toArray, ?_, ⟨⟨hf.fr.os, hf.fr.tape, hf.fr.output, by rw [hzz]; exact hf.fr.size, fun c hc hn' => ?_⟩, fun c hc => by rw [hzz]; exact hf.lt c hc, hf.sub, ?_, fun e he => ?_⟩⟩
 ·have hzr := zero_run w hZ.h
  obtain ⟨p, hp⟩ : ∃ p, n - q = p + 1 := ⟨n - q - 1, by omega⟩
  rw [hp] at hy hvs
  have hvs' := hvs
  simp [execOp, resolve, invoke, builtin, Sem.run_bind, ha.ev hy, Builtin.clear_, run_underlying hT.h, hzr, hvs', hst]
 ·by_cases hcb : c = gb
  ·subst hcb
   exact absurd ((hf.sub c (hA c hSb)).resolve_left hn') (by omega)
  ·exact (hblk c hcb).trans (hf.fr.block c hc hn')
 ·exact hss _ (fun c hc hn' => by
   by_cases hcb : c = gb
   ·subst hcb; exact absurd hSb hn'
   ·exact hblk c hcb) ⟨by rw [List.length_take]; omega, ⟨hfl, .inr ⟨gb, cap, ncur.toArray, by rw [hcc], hgb, setRow_heap w gb cur _ e (0, 0) hh, by omega, hcm, by rw [List.size_toArray, hnl, hcs], by rw [List.toList_toArray]; exact htk2⟩⟩, hS⟩
 ·obtain ⟨F, hF, hpe⟩ := hf.ros e he
  refine ⟨F, fun c hc => ⟨by rw [hzz]; exact (hF c hc).1, (hF c hc).2⟩, e.st F w _ (fun c hc => ?_) hpe⟩
  by_cases hcb : c = gb
  ·subst hcb; exact absurd (hA c hSb) (hF c hc).2
  ·exact hblk c hcb
end
end Go.Proofs.YtbhiojedmkcfoaaGreatDoor
