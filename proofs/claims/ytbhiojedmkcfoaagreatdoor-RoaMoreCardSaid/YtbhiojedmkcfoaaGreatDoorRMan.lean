/- Part of a proof of many texts: what the theorem at its end leans on. -/
import Derived.Test.YtbhiojedmkcfoaaGreatDoorRKb
import Derived.Laws.CopyRow
namespace Go.Proofs.YtbhiojedmkcfoaaGreatDoor
set_option linter.unusedVariables false
set_option linter.unusedSimpArgs false
open Go.RowKit
section
variable {m : Md} {P : Program} {N : Nat} {w0 : World} {S0 : Foot} {ops : List Oper} {i : Nat} {lq : List Nat} {env : Env} {ro rw : List SL} {K : Act → World → Prop} {d : Nat} {op : Op} {ty : TypeId} {pos : String} {aft : Array Edge} {g : Option (Nat × Bool)}
theorem row_split {xs : List (List Value)} {q : Nat} {r : List Value} (h : xs[q]? = some r) : ∃ A B, xs = A ++ r :: B ∧ A.length = q := by
 have hq : q < xs.length := (List.getElem?_eq_some_iff.1 h).1
 have hv : xs[q] = r := (List.getElem?_eq_some_iff.1 h).2
 refine ⟨xs.take q, xs.drop (q + 1), ?_, by rw [List.length_take]; omega⟩
 rw [← hv, ← List.drop_eq_getElem_cons hq, List.take_append_drop]
theorem HO_stAn {x y : Operand} {T q sz k e n c sz' n' : Nat} {A0 : Option Addr} {v : Value} {row vs : List Value} {xs : List (List Value)} {rw' : List SL} [hT : TyAgg P T n']
  (ho : ops[i]? = some ⟨none, .store T x y, ty, pos, aft, g⟩) (hx : Env.ev env x = some (.pointer (some (eP (adr A0) q sz 0)))) (hy : Env.ev env y = some v) (hvs : v.cells = vs.toArray) (hvl : Nat.beq vs.length n' = true) (hn' : Nat.beq n' sz = true) (h1 : vs.all Value.oneCell' = true)
  [hk : OwnAt rw A0 k e sz' n c xs] (hs' : Nat.beq sz sz' = true) (hwf : WfL sz' xs) (hq : xs[q]? = some row)
  (hrw : setO rw k (own idE e sz' A0 n c (xs.set q vs)) = some rw') (hw : wantE ops env g = some true) (hs : soleB m ops i lq = true)
  (h : HO (nmM m) P N w0 S0 ops lq env ro rw' K) : HO m P N w0 S0 ops (i :: lq) env ro rw K := by
 have hs' := Nat.eq_of_beq_eq_true hs'
 subst hs'
 have hn' := Nat.eq_of_beq_eq_true hn'
 subst hn'
 have hvl := Nat.eq_of_beq_eq_true hvl
 have hrw := setO_eq hrw
 subst hrw
 refine HO_unit ho hw rfl hs (fun w1 S1 a S w ha hf => ?_) h
 obtain ⟨A, hA, hp, hss⟩ := set_get hk.h (own idE e n' A0 n c (xs.set q vs)) hf.star
 obtain ⟨hn, how, hS⟩ := hp
 have hql : q < xs.length := (List.getElem?_eq_some_iff.1 hq).1
 obtain ⟨hlen, how2⟩ := how
 rcases how2 with ⟨_, hn0⟩ | ⟨gb, cap, cur, hv, hgb, hh, hnc, hcm, hcs, htk⟩
 ·omega
 injection hv with hA0 hnn hcc
 subst hA0
 have hSb : A gb := hS _ rfl
 rw [show adr (some ⟨gb, 0, none⟩) = ⟨gb, 0, none⟩ from rfl] at hx
 have haddr : eP ⟨gb, 0, none⟩ q n' 0 = ⟨gb, q * n', none⟩ := by rw [eP_eq, addr_add]; simp
 rw [haddr] at hx
 have hxl : ∀ x ∈ xs, x.length = n' := fun x hx => (hwf x hx).1
 obtain ⟨XA, XB, hsp, hXA⟩ := row_split hq
 have hxA : ∀ x ∈ XA, x.length = n' := fun x hx => hxl x (by rw [hsp]; exact List.mem_append.2 (.inl hx))
 have hrl : row.length = n' := hxl row (List.mem_of_getElem? hq)
 have hAl : (XA.flatMap idE).length = q * n' := by rw [flatMap_len (enc := idE) XA hxA, hXA]
 have hflat : xs.flatMap idE = XA.flatMap idE ++ (row ++ XB.flatMap idE) := by rw [hsp, List.flatMap_append, List.flatMap_cons]; rfl
 have hset : (xs.set q vs).flatMap idE = XA.flatMap idE ++ (vs ++ XB.flatMap idE) := by
  rw [hsp, List.set_append_right _ _ (by omega), hXA, Nat.sub_self, List.set_cons_zero, List.flatMap_append, List.flatMap_cons]
  rfl
 obtain ⟨R, hR⟩ : ∃ R, cur.toList = xs.flatMap idE ++ R := ⟨cur.toList.drop (xs.flatMap idE).length, by
  conv => lhs; rw [← List.take_append_drop (xs.flatMap idE).length cur.toList]
  rw [hlen, htk]⟩
 have hlen2 : (xs.flatMap idE).length = q * n' + (n' + (XB.flatMap idE).length) := by rw [hflat, List.length_append, List.length_append, hAl, hrl]
 have hcl : cur.toList.length = q * n' + (n' + (XB.flatMap idE).length) + R.length := by rw [hR, List.length_append, hlen2]
 have hfit : q * n' + 0 + vs.length ≤ cur.size := by rw [← Array.length_toList, hcl, hvl]; omega
 have hst := run_storeCells_at P gb (q * n') e vs 0 cur w hh hfit (fun u hu => List.all_eq_true.1 h1 u hu)
 obtain ⟨ncur, hncur⟩ : ∃ nc, cur.toList.take (q * n' + 0) ++ vs ++ cur.toList.drop (q * n' + 0 + vs.length) = nc := ⟨_, rfl⟩
 rw [hncur] at hst
 have hnew : ncur = (xs.set q vs).flatMap idE ++ R := by
  have e1 : cur.toList = XA.flatMap idE ++ (row ++ (XB.flatMap idE ++ R)) := by rw [hR, hflat]; simp only [List.append_assoc]
  have e2 : cur.toList = (XA.flatMap idE ++ row) ++ (XB.flatMap idE ++ R) := by rw [e1]; simp only [List.append_assoc]
  have e3 : cur.toList.take (q * n') = XA.flatMap idE := by rw [e1]; exact List.take_left' hAl
  have e4 : cur.toList.drop (q * n' + n') = XB.flatMap idE ++ R := by rw [e2]; exact List.drop_left' (by rw [List.length_append, hAl, hrl])
  rw [← hncur, hset, Nat.add_zero, hvl, e3, e4]
  simp only [List.append_assoc]
 have hsl : ((xs.set q vs).flatMap idE).length = n * n' := by
  rw [← hlen, hset, List.length_append, List.length_append, hAl, hvl, hlen2]
 have hblk : ∀ c, c ≠ gb → (w.setRow gb ncur.toArray).heap[c]? = w.heap[c]? := fun c hc => setRow_other w gb c _ hc
 have hzz : (w.setRow gb ncur.toArray).heap.size = w.heap.size := by simp [World.setRow]
 refine ⟨S, w.setRow gb ncur.toArray, ?_, ⟨⟨hf.fr.os, hf.fr.tape, hf.fr.output, by rw [hzz]; exact hf.fr.size, fun c hc hn' => ?_⟩, fun c hc => by rw [hzz]; exact hf.lt c hc, hf.sub, ?_, fun e he => ?_⟩⟩
 ·simp only [execOp, Instr.storeAt, Instr.sureAddr, ha.ev hx, ha.ev hy, Sem.run_bind, Sem.run_pure, Result.andThen_ok, storeVar, size_agg w hT.h, hvs]
  simp [hvl, hst, Sem.run_bind]
 ·by_cases hcb : c = gb
  ·subst hcb
   exact absurd ((hf.sub c (hA c hSb)).resolve_left hn') (by omega)
  ·exact (hblk c hcb).trans (hf.fr.block c hc hn')
 ·exact hss _ (fun c hc hn' => by
   by_cases hcb : c = gb
   ·subst hcb; exact absurd hSb hn'
   ·exact hblk c hcb) ⟨by simpa using hn, ⟨hsl, .inr ⟨gb, cap, ncur.toArray, by rw [hnn, hcc], hgb, setRow_heap w gb cur _ e (0, 0) hh, by omega, hcm, by
    rw [← hcs, ← Array.length_toList, ← Array.length_toList, hcl, hnew, List.length_append, hsl, ← hlen, hlen2], by
    rw [List.toList_toArray, hnew]; exact List.take_left' hsl⟩⟩, hS⟩
 ·obtain ⟨F, hF, hpe⟩ := hf.ros e he
  refine ⟨F, fun c hc => ⟨by rw [hzz]; exact (hF c hc).1, (hF c hc).2⟩, e.st F w _ (fun c hc => ?_) hpe⟩
  by_cases hcb : c = gb
  ·subst hcb; exact absurd (hA c hSb) (hF c hc).2
  ·exact hblk c hcb
end
end Go.Proofs.YtbhiojedmkcfoaaGreatDoor
