/- Part of a proof of many texts: what the theorem at its end leans on. -/
import Derived.Test.YteeogabkkblkgaaGreatDoorVPeA
import Derived.Test.YteeogabkkblkgaaGreatDoorVKc
import Derived.Laws.CopyRow
namespace Go.Proofs.YteeogabkkblkgaaGreatDoor
set_option maxHeartbeats 1000000000
set_option linter.unusedVariables false
set_option linter.unusedSimpArgs false
open Go.RowKit
attribute [local irreducible] HC HX HO Tri eP adr
structure RgQ where
 A : Option Addr
 c : Nat
 l : List UInt8
 at_ : Nat
def rgL (x : RgQ) (n : Nat) : List UInt8 := (List.range n).map fun i => x.l.getD ((x.at_ + i) % x.l.length) 0
def RgOk (room : Nat) (b : List UInt8) (x : RgQ) : Prop := b.length ≤ room ∧ x.l.length ≤ room ∧ b.length ≤ x.l.length ∧ (0 < x.l.length → x.at_ < x.l.length) ∧ rgL x b.length = b
@[reducible] def quF (q : Nat) (room : Nat) (b : List UInt8) (x : RgQ) : List SL := [cel q 144 [.slice x.A x.l.length x.c, .int .i64 x.at_, .int .i64 b.length, .int .i64 room, .bool true], own idE 5 1 x.A x.l.length x.c (x.l.map bE)]
def quP (q : Nat) (room : Nat) (b : List UInt8) : SL := exP (RgOk room b) (quF q room b)
theorem qnew_t (room : Nat) (hr : room ≤ 65536) : Tri Tryz.prog 53 [.int .i64 room] [] [] (fun _ : Nat => True) (fun q => .tuple #[pt q, .int .i64 0]) (fun q => [quP q room []]) := by
 have h1 : ¬ (65536 : Int) < (room : Int) := by omega
 have h2 : ¬ (room : Int) < 0 := by omega
 refine Tri_in Tryz.func53 rfl (fun w0 S0 => ?_)
 repeat' (first | refine SD ?_ | refine SB ?_ | (refine S2 ?_; intro _) | fail)
 rename_i q
 (refine SRt ?_; unfold RetQ; refine ⟨q, trivial, rfl, (Keeps.close (RgQ.mk none 0 [] 0) ⟨Nat.zero_le _, Nat.zero_le _, Nat.le_refl _, fun h => absurd h (Nat.lt_irrefl _), rfl⟩ (Keeps.pick 0 rfl rfl (Keeps.add (fun w => own_nil w) Keeps.refl)))⟩)
theorem qlen_t (q room : Nat) (b : List UInt8) : Tri Tryz.prog 51 [pt q] [] [quP q room b] (fun _ : Unit => True) (fun _ => .int .i64 b.length) (fun _ => [quP q room b]) := by
 refine Tri_open (fun x hx => ?_)
 dsimp only [quF, lca, lna]
 refine Tri_in Tryz.func51 rfl (fun w0 S0 => ?_)
 repeat' (first | refine SB ?_ | fail)
 (refine SRt ?_; unfold RetQ; refine ⟨(), trivial, rfl, (Keeps.close x hx permA)⟩)
section
variable {m : Md} {P : Program} {N : Nat} {w0 : World} {S0 : Foot} {ops : List Oper} {i : Nat} {lq : List Nat} {env : Env} {ro rw : List SL} {K : Act → World → Prop} {d : Nat} {ty : TypeId} {pos : String} {aft : Array Edge} {g : Option (Nat × Bool)}
theorem HO_remN {T U : Nat} {x y : Operand} {k : IntKind} {p q : Int} (a b j : Nat) (ho : ops[i]? = some ⟨some d, .binOp .rem T x y U, ty, pos, aft, g⟩)
  (hx : Env.ev env x = some (.int k p)) (hy : Env.ev env y = some (.int k q)) (hp : p = (a : Int)) (hq : q = (b : Int)) (h0 : 0 < b) (hj : a % b = j) (hw : wantE ops env g = some true) (hN : Nat.blt d N = true) (hr : rdyB m ops i lq = true)
  (h : HO m P N w0 S0 ops lq ((d, .int k (j : Int)) :: env) ro rw K) : HO m P N w0 S0 ops (i :: lq) env ro rw K := by
 subst hp hq hj
 refine HO_val ho hw rfl hN hr (fun a' w ha hf => ?_) h
 have h1 : ((b : Nat) : Int) ≠ 0 := by omega
 have h2 : ¬ b = 0 := by omega
 have h3 : ((a : Nat) : Int).tmod (b : Int) = ((a % b : Nat) : Int) := rfl
 simp only [execOp, eqGuard, binOp, Op.intCmp, Op.intArith, Op.intBits, Op.intDiv, Sem.run_bind, ha.ev hx, ha.ev hy]
 simp [h2, h3]
theorem HO_mk0 {T e sz by_ : Nat} {z : Value} {x y : Operand} {k k' : IntKind} (c : Nat) [hT : TySlice P T e] [hI : TyInfo P e sz by_] [hZ : TyZero P e z]
  (ho : ops[i]? = some ⟨some d, .makeSlice T x y, ty, pos, aft, g⟩) (hx : Env.ev env x = some (.int k 0)) (hy : Env.ev env y = some (.int k' (c : Int))) (hb : c * by_ ≤ 281474976710656) (hb2 : c ≤ 9223372036854775807)
  (hw : wantE ops env g = some true) (hN : Nat.blt d N = true) (hs : soleB m ops i lq = true)
  (h : ∀ b : Nat, HO (nmM m) P N w0 S0 ops lq ((d, .slice (some ⟨b, 0, none⟩) 0 c) :: env) ro (own idE e sz (some ⟨b, 0, none⟩) 0 c [] :: rw) K) : HO m P N w0 S0 ops (i :: lq) env ro rw K := by
 refine HO_act_ex (α := Nat) (φ := fun _ => True) (v := fun b => .slice (some ⟨b, 0, none⟩) 0 c) (rw' := fun b => own idE e sz (some ⟨b, 0, none⟩) 0 c [] :: rw) ho hw rfl hN hs (fun w1 S1 a S w ha hf => ?_) (fun b _ => h b)
 have hI := hI.h
 have hz := hZ.h
 cases hin : P.info? e with
 | none => simp [hin] at hI
 | some inf =>
  simp [hin] at hI hz
  obtain ⟨w', hrun, how, hg⟩ := run_make_own (P := P) w 0 T e inf z sz hT.h hin hz hI.1 k k' c (by rw [hI.2, Nat.mul_comm]; exact hb) (by unfold maxLen; omega) (Nat.zero_le _)
  have hlt : w.heap.size < w'.heap.size := by
   rcases how.2 with ⟨hv, _⟩ | ⟨g', cap, cur, hv, _, hh, _⟩
   ·injection hv with hv; cases hv
   ·injection hv with hv
    injection hv with hv
    injection hv with hv
    subst hv
    rcases Nat.lt_or_ge w.heap.size w'.heap.size with h' | h'
    ·exact h'
    ·rw [Array.getElem?_eq_none h'] at hh; cases hh
  obtain ⟨T', hf'⟩ := hf.new (w' := w') ⟨hg.os, hg.tape, hg.output, hg.size, fun k hk => hg.block k hk (by simp)⟩ [own idE e sz (some ⟨w.heap.size, 0, none⟩) 0 c []] (fun b => b = w.heap.size) (fun b hb => by subst hb; exact ⟨Nat.le_refl _, hlt⟩)
   ⟨fun b => b = w.heap.size, fun _ => False, fun _ h => h, fun _ h => h.elim, fun _ _ h => h, ⟨rfl, how, fun ad hA => by injection hA with hA; rw [← hA]⟩, trivial⟩
  refine ⟨w.heap.size, T', w', trivial, ?_, by simpa using hf'⟩
  simp [execOp, Sem.run_bind, ha.ev hx, ha.ev hy, hrun]
end
theorem rgL_snoc (x : RgQ) (i : Nat) : rgL x (i + 1) = rgL x i ++ [x.l.getD ((x.at_ + i) % x.l.length) 0] := by
 unfold rgL
 rw [List.range_succ, List.map_append]
 rfl
theorem rgL_len (x : RgQ) (i : Nat) : (rgL x i).length = i := by simp [rgL]
theorem rgL_take (x : RgQ) {n k : Nat} (h : k ≤ n) : (rgL x n).take k = rgL x k := by
 unfold rgL
 rw [← List.map_take, List.take_range, Nat.min_eq_left h]
theorem qlook_t (q room : Nat) (b : List UInt8) (hr : room ≤ 65536) (n : Nat) (hn : n ≤ b.length) : Tri Tryz.prog 69 [pt q, .int .i64 n] [] [quP q room b] (fun _ : OA => True) (fun z => .slice z.1 (b.take n).length z.2) (fun z => [ownB z (b.take n), quP q room b]) := by
 refine Tri_open (fun x hx => ?_)
 obtain ⟨h1, h2, h3, h4, h5⟩ := id hx
 dsimp only [quF, lca, lna]
 refine Tri_in Tryz.func69 rfl (fun w0 S0 => ?_)
 repeat' (first | refine SX ?_ | (refine HO_k 14 rfl ?_; refine HO_mk0 n rfl rfl rfl (by omega) (by omega) rfl rfl soA ?_; intro _) | refine SB ?_ | (refine S2 ?_; intro _) | fail)
 rename_i bo
 have hbl : b.length ≤ 65536 := Nat.le_trans h1 hr
 refine HC_loop (α := Nat × OA) (fun y => y.1 ≤ n) (fun y => [(10, .int .i64 y.1), (9, .int .i64 n), (5, .slice y.2.1 (rgL x y.1).length y.2.2), (0, pt q)])
  (fun y => [own idE 5 1 y.2.1 (rgL x y.1).length y.2.2 ((rgL x y.1).map bE), cel q 144 [.slice x.A x.l.length x.c, .int .i64 x.at_, .int .i64 b.length, .int .i64 room, .bool true], own idE 5 1 x.A x.l.length x.c (x.l.map bE)])
  (fun y => n - y.1) rfl (0, (some ⟨bo, 0, none⟩, n)) (Nat.zero_le _) ⟨rfl, rfl, rfl, rfl, trivial⟩ rfl ?_
 rintro ⟨i, o⟩ hi
 dsimp only at hi ⊢
 rcases Nat.lt_or_ge i n with hlt | hge
 ·have hlt' : (i : Int) < (n : Int) := by omega
  have hpos : 0 < x.l.length := by omega
  have hat := h4 hpos
  obtain ⟨j, hj⟩ : ∃ j, (x.at_ + i) % x.l.length = j := ⟨_, rfl⟩
  have hjl : j < x.l.length := hj ▸ Nat.mod_lt _ hpos
  obtain ⟨e, he⟩ : ∃ e, x.l[j]? = some e := ⟨x.l[j], List.getElem?_eq_getElem hjl⟩
  have hsn : rgL x (i + 1) = rgL x i ++ [e] := by
   rw [rgL_snoc, hj, List.getD_eq_getElem?_getD, he]
   rfl
  have hln := rgL_len x i
  have hln2 : (rgL x i).length + 1 = (rgL x (i + 1)).length := by rw [rgL_len, rgL_len]
  have hmp : (rgL x i).map bE ++ [bE e] = (rgL x (i + 1)).map bE := by rw [hsn, List.map_append]; rfl
  obtain ⟨R, hR⟩ : ∃ R, rgL x i = R := ⟨_, rfl⟩
  rw [hR] at hln hln2 hmp ⊢
  dsimp only [bE] at hmp
  repeat' (first | refine SX ?_ | (refine HO_k 0 rfl ?_; refine HO_remN (x.at_ + i) x.l.length j rfl rfl rfl (by omega) rfl (by omega) hj rfl rfl rdA ?_) | (refine HO_k 10 rfl ?_; refine HO_holdA 1 rfl rfl ?_; refine HO_ixA rfl rfl rfl rfl wfA (by omega) (by omega) lenA rfl rfl rdA ?_) | (refine HO_k 11 rfl ?_; refine HO_appw rfl rfl rfl rfl rfl rfl rfl rfl ?h1 ?h2 rfl rfl ?h3 ?h4 rfl rfl rfl ?h5 ?_; (case h1 => simp only [List.length_append, List.length_map, List.length_cons, List.length_nil, be_length]); (case h2 => repeat (first | exact WfL.nil | exact WfL.map | refine WfL.cons rfl rfl ?_ | assumption)); (case h3 => (try simp only [List.length_append, List.length_map, List.length_cons, List.length_nil, be_length]); (try omega)); (case h4 => (try simp only [List.length_append, List.length_map, List.length_cons, List.length_nil, be_length]); (try omega)); (case h5 => exact soA); intro _ _) | refine SB ?_ | (refine S2 ?_; intro _) | fail)
  rename_i A' c'
  rw [hln2, hmp]
  refine HX_keeps (rw' := [own idE 5 1 (A', c').1 (rgL x (i + 1)).length (A', c').2 ((rgL x (i + 1)).map bE), cel q 144 [.slice x.A x.l.length x.c, .int .i64 x.at_, .int .i64 b.length, .int .i64 room, .bool true], own idE 5 1 x.A x.l.length x.c (x.l.map bE)]) permA ?_
  exact HX_at (i + 1, (A', c')) ⟨hlt, by show n - (i + 1) < n - i; omega⟩ ⟨rfl, rfl, rfl, rfl, trivial⟩ rfl
 ·obtain rfl : i = n := by omega
  have hlt' : ¬ (i : Int) < (i : Int) := by omega
  have hR : rgL x i = b.take i := by
   conv => rhs; rw [← h5]
   rw [rgL_take x hn]
  rw [hR]
  repeat' (first | refine SX ?_ | refine SB ?_ | (refine S2 ?_; intro _) | fail)
  (refine SRt ?_; unfold RetQ; refine ⟨o, trivial, rfl, (Keeps.pick 0 rfl rfl (Keeps.close x hx permA))⟩)
theorem one_map : ∀ {l : List (List Value)}, (∀ x ∈ l, x.length = 1) → ∃ m : List Value, l = m.map fun v => [v]
 | [], _ => ⟨[], rfl⟩
 | x :: l, h => by
  obtain ⟨m, hm⟩ := one_map (l := l) fun y hy => h y (List.mem_cons_of_mem _ hy)
  have hx := h x List.mem_cons_self
  match x, hx with
  | [v], _ => exact ⟨v :: m, by rw [hm]; rfl⟩
theorem flat_one : ∀ m : List Value, (m.map fun v => [v]).flatMap idE = m
 | [] => rfl
 | v :: m => by
  have := flat_one m
  simp only [List.map_cons, List.flatMap_cons, idE, List.cons_append, List.nil_append]
  exact congrArg _ this
theorem take_copy (cur m cs : List Value) (N o : Nat) (h : cur.take N = m) (hm : m.length = N) (hf : o + cs.length ≤ N) : (cur.take o ++ cs ++ cur.drop (o + cs.length)).take N = m.take o ++ (cs ++ m.drop (o + cs.length)) := by
 subst h
 have hN : N ≤ cur.length := by rw [List.length_take] at hm; omega
 apply List.ext_getElem?
 intro i
 simp only [List.getElem?_take, List.getElem?_append, List.getElem?_drop, List.length_take, List.length_append]
 repeat' split
 all_goals first
  | rfl
  | omega
  | (congr 1; omega)
  | (rw [List.getElem?_eq_none]; simp; omega)
section
variable {m : Md} {P : Program} {N : Nat} {w0 : World} {S0 : Foot} {ops : List Oper} {i : Nat} {lq : List Nat} {env : Env} {ro rw : List SL} {K : Act → World → Prop} {d : Nat} {ty : TypeId} {pos : String} {aft : Array Edge} {g : Option (Nat × Bool)}
theorem HO_copyW {T U e by_ n c n2 c2 b o N0 C0 : Nat} (k k2 : Nat) {A2 : Option Addr} {l l2 : List (List Value)} {x y : Operand} {rw' : List SL} [hT : TySlice P T e] [hI : TyInfo P e 1 by_]
  (ho : ops[i]? = some ⟨some d, .call { callee := .builtin .copy, args := #[x, y], argTypes := #[T, U] }, ty, pos, aft, g⟩) (hx : Env.ev env x = some (.slice (some ⟨b, o, none⟩) n c)) (hy : Env.ev env y = some (.slice A2 n2 c2))
  (hk : rw[k]? = some (own idE e 1 (some ⟨b, 0, none⟩) N0 C0 l)) (hwl : WfL 1 l) (hk2 : ∃ e, (ro ++ rw)[k2]? = some e ∧ Ent e (arr idE 1 A2 l2)) (hn2 : n2 = l2.length) (hwf : WfL 1 l2) (hle : n2 ≤ n) (hfit : o + n2 ≤ N0)
  (hrw : setO rw k (own idE e 1 (some ⟨b, 0, none⟩) N0 C0 (l.take o ++ (l2 ++ l.drop (o + n2)))) = some rw') (hw : wantE ops env g = some true) (hN : Nat.blt d N = true) (hs : soleB m ops i lq = true)
  (h : HO (nmM m) P N w0 S0 ops lq ((d, .int .i64 (n2 : Int)) :: env) ro rw' K) : HO m P N w0 S0 ops (i :: lq) env ro rw K := by
 have hrw := setO_eq hrw
 subst hrw
 obtain ⟨ml, hml⟩ := one_map fun x hx => (hwl x hx).1
 obtain ⟨m2, hm2⟩ := one_map fun x hx => (hwf x hx).1
 subst hml hm2
 have hm2l : m2.length = n2 := by rw [hn2, List.length_map]
 have hnew : (ml.map fun v => [v]).take o ++ ((m2.map fun v => [v]) ++ (ml.map fun v => [v]).drop (o + n2)) = (ml.take o ++ (m2 ++ ml.drop (o + n2))).map fun v => [v] := by
  simp only [List.map_append, List.map_take, List.map_drop]
 rw [hnew] at h
 refine HO_do (α := Unit) (φ := fun _ => True) (val := fun _ => goInt n2) (rw' := fun _ => rw.set k (own idE e 1 (some ⟨b, 0, none⟩) N0 C0 ((ml.take o ++ (m2 ++ ml.drop (o + n2))).map fun v => [v]))) ho hw hs (by simp only [dOk]; exact hN) (fun w1 S1 a S w nx ha hf hnx => ?_) (fun x hx => h)
 obtain ⟨e0, he0, hent⟩ := hk2
 obtain ⟨F, _, hp0⟩ := hf.see (List.mem_of_getElem? he0)
 have hsrc := hent _ _ hp0
 obtain ⟨A, hA, hp, hss⟩ := set_get hk (own idE e 1 (some ⟨b, 0, none⟩) N0 C0 ((ml.take o ++ (m2 ++ ml.drop (o + n2))).map fun v => [v])) hf.star
 obtain ⟨hn, how, hS⟩ := hp
 have hSb := hS _ rfl
 rw [List.length_map] at hn
 obtain ⟨hl1, how2⟩ := how
 rw [flat_one] at hl1 how2
 rcases how2 with ⟨hv, _⟩ | ⟨g', cap, cur, hv, _, hh, hnc, hcm, hcs, htk⟩
 ·injection hv with hv
  cases hv
 injection hv with hv1 _ hv3
 injection hv1 with hv1
 injection hv1 with hv1
 subst hv1 hv3
 rw [Nat.mul_one] at htk hcs
 have hI := hI.h
 have hone : ∀ v ∈ m2, v.oneCell' = true := fun v hv => by
  have := (hwf [v] (List.mem_map.2 ⟨v, hv, rfl⟩)).2
  simpa [oneB] using this
 obtain ⟨cur', hcur', hrun⟩ : ∃ cur' : Array Value, (cur'.size = cur.size ∧ cur'.toList.take N0 = ml.take o ++ (m2 ++ ml.drop (o + n2))) ∧ ∃ w', (Builtin.copy_ #[T, U] ty #[.slice (some ⟨b, o, none⟩) n c, .slice A2 n2 c2]).run P w = .ok (goInt n2) w' ∧ w'.heap[b]? = some (.cells cur' e (0, 0)) ∧ (∀ k, k ≠ b → w'.heap[k]? = w.heap[k]?) ∧ w'.heap.size = w.heap.size ∧ w'.os = w.os ∧ w'.tape = w.tape ∧ w'.output = w.output := by
  cases hin : P.info? e with
  | none => simp [hin] at hI
  | some inf =>
   simp [hin] at hI
   have hsz := run_sizeOf w hin
   cases m2 with
   | nil =>
    have hz : n2 = 0 := by simpa using hm2l.symm
    subst hz
    refine ⟨cur, ⟨rfl, by rw [htk]; simp⟩, w, ?_, hh, fun _ _ => rfl, rfl, rfl, rfl, rfl⟩
    cases A2 <;> simp [Builtin.copy_, Sem.run_bind, run_underlying hT.h, Builtin.lenOf, Builtin.firstCells, hsz, loadCells, loadCellsFrom, storeCells]
   | cons v0 m2' =>
    obtain ⟨ad, hA2, _, hc⟩ := hsrc (by simp)
    subst hA2
    have hfl : (v0 :: m2').length = n2 := hm2l
    have hr := run_copy_row P w T U ty e b o n c ad n2 c2 cur e (v0 :: m2') hT.h (by simp [hin, hI.1]) hh (by rw [hfl]; exact (Nat.min_eq_left hle).symm) (fun j v hj => by
     have := hc j [v] (by rw [List.getElem?_map, hj]; rfl) 0 v rfl
     simpa using this) (by rw [hfl, hcs]; omega) hone
    rw [hfl] at hr
    refine ⟨(cur.toList.take o ++ (v0 :: m2') ++ cur.toList.drop (o + n2)).toArray, ⟨?_, ?_⟩, _, hr, ?_, fun c hc => setRow_other w b c _ hc, ?_, rfl, rfl, rfl⟩
    ·simp only [List.size_toArray, List.length_append, List.length_take, List.length_drop, Array.length_toList, hfl]
     omega
    ·rw [List.toList_toArray]
     have := take_copy cur.toList ml (v0 :: m2') N0 o htk (by omega) (by rw [hfl]; exact hfit)
     rw [hfl] at this
     exact this
    ·rw [setRow_heap w b cur _ e (0, 0) hh]
    ·simp [World.setRow]
 obtain ⟨w', hrun, h2, h3, h4, h5, h6, h7⟩ := hrun
 have hst : Star (rw.set k (own idE e 1 (some ⟨b, 0, none⟩) N0 C0 ((ml.take o ++ (m2 ++ ml.drop (o + n2))).map fun v => [v]))) S w' := hss w' (fun c hc hn' => by
   by_cases hcb : c = b
   ·subst hcb; exact absurd hSb hn'
   ·exact h3 c hcb) ⟨by simp only [List.length_map, List.length_append, List.length_take, List.length_drop]; omega, ⟨by
    rw [flat_one, Nat.mul_one]
    simp only [List.length_append, List.length_take, List.length_drop]
    omega, .inr ⟨b, C0, cur', rfl, Nat.zero_le _, h2, hnc, hcm, by rw [hcur'.1, hcs, Nat.mul_one], by rw [flat_one, Nat.mul_one]; exact hcur'.2⟩⟩, fun ad hA => by injection hA with hA; rw [← hA]; exact hSb⟩
 unfold Oper.wp
 rw [show (execOp a.eval ⟨some d, .call { callee := .builtin .copy, args := #[x, y], argTypes := #[T, U] }, ty, pos, aft, g⟩).run P w = .ok (.value (goInt n2)) w' by
  simp [execOp, resolve, invoke, builtin, Sem.run_bind, ha.ev hx, ha.ev hy, hrun], Oper.upon_value]
 refine hnx () S w' trivial ⟨⟨h5.trans hf.fr.os, h6.trans hf.fr.tape, h7.trans hf.fr.output, by have := hf.fr.size; omega, fun c hc hn' => ?_⟩, fun c hc => by have := hf.lt c hc; omega, hf.sub, hst, fun e he => ?_⟩
 ·by_cases hcb : c = b
  ·subst hcb
   exact absurd ((hf.sub c (hA c hSb)).resolve_left hn') (by omega)
  ·exact (h3 c hcb).trans (hf.fr.block c hc hn')
 ·obtain ⟨F, hF, hpe⟩ := hf.ros e he
  refine ⟨F, fun c hc => ⟨by have := (hF c hc).1; omega, (hF c hc).2⟩, e.st F w _ (fun c hc => ?_) hpe⟩
  by_cases hcb : c = b
  ·subst hcb; exact absurd (hA c hSb) (hF c hc).2
  ·exact h3 c hcb
end
section
variable {m : Md} {P : Program} {N : Nat} {w0 : World} {S0 : Foot} {ops : List Oper} {i : Nat} {lq : List Nat} {env : Env} {ro rw : List SL} {K : Act → World → Prop} {d : Nat} {ty : TypeId} {pos : String} {aft : Array Edge} {g : Option (Nat × Bool)}
theorem HO_mxE {x y : Operand} {k k' : IntKind} {p q : Int} {tys : Array TypeId} (r : Int) (ho : ops[i]? = some ⟨some d, .call { callee := .builtin .max, args := #[x, y], argTypes := tys }, ty, pos, aft, g⟩)
  (hx : Env.ev env x = some (.int k p)) (hy : Env.ev env y = some (.int k' q)) (hrr : (if q > p then q else p) = r) (hw : wantE ops env g = some true) (hN : Nat.blt d N = true) (hr : rdyB m ops i lq = true)
  (h : HO m P N w0 S0 ops lq ((d, .int k r) :: env) ro rw K) : HO m P N w0 S0 ops (i :: lq) env ro rw K := by
 subst hrr
 exact HO_mx ho hx hy hw hN hr h
theorem HO_mnE {x y : Operand} {k k' : IntKind} {p q : Int} {tys : Array TypeId} (r : Int) (ho : ops[i]? = some ⟨some d, .call { callee := .builtin .min, args := #[x, y], argTypes := tys }, ty, pos, aft, g⟩)
  (hx : Env.ev env x = some (.int k p)) (hy : Env.ev env y = some (.int k' q)) (hrr : (if q < p then q else p) = r) (hw : wantE ops env g = some true) (hN : Nat.blt d N = true) (hr : rdyB m ops i lq = true)
  (h : HO m P N w0 S0 ops lq ((d, .int k r) :: env) ro rw K) : HO m P N w0 S0 ops (i :: lq) env ro rw K := by
 subst hrr
 exact HO_min ho hx hy hw hN hr h
end
def quG (q : Nat) (room : Nat) (b : List UInt8) (k : Nat) : SL := exP (fun x => RgOk room b x ∧ k ≤ x.l.length) (quF q room b)
theorem rg_new (A : Option Addr) (room M : Nat) (b : List UInt8) (h1 : b.length ≤ M) (h2 : M ≤ room) (h3 : 0 < M) : RgOk room b ⟨A, M, b ++ List.replicate (M - b.length) 0, 0⟩ := by
 have hl : (b ++ List.replicate (M - b.length) (0 : UInt8)).length = M := by simp; omega
 refine ⟨by omega, by show (b ++ _).length ≤ room; omega, by show _ ≤ (b ++ _).length; omega, fun _ => by show 0 < (b ++ _).length; omega, ?_⟩
 unfold rgL
 dsimp only
 rw [hl]
 apply List.ext_getElem?
 intro i
 rw [List.getElem?_map]
 by_cases hi : i < b.length
 ·rw [List.getElem?_range hi]
  simp only [Option.map_some, Nat.zero_add, Nat.mod_eq_of_lt (show i < M by omega), List.getD_eq_getElem?_getD, List.getElem?_append_left hi]
  rw [List.getElem?_eq_getElem hi]
  rfl
 ·rw [List.getElem?_eq_none (by simp; omega), List.getElem?_eq_none (by omega)]
  rfl
theorem qgrow_t (q room : Nat) (b : List UInt8) (hr : room ≤ 65536) (more : Nat) (hm : b.length + more ≤ room) :
  Tri Tryz.prog 109 [pt q, .int .i64 more] [] [quP q room b] (fun _ : Unit => True) (fun _ => .tuple #[]) (fun _ => [quG q room b (b.length + more)]) := by
 refine Tri_open (fun x hx => ?_)
 obtain ⟨h1, h2, h3, h4, h5⟩ := id hx
 dsimp only [quF, lca, lna]
 by_cases hk : b.length + more ≤ x.l.length
 ·have hkz : (b.length : Int) + (more : Int) ≤ (x.l.length : Int) := by omega
  refine Tri_in Tryz.func109 rfl (fun w0 S0 => ?_)
  repeat' (first | refine SX ?_ | refine SB ?_ | (refine S2 ?_; intro _) | fail)
  (refine SRt ?_; unfold RetQ; refine ⟨(), trivial, rfl, (Keeps.close (φ := fun x : RgQ => RgOk room b x ∧ b.length + more ≤ x.l.length) x ⟨hx, hk⟩ permA)⟩)
 have hkz : ¬ (b.length : Int) + (more : Int) ≤ (x.l.length : Int) := by omega
 have cl := qlook_t q room b hr b.length (Nat.le_refl _)
 rw [List.take_length] at cl
 obtain ⟨m1, hm1⟩ : ∃ m1 : Nat, (if (room : Int) < 2 * (x.l.length : Int) then (room : Int) else 2 * (x.l.length : Int)) = (m1 : Int) := by
  by_cases h : (room : Int) < 2 * (x.l.length : Int)
  ·exact ⟨room, by rw [if_pos h]⟩
  ·exact ⟨2 * x.l.length, by rw [if_neg h]; omega⟩
 have hm1r : m1 ≤ room := by
  by_cases h : (room : Int) < 2 * (x.l.length : Int)
  ·rw [if_pos h] at hm1; omega
  ·rw [if_neg h] at hm1; omega
 obtain ⟨M, hM⟩ : ∃ M : Nat, (if (m1 : Int) > (b.length : Int) + (more : Int) then (m1 : Int) else (b.length : Int) + (more : Int)) = (M : Int) := by
  by_cases h : (m1 : Int) > (b.length : Int) + (more : Int)
  ·exact ⟨m1, by rw [if_pos h]⟩
  ·exact ⟨b.length + more, by rw [if_neg h]; omega⟩
 have hMr : M ≤ room ∧ b.length + more ≤ M := by
  by_cases h : (m1 : Int) > (b.length : Int) + (more : Int)
  ·rw [if_pos h] at hM; omega
  ·rw [if_neg h] at hM; omega
 refine Tri_in Tryz.func109 rfl (fun w0 S0 => ?_)
 repeat' (first | refine SX ?_ | (refine HO_k 22 rfl ?_; refine HO_mnE m1 rfl rfl rfl hm1 rfl rfl rdA ?_) | (refine HO_k 19 rfl ?_; refine HO_mxE M rfl rfl rfl hM rfl rfl rdA ?_) | (refine KC ?_; refine HO_keeps (Keeps.close (f := quF q room b) x hx findA) ?_; refine HO_callP rfl rfl rfl rfl cl findA trivial rfl rfl soA ?_; intro z hz; dsimp only [lca, lna]) | refine SB ?_ | (refine S2 ?_; intro _) | fail)
 rename_i bn
 simp only [Int.toNat_natCast]
 refine HO_copyW 2 0 (l := List.replicate M [.int .u8 0]) (l2 := b.map bE) rfl rfl rfl rfl (fun y hy => by rw [List.eq_of_mem_replicate hy]; exact ⟨rfl, rfl⟩) ⟨_, rfl, own_wf WfL.map⟩ (List.length_map _).symm WfL.map (by omega) (by omega) rfl rfl rfl soA ?_
 refine S1 ?_
 refine S5n ?_
 refine HC_open 1 rfl rfl (fun x' hx' => ?_)
 dsimp only [quF, lca, lna]
 repeat' (first | refine SX ?_ | refine SB ?_ | (refine S2 ?_; intro _) | fail)
 have hrow : List.take 0 (List.replicate M [Value.int .u8 0]) ++ (b.map bE ++ List.drop (0 + b.length) (List.replicate M [Value.int .u8 0])) = (b ++ List.replicate (M - b.length) 0).map bE := by
  rw [List.take_zero, List.nil_append, Nat.zero_add, List.drop_replicate, List.map_append, List.map_replicate]
  rfl
 have hl : (b ++ List.replicate (M - b.length) (0 : UInt8)).length = M := by simp; omega
 rw [hrow]
 (refine SRt ?_; unfold RetQ; refine ⟨(), trivial, rfl, (Keeps.close (φ := fun x : RgQ => RgOk room b x ∧ b.length + more ≤ x.l.length) (RgQ.mk (some ⟨bn, 0, none⟩) M (b ++ List.replicate (M - b.length) 0) 0) ⟨rg_new _ room M b (by omega) hMr.1 (by omega), by rw [hl]; exact hMr.2⟩ (by dsimp only [quF, lca, lna]; rw [hl]; exact permA))⟩)
end Go.Proofs.YteeogabkkblkgaaGreatDoor
