/- Part of a proof of many texts: what the theorem at its end leans on. -/
import Derived.Test.YtbhiojedmkcfoaaGreatDoorZScB
import Derived.Test.YtbhiojedmkcfoaaGreatDoorZScP
import Derived.Test.YtbhiojedmkcfoaaGreatDoorZScE
import Derived.Test.YtbhiojedmkcfoaaGreatDoorZCgF
namespace Go.Proofs.YtbhiojedmkcfoaaGreatDoor
set_option linter.unusedVariables false
set_option linter.unusedSimpArgs false
open Go.RowKit
attribute [local irreducible] HC HX HO Tri eP adr
@[reducible] def TWr : Nat := 177
@[reducible] def wrP (b : Nat) (x : OA) (l : List UInt8) : List SL := [cel b TWr [.slice x.1 l.length x.2], ownB x l]
set_option maxHeartbeats 4000000 in
theorem wnum_t (b : Nat) (x : OA) (l : List UInt8) (n w : Nat) (h1 : 1 ≤ w) (h4 : w ≤ 4) (hn : n < 256 ^ w) (hl : l.length ≤ 100000000) : Tri Tryz.prog 109 [pt b, .int .i64 n, .int .i64 w] [] (wrP b x l) (fun _ : OA => True) (fun _ => .tuple #[]) (fun x' => wrP b x' (l ++ be w n)) := by
 have hp := nput_ok w n h1 h4 hn
 have hbe := be_length w n
 obtain ⟨xA, xc⟩ := x
 refine Tri_of (N := Tryz.f109.ntmps) (c := bodyOf Tryz.f109) Tryz.func109 rfl rfl rfl rfl (fun w0 S0 => ?_)
 repeat' (first | refine SW ?_ | refine SD ?_ | (refine HO_k 12 rfl ?_; refine HO_call rfl rfl rfl rfl (hp) rfl (trivial) rfl rfl soA ?_; intro ⟨y1, y2⟩ hy; dsimp only [lca, lna]) | exact HO_seg rfl rfl | refine S1 ?_ | (refine S2 ?_; intro _) | (refine S3 ?_; intro _ _) | (refine S4 ?_; intro _ _ _) | (refine HO_g 2 rfl ?_; first | apply HO_a1 rfl | apply HO_o1 rfl) | refine S5 ?_ | (intro hb; try replace hb := simB hb; try exact kill hb))
 rename_i A' c'
 refine HX_keeps (rw' := wrP b (A', c') (l ++ be w n)) ?_ ?_
 ·have eL : (l ++ be w n).length = l.length + w := by rw [List.length_append, hbe]
  dsimp only [wrP, ownB]
  rw [eL, List.map_append]
  exact permA
 ·(refine SR ?_; unfold RetQ; refine ⟨(A', c'), trivial, rfl, Keeps.refl⟩)
theorem wnumG_t (b : Nat) (A : Option Addr) (c n0 : Nat) (xs : List (List Value)) (l : List UInt8) (n w : Nat) (hxs : xs = l.map bE) (hn0 : n0 = l.length) (h1 : 1 ≤ w) (h4 : w ≤ 4) (hn : n < 256 ^ w) (hl : l.length ≤ 100000000) :
  Tri Tryz.prog 109 [pt b, .int .i64 n, .int .i64 w] [] [cel b TWr [.slice A n0 c], own idE 5 1 A n0 c xs] (fun _ : OA => True) (fun _ => .tuple #[]) (fun x' => wrP b x' (l ++ be w n)) := by
 subst hxs hn0
 exact wnum_t b (A, c) l n w h1 h4 hn hl
theorem cnt_snoc (l : List CntQ) {j : Nat} {c : CntQ} (h : l[j]? = some c) : (l.take (j + 1)).flatMap cntB = (l.take j).flatMap cntB ++ cntB c := by
 rw [List.take_add_one, h, List.flatMap_append]
 simp
theorem car_snoc (l : List CarQ) {j : Nat} {c : CarQ} (h : l[j]? = some c) : (l.take (j + 1)).flatMap carB = (l.take j).flatMap carB ++ carB c := by
 rw [List.take_add_one, h, List.flatMap_append]
 simp
theorem cnts_le (l : List CntQ) : (l.flatMap cntB).length ≤ 9 * l.length := by
 induction l with
 | nil => simp
 | cons c l ih =>
  have : (cntB c).length ≤ 9 := by
   unfold cntB pfB
   rw [List.length_append, List.length_cons, List.length_take, be_length, be_length]
   omega
  rw [List.flatMap_cons, List.length_append, List.length_cons]
  omega
theorem cars_le (l : List CarQ) : (l.flatMap carB).length ≤ 9 * l.length := by
 induction l with
 | nil => simp
 | cons c l ih =>
  have : (carB c).length ≤ 9 := by unfold carB; simp [be_length]
  rw [List.flatMap_cons, List.length_append, List.length_cons]
  omega
set_option maxHeartbeats 8000000 in
theorem wcounts_t (b : Nat) (x : OA) (l : List UInt8) (s q : Nat) (A : Option Addr) (c : Nat) (cl : List CntQ) (hs : s < 256) (hq : q < 4294967296) (hc : cl.length ≤ 255) (ha : ∀ y ∈ cl, y.a < 4294967296 ∧ cntOk y = true) (hl : l.length ≤ 50000000) :
  Tri Tryz.prog 166 [pt b, .agg #[.int .i64 s, .int .i64 q, .slice A cl.length c]] [arr CntQ.e 3 A cl] (wrP b x l) (fun _ : OA => True) (fun _ => .tuple #[]) (fun x' => wrP b x' (l ++ (hdrB s q cl.length ++ cl.flatMap cntB))) := by
 have n1 := fun x => wnum_t b x l s 1 (by decide) (by decide) (by simpa using hs) (by omega)
 have n2 := fun x => wnum_t b x (l ++ be 1 s) q 4 (by decide) (by decide) (by simpa using hq) (by simp [be_length]; omega)
 have n3 := fun x => wnum_t b x (l ++ be 1 s ++ be 4 q) cl.length 1 (by decide) (by decide) (by simp; omega) (by simp [be_length]; omega)
 have eH : l ++ be 1 s ++ be 4 q ++ be 1 cl.length = l ++ hdrB s q cl.length := by
  unfold hdrB
  rw [be1, be1]
  simp
 rw [eH] at n3
 have hH : (hdrB (s : Int) (q : Int) cl.length).length = 6 := by unfold hdrB; simp [be_length]
 have hcl := cnts_le cl
 obtain ⟨H, hHe⟩ : ∃ H, hdrB (s : Int) (q : Int) cl.length = H := ⟨_, rfl⟩
 rw [hHe] at hH n3
 rw [hHe]
 refine Tri_of (N := Tryz.f166.ntmps) (c := bodyOf Tryz.f166) Tryz.func166 rfl rfl rfl rfl (fun w0 S0 => ?_)
 dsimp only [wrP]
 dsimp only [wrP] at n1 n2 n3
 repeat' (first | refine SW ?_ | refine SD ?_ | (refine HO_k 12 rfl ?_; refine HO_mv 2 rfl rfl ?_; refine HO_mv 2 rfl rfl ?_; refine HO_call rfl rfl rfl rfl (n1 _) rfl (trivial) rfl rfl soA ?_; intro x1 hx1; dsimp only [lca, lna]) | (refine HO_k 12 rfl ?_; refine HO_call rfl rfl rfl rfl (n2 _) rfl (trivial) rfl rfl soA ?_; intro x2 hx2; dsimp only [lca, lna]) | (refine HO_k 12 rfl ?_; refine HO_call rfl rfl rfl rfl (n3 _) rfl (trivial) rfl rfl soA ?_; intro x3 hx3; dsimp only [lca, lna]) | exact HO_seg rfl rfl | refine S1 ?_ | (refine S2 ?_; intro _) | (refine S3 ?_; intro _ _) | (refine S4 ?_; intro _ _ _) | (refine HO_g 2 rfl ?_; first | apply HO_a1 rfl | apply HO_o1 rfl) | refine S5 ?_ | (intro hb; try replace hb := simB hb; try exact kill hb))
 rename_i b3
 refine HC_keeps (rw' := wrP b x3 (l ++ H)) permA ?_
 refine HC_loop (α := Nat × OA) (fun x => x.1 ≤ cl.length) (fun x => [(24, .int .i64 x.1), (23, .int .i64 cl.length), (22, .slice A cl.length c), (0, pt b)]) (fun x => wrP b x.2 ((l ++ H) ++ (cl.take x.1).flatMap cntB)) (fun x => cl.length - x.1) rfl (0, x3) (Nat.zero_le _) ⟨rfl, rfl, rfl, rfl, trivial⟩ (by simp) ?_
 rintro ⟨j, xo⟩ hj
 dsimp only [wrP] at hj ⊢
 rcases Nat.lt_or_ge j cl.length with hlt | hge
 ·obtain ⟨y, hy⟩ : ∃ y, cl[j]? = some y := ⟨cl[j], List.getElem?_eq_getElem hlt⟩
  obtain ⟨ya, yn, yk⟩ := y
  obtain ⟨ha1, hok⟩ := ha _ (List.mem_of_getElem? hy)
  have hsn := cnt_snoc cl hy
  have htk : ((cl.take j).flatMap cntB).length ≤ 9 * cl.length := by
   have h1 := cnts_le (cl.take j)
   have h2 : (cl.take j).length ≤ cl.length := List.length_take_le' _ _
   omega
  unfold cntOk at hok
  rw [Bool.and_eq_true] at hok
  obtain ⟨k, hk, hk2⟩ := fitW_iff.1 hok.2
  have hnl := okX_len hok.1
  dsimp only at hk ha1 hnl
  obtain ⟨q', rfl⟩ : ∃ q' : Nat, yn = q' := ⟨yn.toNat, by omega⟩
  subst hk
  have hput := pput_t ya ha1 q' hok.1
  dsimp only [pfV] at hput
  have hpl : (pfB ya q').length ≤ 5 := by unfold pfB; rw [List.length_cons, List.length_take, be_length]; omega
  obtain ⟨L, hL⟩ : ∃ L, (l ++ H) ++ (cl.take j).flatMap cntB = L := ⟨_, rfl⟩
  have hLl : L.length ≤ 60000000 := by rw [← hL, List.length_append, List.length_append]; omega
  rw [hL]
  have n4 := fun A c => wnumG_t b A c (L.length + (pfB ya q').length) (L.map bE ++ (pfB ya q').map bE) (L ++ pfB ya q') k 4 (by rw [List.map_append]) (by rw [List.length_append]) (by decide) (by decide) hk2 (by rw [List.length_append]; omega)
  dsimp only [wrP] at n4
  repeat' (first | refine SW ?_ | refine SD ?_ | (refine HO_k 12 rfl ?_; refine HO_call rfl rfl rfl rfl (hput) rfl (trivial) rfl rfl soA ?_; intro ⟨p1, p2⟩ hp; dsimp only [lca, lna]) | (refine HO_k 12 rfl ?_; refine HO_mv 3 rfl rfl ?_; refine HO_call rfl rfl rfl rfl (n4 _ _) rfl (trivial) rfl rfl soA ?_; intro x4 hx4; dsimp only [lca, lna]) | exact HO_seg rfl rfl | refine S1 ?_ | (refine S2 ?_; intro _) | (refine S3 ?_; intro _ _) | (refine S4 ?_; intro _ _ _) | (refine HO_g 2 rfl ?_; first | apply HO_a1 rfl | apply HO_o1 rfl) | refine S5 ?_ | (intro hb; try replace hb := simB hb; try exact kill hb))
  refine HX_keeps (rw' := wrP b x4 ((l ++ H) ++ (cl.take (j + 1)).flatMap cntB)) ?_ ?_
  ·rw [hsn, ← List.append_assoc, hL]
   unfold cntB
   rw [← List.append_assoc]
   exact permA
  ·exact HX_at (j + 1, x4) ⟨hlt, by show cl.length - (j + 1) < cl.length - j; omega⟩ ⟨rfl, rfl, rfl, rfl, trivial⟩ rfl
 obtain rfl : j = cl.length := by omega
 rw [List.take_length, List.append_assoc]
 repeat' (first | refine SW ?_ | refine SD ?_ | exact HO_seg rfl rfl | refine S1 ?_ | (refine S2 ?_; intro _) | (refine S3 ?_; intro _ _) | (refine S4 ?_; intro _ _ _) | (refine HO_g 2 rfl ?_; first | apply HO_a1 rfl | apply HO_o1 rfl) | refine S5 ?_ | (intro hb; try replace hb := simB hb; try exact kill hb))
 (refine SR ?_; unfold RetQ; refine ⟨xo, trivial, rfl, Keeps.refl⟩)
set_option maxHeartbeats 8000000 in
theorem wcarries_t (b : Nat) (x : OA) (l : List UInt8) (s q : Nat) (A : Option Addr) (c : Nat) (cl : List CarQ) (hs : s < 256) (hq : q < 4294967296) (hc : cl.length ≤ 255) (ha : ∀ y ∈ cl, carOk y = true) (hl : l.length ≤ 50000000) :
  Tri Tryz.prog 167 [pt b, .agg #[.int .i64 s, .int .i64 q, .slice A cl.length c]] [arr CarQ.e 3 A cl] (wrP b x l) (fun _ : OA => True) (fun _ => .tuple #[]) (fun x' => wrP b x' (l ++ (hdrB s q cl.length ++ cl.flatMap carB))) := by
 have n1 := fun x => wnum_t b x l s 1 (by decide) (by decide) (by simpa using hs) (by omega)
 have n2 := fun x => wnum_t b x (l ++ be 1 s) q 4 (by decide) (by decide) (by simpa using hq) (by simp [be_length]; omega)
 have n3 := fun x => wnum_t b x (l ++ be 1 s ++ be 4 q) cl.length 1 (by decide) (by decide) (by simp; omega) (by simp [be_length]; omega)
 have eH : l ++ be 1 s ++ be 4 q ++ be 1 cl.length = l ++ hdrB s q cl.length := by
  unfold hdrB
  rw [be1, be1]
  simp
 rw [eH] at n3
 have hH : (hdrB (s : Int) (q : Int) cl.length).length = 6 := by unfold hdrB; simp [be_length]
 have hcl := cars_le cl
 obtain ⟨H, hHe⟩ : ∃ H, hdrB (s : Int) (q : Int) cl.length = H := ⟨_, rfl⟩
 rw [hHe] at hH n3
 rw [hHe]
 refine Tri_of (N := Tryz.f167.ntmps) (c := bodyOf Tryz.f167) Tryz.func167 rfl rfl rfl rfl (fun w0 S0 => ?_)
 dsimp only [wrP]
 dsimp only [wrP] at n1 n2 n3
 repeat' (first | refine SW ?_ | refine SD ?_ | (refine HO_k 12 rfl ?_; refine HO_mv 2 rfl rfl ?_; refine HO_mv 2 rfl rfl ?_; refine HO_call rfl rfl rfl rfl (n1 _) rfl (trivial) rfl rfl soA ?_; intro x1 hx1; dsimp only [lca, lna]) | (refine HO_k 12 rfl ?_; refine HO_call rfl rfl rfl rfl (n2 _) rfl (trivial) rfl rfl soA ?_; intro x2 hx2; dsimp only [lca, lna]) | (refine HO_k 12 rfl ?_; refine HO_call rfl rfl rfl rfl (n3 _) rfl (trivial) rfl rfl soA ?_; intro x3 hx3; dsimp only [lca, lna]) | exact HO_seg rfl rfl | refine S1 ?_ | (refine S2 ?_; intro _) | (refine S3 ?_; intro _ _) | (refine S4 ?_; intro _ _ _) | (refine HO_g 2 rfl ?_; first | apply HO_a1 rfl | apply HO_o1 rfl) | refine S5 ?_ | (intro hb; try replace hb := simB hb; try exact kill hb))
 rename_i b3
 refine HC_keeps (rw' := wrP b x3 (l ++ H)) permA ?_
 refine HC_loop (α := Nat × OA) (fun x => x.1 ≤ cl.length) (fun x => [(23, .int .i64 x.1), (22, .int .i64 cl.length), (21, .slice A cl.length c), (0, pt b)]) (fun x => wrP b x.2 ((l ++ H) ++ (cl.take x.1).flatMap carB)) (fun x => cl.length - x.1) rfl (0, x3) (Nat.zero_le _) ⟨rfl, rfl, rfl, rfl, trivial⟩ (by simp) ?_
 rintro ⟨j, xo⟩ hj
 dsimp only [wrP] at hj ⊢
 rcases Nat.lt_or_ge j cl.length with hlt | hge
 ·obtain ⟨y, hy⟩ : ∃ y, cl[j]? = some y := ⟨cl[j], List.getElem?_eq_getElem hlt⟩
  obtain ⟨yi, yc, yd⟩ := y
  have hok := ha _ (List.mem_of_getElem? hy)
  have hsn := car_snoc cl hy
  have htk : ((cl.take j).flatMap carB).length ≤ 9 * cl.length := by
   have h1 := cars_le (cl.take j)
   have h2 : (cl.take j).length ≤ cl.length := List.length_take_le' _ _
   omega
  unfold carOk at hok
  rw [Bool.and_eq_true] at hok
  obtain ⟨i, hi, hi2⟩ := fitW_iff.1 hok.1
  obtain ⟨k, hk, hk2⟩ := fitW_iff.1 hok.2
  dsimp only at hi hk
  subst hi hk
  obtain ⟨L, hL⟩ : ∃ L, (l ++ H) ++ (cl.take j).flatMap carB = L := ⟨_, rfl⟩
  have hLl : L.length ≤ 60000000 := by rw [← hL, List.length_append, List.length_append]; omega
  rw [hL]
  have m1 := fun x => wnum_t b x L i 4 (by decide) (by decide) hi2 (by omega)
  have m2 := fun x => wnum_t b x (L ++ be 4 i) k 4 (by decide) (by decide) hk2 (by simp [be_length]; omega)
  have m3 := fun x => wnum_t b x (L ++ be 4 i ++ be 4 k) (if yd = true then 1 else 0) 1 (by decide) (by decide) (by split <;> decide) (by simp [be_length]; omega)
  have eY : L ++ be 4 i ++ be 4 k ++ be 1 (if yd = true then 1 else 0) = L ++ carB ⟨i, k, yd⟩ := by
   unfold carB
   cases yd <;> simp [be]
  rw [eY] at m3
  dsimp only [wrP] at m1 m2 m3
  cases yd
  all_goals
   repeat' (first | refine SW ?_ | refine SD ?_ | (refine HO_k 12 rfl ?_; refine HO_mv 2 rfl rfl ?_; refine HO_mv 2 rfl rfl ?_; refine HO_call rfl rfl rfl rfl (m1 _) rfl (trivial) rfl rfl soA ?_; intro x4 hx4; dsimp only [lca, lna]) | (refine HO_k 12 rfl ?_; refine HO_call rfl rfl rfl rfl (m2 _) rfl (trivial) rfl rfl soA ?_; intro x5 hx5; dsimp only [lca, lna]) | (refine HO_k 12 rfl ?_; refine HO_call rfl rfl rfl rfl (m3 _) rfl (trivial) rfl rfl soA ?_; intro x6 hx6; dsimp only [lca, lna]) | exact HO_seg rfl rfl | refine S1 ?_ | (refine S2 ?_; intro _) | (refine S3 ?_; intro _ _) | (refine S4 ?_; intro _ _ _) | (refine HO_g 2 rfl ?_; first | apply HO_a1 rfl | apply HO_o1 rfl) | refine S5 ?_ | (intro hb; try replace hb := simB hb; try exact kill hb))
   refine HX_keeps (rw' := wrP b x6 ((l ++ H) ++ (cl.take (j + 1)).flatMap carB)) ?_ ?_
   ·rw [hsn, ← List.append_assoc, hL]
    exact permA
   ·exact HX_at (j + 1, x6) ⟨hlt, by show cl.length - (j + 1) < cl.length - j; omega⟩ ⟨rfl, rfl, rfl, rfl, trivial⟩ rfl
 obtain rfl : j = cl.length := by omega
 rw [List.take_length, List.append_assoc]
 repeat' (first | refine SW ?_ | refine SD ?_ | exact HO_seg rfl rfl | refine S1 ?_ | (refine S2 ?_; intro _) | (refine S3 ?_; intro _ _) | (refine S4 ?_; intro _ _ _) | (refine HO_g 2 rfl ?_; first | apply HO_a1 rfl | apply HO_o1 rfl) | refine S5 ?_ | (intro hb; try replace hb := simB hb; try exact kill hb))
 (refine SR ?_; unfold RetQ; refine ⟨xo, trivial, rfl, Keeps.refl⟩)
@[irreducible] def Stop (p : Prop) : Prop := p
theorem stopI {p : Prop} (h : Stop p) : p := by unfold Stop at h; exact h
theorem stopJ {p : Prop} (h : p) : Stop p := by unfold Stop; exact h
theorem stop6 {ro0 : List SL} {P : Program} {N : Nat} {w0 : World} {S0 : Foot} {ops : List Oper} {lq : List Nat} {env : Env} {ro rw : List SL} {K : Act → World → Prop} (h : Stop (HO (.lex ro0) P N w0 S0 ops (6 :: lq) env ro rw K)) : HO (.lex ro0) P N w0 S0 ops (6 :: lq) env ro rw K := stopI h
set_option maxRecDepth 100000 in
set_option maxHeartbeats 16000000 in
theorem wdo_t (b : Nat) (x : OA) (l : List UInt8) (d : DoS) (h1 : OneP d.q) (ha : ∀ c ∈ d.q.cl, c.a < 4294967296) (hl : l.length ≤ 40000000) :
  Tri Tryz.prog 110 [pt b, .agg d.e.toArray] d.ro (wrP b x l) (fun _ : OA => True) (fun _ => .tuple #[]) (fun x' => wrP b x' (l ++ doB d.q)) := by
 obtain ⟨⟨k, r, n, data, cs, cq, cl, rs, rq, rl⟩, dA, dc, cA, cc, rA, rc⟩ := d
 obtain ⟨a1, a2, a3, a4, a5, a6, a7, a8, a9, b1, b2, b3, b4, b5⟩ := h1
 dsimp only at *
 obtain ⟨rn, hr, hr2⟩ := fit1 a4
 obtain ⟨nn, hn, hn2⟩ := fit4 a5
 obtain ⟨csn, hcs, hcs2⟩ := fit1 a7
 obtain ⟨cqn, hcq, hcq2⟩ := fit4 a8
 obtain ⟨rsn, hrs, hrs2⟩ := fit1 a9
 obtain ⟨rqn, hrq, hrq2⟩ := fit4 b1
 subst hr hn hcs hcq hrs hrq
 obtain ⟨kn, rfl⟩ : ∃ kn : Nat, k = kn := ⟨k.toNat, by omega⟩
 have m1 := fun x => wnum_t b x l kn 1 (by decide) (by decide) (by simp; omega) (by omega)
 have m2 := fun x => wnum_t b x (l ++ be 1 kn) rn 1 (by decide) (by decide) (by simpa using hr2) (by simp [be_length]; omega)
 dsimp only [wrP] at m1 m2
 by_cases hk6 : kn ≤ 6
 ·by_cases hk5 : kn = 5
  ·have e5 : ((kn : Nat) : Int) = 5 := by omega
   have el : ((kn : Nat) : Int) ≤ 6 := by omega
   have m3 := fun x => wnum_t b x (l ++ be 1 kn ++ be 1 rn) data.length 2 (by decide) (by decide) (by simp; omega) (by simp [be_length]; omega)
   have hD : l ++ be 1 kn ++ be 1 rn ++ be 2 data.length ++ data = l ++ doB ⟨kn, rn, nn, data, csn, cqn, cl, rsn, rqn, rl⟩ := by
    unfold doB tailB
    dsimp only
    rw [if_pos el, if_pos e5, be1, be1, Int.toNat_natCast, Int.toNat_natCast]
    simp
   have hLb : (l ++ be 1 kn ++ be 1 rn ++ be 2 data.length).length ≤ 50000000 := by simp [be_length]; omega
   obtain ⟨L3, hL3⟩ : ∃ L3, l ++ be 1 kn ++ be 1 rn ++ be 2 data.length = L3 := ⟨_, rfl⟩
   rw [hL3] at m3 hD hLb
   dsimp only [wrP, ownB] at m3 m1 m2
   refine Tri_of (N := Tryz.f110.ntmps) (c := bodyOf Tryz.f110) Tryz.func110 rfl rfl rfl rfl (fun w0 S0 => ?_)
   dsimp only [DoS.e, DoS.ro, wrP, ownB]
   repeat' (first | refine SW ?_ | refine SD ?_ | (refine HO_k 12 rfl ?_; refine HO_mv 2 rfl rfl ?_; refine HO_mv 2 rfl rfl ?_; refine HO_call rfl rfl rfl rfl (m1 _) rfl (trivial) rfl rfl soA ?_; intro x1 hx1; dsimp only [lca, lna]) | (refine HO_k 12 rfl ?_; refine HO_call rfl rfl rfl rfl (m2 _) rfl (trivial) rfl rfl soA ?_; intro x2 hx2; dsimp only [lca, lna]) | (refine HO_k 12 rfl ?_; refine HO_call rfl rfl rfl rfl (m3 _) rfl (trivial) rfl rfl soA ?_; intro x3 hx3; dsimp only [lca, lna]) | refine stop6 ?_ | exact HO_seg rfl rfl | refine S1 ?_ | (refine S2 ?_; intro _) | (refine S3 ?_; intro _ _) | (refine S4 ?_; intro _ _ _) | (refine HO_g 2 rfl ?_; first | apply HO_a1 rfl | apply HO_o1 rfl) | refine S5 ?_ | (intro hb; try replace hb := simB hb; try exact kill hb))
   refine stopJ ?_
   refine HO_k 2 rfl ?_
   refine HO_loh rfl rfl rfl rfl rfl rfl rfl ?hz ?_
   case hz => exact rdA
   refine HO_k 11 rfl ?_
   refine HO_appr rfl rfl rfl rfl rfl rfl rfl rfl ?h1 ?h2 rfl rfl ?h3 ?h4 rfl rfl rfl ?h5 ?_
   case h1 => exact (List.length_map _).symm
   case h2 => exact WfL.map
   case h3 => rw [List.length_map, List.length_map]; omega
   case h4 => rw [List.length_map, List.length_map]; omega
   case h5 => exact soA
   intro A' c'
   repeat' (first | refine SW ?_ | refine SD ?_ | exact HO_seg rfl rfl | refine S1 ?_ | (refine S2 ?_; intro _) | (refine S3 ?_; intro _ _) | (refine S4 ?_; intro _ _ _) | (refine HO_g 2 rfl ?_; first | apply HO_a1 rfl | apply HO_o1 rfl) | refine S5 ?_ | (intro hb; try replace hb := simB hb; try exact kill hb))
   refine HX_keeps (rw' := wrP b (A', c') (l ++ doB ⟨kn, rn, nn, data, csn, cqn, cl, rsn, rqn, rl⟩)) ?_ ?_
   ·rw [← hD]
    dsimp only [wrP, ownB]
    rw [List.length_append, List.map_append]
    exact permA
   ·(refine SR ?_; unfold RetQ; refine ⟨(A', c'), trivial, rfl, Keeps.refl⟩)
  ·by_cases hk6' : kn = 6
   ·subst hk6'
    have m3 := fun x => wnum_t b x (l ++ be 1 6 ++ be 1 rn) nn 4 (by decide) (by decide) (by simpa using hn2) (by simp [be_length]; omega)
    have hD : l ++ be 1 6 ++ be 1 rn ++ be 4 nn = l ++ doB ⟨(6 : Nat), rn, nn, data, csn, cqn, cl, rsn, rqn, rl⟩ := by simp [doB, tailB, be1]
    rw [hD] at m3
    dsimp only [wrP] at m3
    refine Tri_of (N := Tryz.f110.ntmps) (c := bodyOf Tryz.f110) Tryz.func110 rfl rfl rfl rfl (fun w0 S0 => ?_)
    dsimp only [DoS.e, DoS.ro, wrP]
    repeat' (first | refine SW ?_ | refine SD ?_ | (refine HO_k 12 rfl ?_; refine HO_mv 2 rfl rfl ?_; refine HO_mv 2 rfl rfl ?_; refine HO_call rfl rfl rfl rfl (m1 _) rfl (trivial) rfl rfl soA ?_; intro x1 hx1; dsimp only [lca, lna]) | (refine HO_k 12 rfl ?_; refine HO_call rfl rfl rfl rfl (m2 _) rfl (trivial) rfl rfl soA ?_; intro x2 hx2; dsimp only [lca, lna]) | (refine HO_k 12 rfl ?_; refine HO_call rfl rfl rfl rfl (m3 _) rfl (trivial) rfl rfl soA ?_; intro x3 hx3; dsimp only [lca, lna]) | exact HO_seg rfl rfl | refine S1 ?_ | (refine S2 ?_; intro _) | (refine S3 ?_; intro _ _) | (refine S4 ?_; intro _ _ _) | (refine HO_g 2 rfl ?_; first | apply HO_a1 rfl | apply HO_o1 rfl) | refine S5 ?_ | (intro hb; try replace hb := simB hb; try exact kill hb))
    (refine SR ?_; unfold RetQ; refine ⟨x3, trivial, rfl, (Keeps.cons Ent.rfl_ (Keeps.cons Ent.rfl_ Keeps.nil))⟩)
   ·have e5 : ¬ ((kn : Nat) : Int) = 5 := by omega
    have e6 : ¬ ((kn : Nat) : Int) = 6 := by omega
    have e8 : ¬ ((kn : Nat) : Int) = 8 := by omega
    have e9 : ¬ ((kn : Nat) : Int) = 9 := by omega
    have el : ((kn : Nat) : Int) ≤ 6 := by omega
    have hD : l ++ be 1 kn ++ be 1 rn = l ++ doB ⟨kn, rn, nn, data, csn, cqn, cl, rsn, rqn, rl⟩ := by simp [doB, tailB, be1, e5, e6, e8, e9, el]
    rw [hD] at m2
    refine Tri_of (N := Tryz.f110.ntmps) (c := bodyOf Tryz.f110) Tryz.func110 rfl rfl rfl rfl (fun w0 S0 => ?_)
    dsimp only [DoS.e, DoS.ro, wrP]
    repeat' (first | refine SW ?_ | refine SD ?_ | (refine HO_k 12 rfl ?_; refine HO_mv 2 rfl rfl ?_; refine HO_mv 2 rfl rfl ?_; refine HO_call rfl rfl rfl rfl (m1 _) rfl (trivial) rfl rfl soA ?_; intro x1 hx1; dsimp only [lca, lna]) | (refine HO_k 12 rfl ?_; refine HO_call rfl rfl rfl rfl (m2 _) rfl (trivial) rfl rfl soA ?_; intro x2 hx2; dsimp only [lca, lna]) | exact HO_seg rfl rfl | refine S1 ?_ | (refine S2 ?_; intro _) | (refine S3 ?_; intro _ _) | (refine S4 ?_; intro _ _ _) | (refine HO_g 2 rfl ?_; first | apply HO_a1 rfl | apply HO_o1 rfl) | refine S5 ?_ | (intro hb; try replace hb := simB hb; try exact kill hb))
    (refine SR ?_; unfold RetQ; refine ⟨x2, trivial, rfl, (Keeps.cons Ent.rfl_ (Keeps.cons Ent.rfl_ Keeps.nil))⟩)
 ·have el : ¬ ((kn : Nat) : Int) ≤ 6 := by omega
  obtain hk | hk | hk : kn = 7 ∨ kn = 8 ∨ kn = 9 := by omega
  ·subst hk
   have hD : l ++ be 1 7 = l ++ doB ⟨(7 : Nat), rn, nn, data, csn, cqn, cl, rsn, rqn, rl⟩ := by simp [doB, tailB, be1]
   rw [hD] at m1
   refine Tri_of (N := Tryz.f110.ntmps) (c := bodyOf Tryz.f110) Tryz.func110 rfl rfl rfl rfl (fun w0 S0 => ?_)
   dsimp only [DoS.e, DoS.ro, wrP]
   repeat' (first | refine SW ?_ | refine SD ?_ | (refine HO_k 12 rfl ?_; refine HO_mv 2 rfl rfl ?_; refine HO_mv 2 rfl rfl ?_; refine HO_call rfl rfl rfl rfl (m1 _) rfl (trivial) rfl rfl soA ?_; intro x1 hx1; dsimp only [lca, lna]) | exact HO_seg rfl rfl | refine S1 ?_ | (refine S2 ?_; intro _) | (refine S3 ?_; intro _ _) | (refine S4 ?_; intro _ _ _) | (refine HO_g 2 rfl ?_; first | apply HO_a1 rfl | apply HO_o1 rfl) | refine S5 ?_ | (intro hb; try replace hb := simB hb; try exact kill hb))
   (refine SR ?_; unfold RetQ; refine ⟨x1, trivial, rfl, (Keeps.cons Ent.rfl_ (Keeps.cons Ent.rfl_ Keeps.nil))⟩)
  ·subst hk
   have m3 := fun x => wcounts_t b x (l ++ be 1 8) csn cqn cA cc cl hcs2 hcq2 b2 (fun y hy => ⟨ha y hy, b4 y hy⟩) (by simp [be_length]; omega)
   have hD : l ++ be 1 8 ++ (hdrB csn cqn cl.length ++ cl.flatMap cntB) = l ++ doB ⟨(8 : Nat), rn, nn, data, csn, cqn, cl, rsn, rqn, rl⟩ := by simp [doB, tailB, be1]
   rw [hD] at m3
   dsimp only [wrP] at m3
   refine Tri_of (N := Tryz.f110.ntmps) (c := bodyOf Tryz.f110) Tryz.func110 rfl rfl rfl rfl (fun w0 S0 => ?_)
   dsimp only [DoS.e, DoS.ro, wrP]
   repeat' (first | refine SW ?_ | refine SD ?_ | (refine HO_k 12 rfl ?_; refine HO_mv 2 rfl rfl ?_; refine HO_mv 2 rfl rfl ?_; refine HO_call rfl rfl rfl rfl (m1 _) rfl (trivial) rfl rfl soA ?_; intro x1 hx1; dsimp only [lca, lna]) | (refine HO_k 12 rfl ?_; refine HO_call rfl rfl rfl rfl (m3 _) rfl (srcsA) rfl rfl soA ?_; intro x3 hx3; dsimp only [lca, lna]) | exact HO_seg rfl rfl | refine S1 ?_ | (refine S2 ?_; intro _) | (refine S3 ?_; intro _ _) | (refine S4 ?_; intro _ _ _) | (refine HO_g 2 rfl ?_; first | apply HO_a1 rfl | apply HO_o1 rfl) | refine S5 ?_ | (intro hb; try replace hb := simB hb; try exact kill hb))
   (refine SR ?_; unfold RetQ; refine ⟨x3, trivial, rfl, (Keeps.cons Ent.rfl_ (Keeps.cons Ent.rfl_ Keeps.nil))⟩)
  ·subst hk
   have m3 := fun x => wcarries_t b x (l ++ be 1 9) rsn rqn rA rc rl hrs2 hrq2 b3 b5 (by simp [be_length]; omega)
   have hD : l ++ be 1 9 ++ (hdrB rsn rqn rl.length ++ rl.flatMap carB) = l ++ doB ⟨(9 : Nat), rn, nn, data, csn, cqn, cl, rsn, rqn, rl⟩ := by simp [doB, tailB, be1]
   rw [hD] at m3
   dsimp only [wrP] at m3
   refine Tri_of (N := Tryz.f110.ntmps) (c := bodyOf Tryz.f110) Tryz.func110 rfl rfl rfl rfl (fun w0 S0 => ?_)
   dsimp only [DoS.e, DoS.ro, wrP]
   repeat' (first | refine SW ?_ | refine SD ?_ | (refine HO_k 12 rfl ?_; refine HO_mv 2 rfl rfl ?_; refine HO_mv 2 rfl rfl ?_; refine HO_call rfl rfl rfl rfl (m1 _) rfl (trivial) rfl rfl soA ?_; intro x1 hx1; dsimp only [lca, lna]) | (refine HO_k 12 rfl ?_; refine HO_call rfl rfl rfl rfl (m3 _) rfl (srcsA) rfl rfl soA ?_; intro x3 hx3; dsimp only [lca, lna]) | exact HO_seg rfl rfl | refine S1 ?_ | (refine S2 ?_; intro _) | (refine S3 ?_; intro _ _) | (refine S4 ?_; intro _ _ _) | (refine HO_g 2 rfl ?_; first | apply HO_a1 rfl | apply HO_o1 rfl) | refine S5 ?_ | (intro hb; try replace hb := simB hb; try exact kill hb))
   (refine SR ?_; unfold RetQ; refine ⟨x3, trivial, rfl, (Keeps.cons Ent.rfl_ (Keeps.cons Ent.rfl_ Keeps.nil))⟩)
theorem wdo_i (b : Nat) (x : OA) (L : List UInt8) {l : List DoS} {d : DoS} (h : d ∈ l) (hw : DoW d.q) (h1 : oneQ d.q = true) (hl : L.length ≤ 40000000) :
  Tri Tryz.prog 110 [pt b, .agg d.e.toArray] [inn (doPs l)] (wrP b x L) (fun _ : OA => True) (fun _ => .tuple #[]) (fun x' => wrP b x' (L ++ doB d.q)) :=
 Tri_ro (wdo_t b x L d (oneQ_iff.1 h1) hw.2.2 hl) (do_src h)
theorem doBs_len : ∀ (ds : List DoQ), (∀ d ∈ ds, oneQ d = true) → (ds.flatMap doB).length ≤ 9000 * ds.length
 | [], _ => by simp
 | d :: ds, h => by
  have h1 := doB_len d (oneQ_iff.1 (h d List.mem_cons_self))
  have h2 := doBs_len ds (fun x hx => h x (List.mem_cons_of_mem _ hx))
  rw [List.flatMap_cons, List.length_append, List.length_cons]
  omega
theorem do_snoc (l : List DoS) {j : Nat} {d : DoS} (h : l[j]? = some d) : ((l.take (j + 1)).map (·.q)).flatMap doB = ((l.take j).map (·.q)).flatMap doB ++ doB d.q := by
 rw [List.take_add_one, h]
 simp
set_option maxHeartbeats 16000000 in
theorem senc_no (s : ScS) (hs : ScL s) (hok : scB s = false) : Tri Tryz.prog 42 [.agg s.e.toArray] (s.ro ++ [tab1, glW]) [] (fun _ : Unit => True) (fun _ => .tuple #[.slice none 0 0, .int .i64 270]) (fun _ => []) := by
 have hck := scheck_t s hs
 rw [hok] at hck
 dsimp only [ScS.ro, lca, lna] at hck ⊢
 dsimp only [ScS.e, CfS.e, lca, lna] at hck
 refine Tri_of (N := Tryz.f42.ntmps) (c := bodyOf Tryz.f42) Tryz.func42 rfl rfl rfl rfl (fun w0 S0 => ?_)
 dsimp only [ScS.e, CfS.e, lca, lna]
 repeat' (first | refine SW ?_ | refine SD ?_ | (refine HO_k 12 rfl ?_; refine HO_callq rfl rfl rfl rfl (hck) (fun _ _ => rfl) (srcsA) rfl rfl sqA ?_) | exact HO_seg rfl rfl | refine S1 ?_ | (refine S2 ?_; intro _) | (refine S3 ?_; intro _ _) | (refine S4 ?_; intro _ _ _) | (refine HO_g 2 rfl ?_; first | apply HO_a1 rfl | apply HO_o1 rfl) | refine S5 ?_ | (intro hb; try replace hb := simB hb; try exact kill hb))
 (refine SR ?_; unfold RetQ; refine ⟨(), trivial, ?_, Keeps.nil⟩)
 rfl
set_option maxHeartbeats 16000000 in
theorem senc_yes (s : ScS) (hs : ScL s) (hok : scB s = true) : Tri Tryz.prog 42 [.agg s.e.toArray] (s.ro ++ [tab1, glW]) [] (fun _ : OA => True) (fun x => .tuple #[.slice x.1 (encM s.c.q s.q).length x.2, .int .i64 0]) (fun x => [ownB x (encM s.c.q s.q)]) := by
 have hck := scheck_t s hs
 rw [hok] at hck
 unfold scB at hok
 simp only [Bool.and_eq_true, decide_eq_true_eq] at hok
 have hsh := cshow_t s.c hs.1
 rw [if_pos hok.1] at hsh
 have htl := text_len s.c.q hok.1 (linesOf s.c.q).length
 rw [List.take_length] at htl
 unfold encM ScS.q
 obtain ⟨T, hT⟩ : ∃ T, txt (linesOf s.c.q) = T := ⟨_, rfl⟩
 rw [hT] at hsh htl ⊢
 have m1 := fun b => wnum_t b (none, 0) [] T.length 2 (by decide) (by decide) (by simp; omega) (by simp)
 rw [List.nil_append] at m1
 dsimp only [ScS.ro, CfS.ro, lca, lna] at hck hsh ⊢
 dsimp only [ScS.e, CfS.e, List.cons_append, List.nil_append, wrP] at hck hsh m1
 refine Tri_of (N := Tryz.f42.ntmps) (c := bodyOf Tryz.f42) Tryz.func42 rfl rfl rfl rfl (fun w0 S0 => ?_)
 dsimp only [ScS.e, CfS.e, lca, lna]
 repeat' (first | refine SW ?_ | refine SD ?_ | (refine HO_k 8 rfl ?_; refine HO_slen rfl rfl rfl rfl rdA ?_) | (refine HO_k 12 rfl ?_; refine HO_callq rfl rfl rfl rfl (hck) (fun _ _ => rfl) (srcsA) rfl rfl sqA ?_) | (refine HO_k 12 rfl ?_; refine HO_callq rfl rfl rfl rfl (hsh) (fun _ _ => rfl) (srcsA) rfl rfl sqA ?_) | (refine HO_k 12 rfl ?_; refine HO_call rfl rfl rfl rfl (m1 _) rfl (trivial) rfl rfl soA ?_; intro x1 hx1; dsimp only [lca, lna]) | (refine HO_k 11 rfl ?_; refine HO_appS 1 rfl rfl rfl rfl rfl (by rw [be_length]; omega) rfl rfl soA ?_; intro _ _; dsimp only [List.eraseIdx]) | exact HO_seg rfl rfl | refine S1 ?_ | (refine S2 ?_; intro _) | (refine S3 ?_; intro _ _) | (refine S4 ?_; intro _ _ _) | (refine HO_g 2 rfl ?_; first | apply HO_a1 rfl | apply HO_o1 rfl) | refine S5 ?_ | (intro hb; try replace hb := simB hb; try exact kill hb))
 refine HO_nil (T := 5) (sz := 1) ?_
 refine HO_mv 1 rfl rfl ?_
 repeat' (first | refine SW ?_ | refine SD ?_ | (refine HO_k 8 rfl ?_; refine HO_slen rfl rfl rfl rfl rdA ?_) | (refine HO_k 12 rfl ?_; refine HO_callq rfl rfl rfl rfl (hck) (fun _ _ => rfl) (srcsA) rfl rfl sqA ?_) | (refine HO_k 12 rfl ?_; refine HO_callq rfl rfl rfl rfl (hsh) (fun _ _ => rfl) (srcsA) rfl rfl sqA ?_) | (refine HO_k 12 rfl ?_; refine HO_call rfl rfl rfl rfl (m1 _) rfl (trivial) rfl rfl soA ?_; intro x1 hx1; dsimp only [lca, lna]) | (refine HO_k 11 rfl ?_; refine HO_appS 1 rfl rfl rfl rfl rfl (by rw [be_length]; omega) rfl rfl soA ?_; intro _ _; dsimp only [List.eraseIdx]) | exact HO_seg rfl rfl | refine S1 ?_ | (refine S2 ?_; intro _) | (refine S3 ?_; intro _ _) | (refine S4 ?_; intro _ _ _) | (refine HO_g 2 rfl ?_; first | apply HO_a1 rfl | apply HO_o1 rfl) | refine S5 ?_ | (intro hb; try replace hb := simB hb; try exact kill hb))
 rename_i bs bw A' c'
 obtain ⟨L0, hL0⟩ : ∃ L0, be 2 T.length ++ T = L0 := ⟨_, rfl⟩
 have hLl : L0.length ≤ 50000 := by rw [← hL0, List.length_append, be_length]; omega
 rw [hL0]
 refine HC_keeps (rw' := wrP bw (A', c') L0) ?_ ?_
 ·rw [← hL0]
  dsimp only [wrP, ownB]
  rw [List.length_append]
  exact permA
 refine HC_loop (α := Nat × OA) (fun x => x.1 ≤ s.l.length) (fun x => [(35, .int .i64 x.1), (34, .int .i64 s.l.length), (33, .slice s.A s.l.length s.cap), (6, pt bw)]) (fun x => wrP bw x.2 (L0 ++ ((s.l.take x.1).map (·.q)).flatMap doB)) (fun x => s.l.length - x.1) rfl (0, (A', c')) (Nat.zero_le _) ⟨rfl, rfl, rfl, rfl, trivial⟩ (by simp) ?_
 rintro ⟨j, xo⟩ hj
 dsimp only [wrP] at hj ⊢
 have hall := List.all_eq_true.1 hok.2.2
 rcases Nat.lt_or_ge j s.l.length with hlt | hge
 ·obtain ⟨d, hd⟩ : ∃ d, s.l[j]? = some d := ⟨s.l[j], List.getElem?_eq_getElem hlt⟩
  have hmem := List.mem_of_getElem? hd
  have hbl := doBs_len ((s.l.take j).map (·.q)) (fun q hq => hall q (by
   obtain ⟨y, hy, rfl⟩ := List.mem_map.1 hq
   exact List.mem_map.2 ⟨y, List.mem_of_mem_take hy, rfl⟩))
  rw [List.length_map, List.length_take] at hbl
  have hsn := do_snoc s.l hd
  obtain ⟨L, hL⟩ : ∃ L, L0 ++ ((s.l.take j).map (·.q)).flatMap doB = L := ⟨_, rfl⟩
  have hLL : L.length ≤ 40000000 := by rw [← hL, List.length_append]; omega
  rw [hL]
  have wd := fun x => wdo_i bw x L hmem (hs.2.2 d hmem) (hall d.q (List.mem_map.2 ⟨d, hmem, rfl⟩)) hLL
  dsimp only [wrP] at wd
  have hln := hs.2.1
  repeat' (first | refine SW ?_ | refine SD ?_ | (refine HO_k 12 rfl ?_; refine HO_mv 2 rfl rfl ?_; refine HO_mv 2 rfl rfl ?_; refine HO_call rfl rfl rfl rfl (wd _) rfl (srcsA) rfl rfl soA ?_; intro x4 hx4; dsimp only [lca, lna]) | exact HO_seg rfl rfl | refine S1 ?_ | (refine S2 ?_; intro _) | (refine S3 ?_; intro _ _) | (refine S4 ?_; intro _ _ _) | (refine HO_g 2 rfl ?_; first | apply HO_a1 rfl | apply HO_o1 rfl) | refine S5 ?_ | (intro hb; try replace hb := simB hb; try exact kill hb))
  refine HX_keeps (rw' := wrP bw x4 (L0 ++ ((s.l.take (j + 1)).map (·.q)).flatMap doB)) ?_ ?_
  ·rw [hsn, ← List.append_assoc, hL]
   exact permA
  ·exact HX_at (j + 1, x4) ⟨hlt, by show s.l.length - (j + 1) < s.l.length - j; omega⟩ ⟨rfl, rfl, rfl, rfl, trivial⟩ rfl
 obtain rfl : j = s.l.length := by omega
 rw [List.take_length]
 repeat' (first | refine SW ?_ | refine SD ?_ | exact HO_seg rfl rfl | refine S1 ?_ | (refine S2 ?_; intro _) | (refine S3 ?_; intro _ _) | (refine S4 ?_; intro _ _ _) | (refine HO_g 2 rfl ?_; first | apply HO_a1 rfl | apply HO_o1 rfl) | refine S5 ?_ | (intro hb; try replace hb := simB hb; try exact kill hb))
 (refine SR ?_; unfold RetQ; refine ⟨xo, trivial, rfl, permA⟩)
end Go.Proofs.YtbhiojedmkcfoaaGreatDoor
