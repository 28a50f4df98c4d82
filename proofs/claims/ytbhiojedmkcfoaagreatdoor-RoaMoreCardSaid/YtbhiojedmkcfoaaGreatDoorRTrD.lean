/- Part of a proof of many texts: what the theorem at its end leans on. -/
import Derived.Test.YtbhiojedmkcfoaaGreatDoorRTrC
import Derived.Test.YtbhiojedmkcfoaaGreatDoorRTrB
namespace Go.Proofs.YtbhiojedmkcfoaaGreatDoor
set_option linter.unusedVariables false
set_option linter.unusedSimpArgs false
open Go.RowKit
attribute [local irreducible] HC HX HO Tri eP adr
theorem roclone_t (A : Option Addr) (n c : Nat) (l : List RoQ) (hn : n = l.length) (hb : l.length ≤ 1000000) :
  Tri Tryz.prog 95 [.slice A n c] [arr RoQ.e 4 A l] [] (fun x : OA => True) (fun x => .slice x.1 l.length x.2) (fun x => [own idE 73 4 x.1 l.length x.2 (l.map RoQ.e)]) := by
 refine Tri_know (C := A = none → l = []) (fun w h => arr_some 0 rfl h) (fun hA => ?_)
 cases A with
 | none =>
  obtain rfl := hA rfl
  refine Tri_of (N := Tryz.f95.ntmps) (c := bodyOf Tryz.f95) Tryz.func95 rfl rfl rfl rfl (fun w0 S0 => ?_)
  repeat' (first | refine SW ?_ | refine SD ?_ | exact HO_seg rfl rfl | refine S1 ?_ | (refine S2 ?_; intro _) | (refine S3 ?_; intro _ _) | (refine S4 ?_; intro _ _ _) | (refine HO_g 2 rfl ?_; first | apply HO_a1 rfl | apply HO_o1 rfl) | refine S5 ?_ | (intro hb; try replace hb := simB hb; try exact kill hb))
  (refine SRt ?_; unfold RetQ; apply Exists.intro (Prod.mk none 0); refine ⟨trivial, ?_, ?_⟩; rotate_left 1; (repeat (first | exact Keeps.nil | refine Keeps.own_cons ?_ ?_ ?_ | refine Keeps.arr_cons ?_ ?_ | refine Keeps.cons Ent.rfl_ ?_ | refine Keeps.skip ?_ | refine Keeps.own_none ?_ ?_ ?_ | refine Keeps.arr_none ?_ ?_)))
  all_goals rfl
 | some ad =>
  clear hA
  subst hn
  refine Tri_of (N := Tryz.f95.ntmps) (c := bodyOf Tryz.f95) Tryz.func95 rfl rfl rfl rfl (fun w0 S0 => ?_)
  repeat' (first | refine SW ?_ | refine SD ?_ | (refine HO_k 11 rfl ?_; refine HO_appr rfl rfl rfl rfl rfl rfl rfl rfl ?h1 ?h2 rfl rfl ?h3 ?h4 rfl rfl rfl ?h5 ?_; (case h1 => simp only [List.length_append, List.length_map, List.length_cons, List.length_nil, be_length]); (case h2 => repeat (first | exact WfL.nil | exact WfL.map | apply WfL.append | refine WfL.cons rfl rfl ?_ | assumption)); (case h3 => (try simp only [List.length_append, List.length_map, List.length_cons, List.length_nil, be_length]); (try omega)); (case h4 => (try simp only [List.length_append, List.length_map, List.length_cons, List.length_nil, be_length]); (try omega)); (case h5 => exact soA); intro _ _) | exact HO_seg rfl rfl | refine S1 ?_ | (refine S2 ?_; intro _) | (refine S3 ?_; intro _ _) | (refine S4 ?_; intro _ _ _) | (refine HO_g 2 rfl ?_; first | apply HO_a1 rfl | apply HO_o1 rfl) | refine S5 ?_ | (intro hb; try replace hb := simB hb; try exact kill hb))
  rename_i b' A' c'
  have e0 : 0 + l.length = l.length := Nat.zero_add _
  rw [e0]
  (refine SRt ?_; unfold RetQ; refine ⟨(A', c'), trivial, rfl, Keeps.pick 0 rfl rfl Keeps.nil⟩)
def gx (x : RoN) : RoN := if x.is then x else ron0
theorem look_ent (t : Tre RoN) (bs : List Bool) : Ent (inn t.pc) (arr RoQ.e 4 (gx (t.look ron0 bs)).A (gx (t.look ron0 bs)).xs) := by
 unfold Tre.look
 cases hs : t.sub bs with
 | nil => exact fun S w _ => fun h => absurd rfl h
 | nd b x l r =>
  show Ent _ (arr RoQ.e 4 (gx x).A (gx x).xs)
  unfold gx
  cases x.is with
  | false => exact fun S w _ => fun h => absurd rfl h
  | true =>
   have hm : own idE 73 4 x.A x.xs.length x.c (x.xs.map RoQ.e) ∈ t.pc := sub_in bs _ hs _ (by rw [pc_nd]; exact .tail _ (.head _))
   exact fun S w hp hne => by
    obtain ⟨F, hF, h1⟩ := hp _ hm
    obtain ⟨ad, h2, h3, h4⟩ := own_e (enc := RoQ.e) _ _ h1 hne
    exact ⟨ad, h2, hF _ h3, h4⟩
set_option maxHeartbeats 1000000000 in
theorem tget_t (tb b : Nat) (x : RoN) (l r : Tre RoN) (k : Int) (a : Nat) (ha : a < 4294967296) (n : Nat) (hok : okX a n = true) :
  Tri Tryz.prog 93 [pt tb, pfV a n] [cel tb TTr [.pointer (Tre.nd b x l r).root, .int .i64 k], inn (Tre.nd b x l r).pc] [] (fun _ : Unit => True)
   (fun _ => .tuple #[.slice (gx ((Tre.nd b x l r).look ron0 (bitsP a n))).A (gx ((Tre.nd b x l r).look ron0 (bitsP a n))).xs.length (gx ((Tre.nd b x l r).look ron0 (bitsP a n))).c, .bool ((Tre.nd b x l r).look ron0 (bitsP a n)).is]) (fun _ => []) := by
 have c1 := tfind_t tb b x l r k a ha n hok
 unfold Tre.look
 cases hs : (Tre.nd b x l r).sub (bitsP a n) with
 | nil =>
  rw [hs] at c1
  simp only [root_nil] at c1
  unfold pfV at c1 ⊢
  refine Tri_of (N := Tryz.f93.ntmps) (c := bodyOf Tryz.f93) Tryz.func93 rfl rfl rfl rfl (fun w0 S0 => ?_)
  repeat' (first | refine SW ?_ | ((refine HO_g 2 rfl ?_); (refine HO_skip rfl rfl rfl rfl rdA ?_)) | refine SD ?_ | (refine HO_k 12 rfl ?_; refine HO_callq rfl rfl rfl rfl (c1) (fun _ _ => rfl) (srcsA) rfl rfl sqA ?_) | exact HO_seg rfl rfl | refine S1 ?_ | (refine S2 ?_; intro _) | (refine S3 ?_; intro _ _) | (refine S4 ?_; intro _ _ _) | (refine HO_g 2 rfl ?_; first | apply HO_a1 rfl | apply HO_o1 rfl) | refine S5 ?_ | (intro hb; try replace hb := simB hb; try exact kill hb))
  (refine SRt ?_; unfold RetQ; refine ⟨(), trivial, ?_, Keeps.nil⟩)
  rfl
 | nd cb y cl cr =>
  rw [hs] at c1
  simp only [root_nd] at c1 ⊢
  have hm : cel cb TNd [.pointer cl.root, .pointer cr.root, .slice y.A y.xs.length y.c, .bool y.is] ∈ (Tre.nd b x l r).pc := sub_in _ _ hs _ (by rw [pc_nd]; exact .head _)
  refine Tri_ro (ro := [cel tb TTr [.pointer (some ⟨b, 0, none⟩), .int .i64 k], inn (Tre.nd b x l r).pc, cel cb TNd [.pointer cl.root, .pointer cr.root, .slice y.A y.xs.length y.c, .bool y.is]]) ?_ (AllSrc.at_ 0 rfl (AllSrc.at_ 1 rfl (AllSrc.via 1 rfl (inn_cel hm) trivial)))
  show Tri _ _ _ _ _ _ (fun _ => .tuple #[.slice (gx y).A (gx y).xs.length (gx y).c, .bool y.is]) _
  unfold pfV at c1 ⊢
  cases hy : y.is with
  | true =>
   rw [show gx y = y by unfold gx; rw [hy]; rfl]
   refine Tri_of (N := Tryz.f93.ntmps) (c := bodyOf Tryz.f93) Tryz.func93 rfl rfl rfl rfl (fun w0 S0 => ?_)
   repeat' (first | refine SW ?_ | ((refine HO_g 2 rfl ?_); (refine HO_skip rfl rfl rfl rfl rdA ?_)) | refine SD ?_ | (refine HO_k 12 rfl ?_; refine HO_callq rfl rfl rfl rfl (c1) (fun _ _ => rfl) (srcsA) rfl rfl sqA ?_) | exact HO_seg rfl rfl | refine S1 ?_ | (refine S2 ?_; intro _) | (refine S3 ?_; intro _ _) | (refine S4 ?_; intro _ _ _) | (refine HO_g 2 rfl ?_; first | apply HO_a1 rfl | apply HO_o1 rfl) | refine S5 ?_ | (intro hb; try replace hb := simB hb; try exact kill hb))
   (refine SRt ?_; unfold RetQ; refine ⟨(), trivial, ?_, Keeps.nil⟩)
   rfl
  | false =>
   rw [show gx y = ron0 by unfold gx; rw [hy]; rfl]
   refine Tri_of (N := Tryz.f93.ntmps) (c := bodyOf Tryz.f93) Tryz.func93 rfl rfl rfl rfl (fun w0 S0 => ?_)
   repeat' (first | refine SW ?_ | ((refine HO_g 2 rfl ?_); (refine HO_skip rfl rfl rfl rfl rdA ?_)) | refine SD ?_ | (refine HO_k 12 rfl ?_; refine HO_callq rfl rfl rfl rfl (c1) (fun _ _ => rfl) (srcsA) rfl rfl sqA ?_) | exact HO_seg rfl rfl | refine S1 ?_ | (refine S2 ?_; intro _) | (refine S3 ?_; intro _ _) | (refine S4 ?_; intro _ _ _) | (refine HO_g 2 rfl ?_; first | apply HO_a1 rfl | apply HO_o1 rfl) | refine S5 ?_ | (intro hb; try replace hb := simB hb; try exact kill hb))
   (refine SRt ?_; unfold RetQ; refine ⟨(), trivial, ?_, Keeps.nil⟩)
   rfl
@[reducible] def TTab : Nat := 158
def covI (t : Tre RoN) (a i : Nat) : List RoQ := (List.range i).flatMap fun k => (gx (t.look ron0 (bitsP (topN a k) k))).xs
theorem covI_succ (t : Tre RoN) (a i : Nat) : covI t a (i + 1) = covI t a i ++ (gx (t.look ron0 (bitsP (topN a i) i))).xs := by
 unfold covI
 rw [List.range_succ, List.flatMap_append]
 simp
theorem covI_len {t : Tre RoN} {B : Nat} (hx : ∀ bs, (gx (t.look ron0 bs)).xs.length ≤ B) (a : Nat) : ∀ i, (covI t a i).length ≤ B * i
 | 0 => by simp [covI]
 | i + 1 => by
  rw [covI_succ, List.length_append]
  have h1 := covI_len hx a i
  have h2 := hx (bitsP (topN a i) i)
  rw [Nat.mul_succ]
  omega
set_option maxHeartbeats 1000000000 in
theorem cover_t (tt tb b : Nat) (x : RoN) (l r : Tre RoN) (k m : Int) (a : Nat) (ha : a < 4294967296) (n : Nat) (hn : n ≤ 32) (hx : ∀ bs, (gx ((Tre.nd b x l r).look ron0 bs)).xs.length ≤ 100000) :
  Tri Tryz.prog 98 [pt tt, pfV a n] [cel tt TTab [pt tb, .int .i64 m], cel tb TTr [.pointer (Tre.nd b x l r).root, .int .i64 k], inn (Tre.nd b x l r).pc] [] (fun _ : OA => True)
   (fun z => .slice z.1 (covI (Tre.nd b x l r) a (n + 1)).length z.2) (fun z => [own idE 73 4 z.1 (covI (Tre.nd b x l r) a (n + 1)).length z.2 ((covI (Tre.nd b x l r) a (n + 1)).map RoQ.e)]) := by
 have hg := fun (i : Nat) (hi : i ≤ 32) => tget_t tb b x l r k (topN a i) (Nat.lt_of_le_of_lt (topN_le a i) ha) i (okX_top1 a i hi)
 obtain ⟨t, ht⟩ : ∃ t, Tre.nd b x l r = t := ⟨_, rfl⟩
 have hroot : t.root = some ⟨b, 0, none⟩ := by rw [← ht]; rfl
 rw [ht] at hg hx ⊢
 rw [hroot] at hg ⊢
 clear ht x l r
 unfold pfV at hg ⊢
 refine Tri_of (N := Tryz.f98.ntmps) (c := bodyOf Tryz.f98) Tryz.func98 rfl rfl rfl rfl (fun w0 S0 => ?_)
 repeat' (first | refine SW ?_ | refine SD ?_ | exact HO_seg rfl rfl | refine S1 ?_ | (refine S2 ?_; intro _) | (refine S3 ?_; intro _ _) | (refine S4 ?_; intro _ _ _) | (refine HO_g 2 rfl ?_; first | apply HO_a1 rfl | apply HO_o1 rfl) | refine S5 ?_ | (intro hb; try replace hb := simB hb; try exact kill hb))
 rename_i b3
 refine HC_keeps (rw' := [own idE 73 4 none 0 0 [], cel b3 49 [.int .u32 a, .int .i64 n]]) (Keeps.add (fun w => own_nil w) Keeps.refl) ?_
 refine HC_loop (α := Nat × OA) (fun y => y.1 ≤ n + 1) (fun y => [(12, .int .i64 y.1), (11, .int .i64 (n + 1 : Nat)), (5, .slice y.2.1 (covI t a y.1).length y.2.2), (3, pt b3), (0, pt tt)])
  (fun y => [own idE 73 4 y.2.1 (covI t a y.1).length y.2.2 ((covI t a y.1).map RoQ.e), cel b3 49 [.int .u32 a, .int .i64 n]]) (fun y => n + 1 - y.1) rfl (0, none, 0) (Nat.zero_le _) ⟨rfl, rfl, rfl, rfl, rfl, trivial⟩ rfl ?_
 rintro ⟨i, A, c⟩ hi
 dsimp only at hi ⊢
 by_cases hlt : i < n + 1
 ·have c1 := amake_t a ha i
  rw [clN_nat i (by omega)] at c1
  have c2 := hg i (by omega)
  have h1 := covI_len hx a i
  have h2 := hx (bitsP (topN a i) i)
  have h3 : 100000 * i ≤ 100000 * 32 := Nat.mul_le_mul_left _ (by omega)
  have hs := covI_succ t a i
  unfold pfV at c1
  refine HC_addR 2 rfl (look_ent t (bitsP (topN a i) i)) ?_
  obtain ⟨g, hgx⟩ : ∃ g, gx (t.look ron0 (bitsP (topN a i) i)) = g := ⟨_, rfl⟩
  obtain ⟨gi, hgi⟩ : ∃ g, (t.look ron0 (bitsP (topN a i) i)).is = g := ⟨_, rfl⟩
  obtain ⟨L, hL⟩ : ∃ L, covI t a i = L := ⟨_, rfl⟩
  rw [hgx] at c2 h2 hs ⊢
  rw [hgi] at c2
  rw [hL] at h1 hs ⊢
  have hb1 : (L.length + g.xs.length) * 40 ≤ 140737488355328 := by omega
  repeat' (first | refine SW ?_ | refine SD ?_ | (refine HO_k 12 rfl ?_; refine HO_callq rfl rfl rfl rfl (c1) (fun _ _ => rfl) (trivial) rfl rfl sqA ?_) | (refine HO_k 12 rfl ?_; refine HO_callq rfl rfl rfl rfl (c2) (fun _ _ => rfl) (srcsA) rfl rfl sqA ?_) | (refine HO_k 11 rfl ?_; refine HO_appr rfl rfl rfl rfl rfl rfl rfl rfl ?h1 ?h2 rfl rfl ?h3 ?h4 rfl rfl rfl ?h5 ?_; (case h1 => simp only [List.length_append, List.length_map, List.length_cons, List.length_nil, be_length]); (case h2 => repeat (first | exact WfL.nil | exact WfL.map | apply WfL.append | refine WfL.cons rfl rfl ?_ | assumption)); (case h3 => (try simp only [List.length_append, List.length_map, List.length_cons, List.length_nil, be_length]); (try omega)); (case h4 => (try simp only [List.length_append, List.length_map, List.length_cons, List.length_nil, be_length]); (try omega)); (case h5 => exact soA); intro _ _) | exact HO_seg rfl rfl | refine S1 ?_ | (refine S2 ?_; intro _) | (refine S3 ?_; intro _ _) | (refine S4 ?_; intro _ _ _) | (refine HO_g 2 rfl ?_; first | apply HO_a1 rfl | apply HO_o1 rfl) | refine S5 ?_ | (intro hb; try replace hb := simB hb; try exact kill hb))
  rename_i A' c'
  have hlen : (covI t a (i + 1)).length = L.length + g.xs.length := by rw [hs, List.length_append]
  have hmap : (covI t a (i + 1)).map RoQ.e = L.map RoQ.e ++ g.xs.map RoQ.e := by rw [hs, List.map_append]
  refine HX_dropR ?_
  exact HX_at (i + 1, A', c') ⟨hlt, by show n + 1 - (i + 1) < n + 1 - i; omega⟩ ⟨rfl, rfl, by dsimp only; rw [hlen]; rfl, rfl, rfl, trivial⟩ (by dsimp only; rw [hlen, hmap])
 ·obtain rfl : i = n + 1 := by omega
  repeat' (first | refine SW ?_ | refine SD ?_ | exact HO_seg rfl rfl | refine S1 ?_ | (refine S2 ?_; intro _) | (refine S3 ?_; intro _ _) | (refine S4 ?_; intro _ _ _) | (refine HO_g 2 rfl ?_; first | apply HO_a1 rfl | apply HO_o1 rfl) | refine S5 ?_ | (intro hb; try replace hb := simB hb; try exact kill hb))
  (refine SRt ?_; unfold RetQ; refine ⟨(A, c), trivial, rfl, Keeps.pick 0 rfl rfl Keeps.nil⟩)
def pathR (x : RoQ) : List Bool := bitsP x.a x.n.toNat
def TabOk (t : Tre RoN) (l : List RoQ) : Prop := ∀ bs, (gx (t.look ron0 bs)).xs = l.filter fun x => decide (pathR x = bs)
theorem TabOk.le {t : Tre RoN} {l : List RoQ} (h : TabOk t l) (hl : l.length ≤ 4096) (bs : List Bool) : (gx (t.look ron0 bs)).xs.length ≤ 4096 := by
 rw [h bs]
 exact Nat.le_trans (List.length_filter_le _ _) hl
theorem TabOk.nil (b : Nat) : TabOk (.nd b ron0 .nil .nil) [] := fun bs => by
 have : (Tre.nd b ron0 .nil .nil).look ron0 bs = ron0 := by
  cases bs with
  | nil => rfl
  | cons i bs =>
   show ((Tre.nd b ron0 .nil .nil).kid i).look ron0 bs = ron0
   cases i <;> exact Tre.look_nil _ _
 rw [this]
 rfl
theorem TabOk.snoc {t t' : Tre RoN} {l : List RoQ} {x : RoQ} {A : Option Addr} {c : Nat} (h : TabOk t l)
  (h' : ∀ bs, t'.look ron0 bs = if bs = pathR x then ⟨A, c, (gx (t.look ron0 (pathR x))).xs ++ [x], true⟩ else t.look ron0 bs) : TabOk t' (l ++ [x]) := fun bs => by
 rw [h' bs, List.filter_append]
 by_cases hb : bs = pathR x
 ·subst hb
  rw [if_pos rfl, h (pathR x)]
  simp [gx]
 ·rw [if_neg hb, h bs]
  simp [show ¬ pathR x = bs from fun e => hb e.symm]
theorem root_some {α : Type} {t : Tre α} {b : Nat} (h : t.root = some ⟨b, 0, none⟩) : ∃ x l r, t = .nd b x l r := by
 cases t with
 | nil => cases h
 | nd c x l r =>
  rw [root_nd] at h
  injection h with h
  injection h with h
  subst h
  exact ⟨_, _, _, rfl⟩
theorem roOk_pf {x : RoQ} (h : roOk x = true) : ∃ n : Nat, x.n = n ∧ okX x.a n = true ∧ n ≤ 32 := by
 unfold roOk at h
 simp only [Bool.and_eq_true] at h
 have h1 := h.1.1.1.1
 have h2 := okX_len h1
 refine ⟨x.n.toNat, by omega, ?_, by omega⟩
 rw [show ((x.n.toNat : Nat) : Int) = x.n by omega]
 exact h1
def tabP (tt tb b0 : Nat) (n k : Int) (t : Tre RoN) : List SL := [cel tt TTab [pt tb, .int .i64 n], cel tb TTr [pt b0, .int .i64 k], outn t.pc]
theorem ronew_no (A : Option Addr) (c : Nat) (l : List RoQ) (hl : l.length ≤ 4096) (ha : ∀ x ∈ l, x.a < 4294967296) (hok : roaOk l = false) :
  Tri Tryz.prog 29 [.slice A l.length c] [arr RoQ.e 4 A l] [] (fun _ : Unit => True) (fun _ => .tuple #[.pointer none, .int .i64 330]) (fun _ => []) := by
 have c1 := rocheck_t A c l hl ha
 rw [hok] at c1
 simp only [Bool.false_eq_true, if_false] at c1
 refine Tri_of (N := Tryz.f29.ntmps) (c := bodyOf Tryz.f29) Tryz.func29 rfl rfl rfl rfl (fun w0 S0 => ?_)
 repeat' (first | refine SW ?_ | refine SD ?_ | (refine HO_k 12 rfl ?_; refine HO_callq rfl rfl rfl rfl (c1) (fun _ _ => rfl) (srcsA) rfl rfl sqA ?_) | exact HO_seg rfl rfl | refine S1 ?_ | (refine S2 ?_; intro _) | (refine S3 ?_; intro _ _) | (refine S4 ?_; intro _ _ _) | (refine HO_g 2 rfl ?_; first | apply HO_a1 rfl | apply HO_o1 rfl) | refine S5 ?_ | (intro hb; try replace hb := simB hb; try exact kill hb))
 (refine SRt ?_; unfold RetQ; refine ⟨(), trivial, ?_, Keeps.nil⟩)
 rfl
set_option maxHeartbeats 1000000000 in
theorem ronew_t (A : Option Addr) (c : Nat) (l : List RoQ) (hl : l.length ≤ 4096) (ha : ∀ x ∈ l, x.a < 4294967296) (hok : roaOk l = true) :
  Tri Tryz.prog 29 [.slice A l.length c] [arr RoQ.e 4 A l] [] (fun z : (Nat × Nat × Nat) × Int × Tre RoN => z.2.2.root = some ⟨z.1.2.2, 0, none⟩ ∧ TabOk z.2.2 l)
   (fun z => .tuple #[pt z.1.1, .int .i64 0]) (fun z => tabP z.1.1 z.1.2.1 z.1.2.2 l.length z.2.1 z.2.2) := by
 have c1 := rocheck_t A c l hl ha
 rw [hok] at c1
 simp only [if_true] at c1
 have c2 := tnew_t
 have hall : ∀ x ∈ l, roOk x = true := by
  unfold roaOk at hok
  simp only [Bool.and_eq_true, List.all_eq_true] at hok
  exact hok.1
 refine Tri_of (N := Tryz.f29.ntmps) (c := bodyOf Tryz.f29) Tryz.func29 rfl rfl rfl rfl (fun w0 S0 => ?_)
 repeat' (first | refine SW ?_ | refine SD ?_ | (refine HO_k 12 rfl ?_; refine HO_callq rfl rfl rfl rfl (c1) (fun _ _ => rfl) (srcsA) rfl rfl sqA ?_) | (refine HO_k 12 rfl ?_; refine HO_call rfl rfl rfl rfl (c2) rfl (trivial) rfl rfl soA ?_; intro z hz; dsimp only [lca, lna]) | exact HO_seg rfl rfl | refine S1 ?_ | (refine S2 ?_; intro _) | (refine S3 ?_; intro _ _) | (refine S4 ?_; intro _ _ _) | (refine HO_g 2 rfl ?_; first | apply HO_a1 rfl | apply HO_o1 rfl) | refine S5 ?_ | (intro hb; try replace hb := simB hb; try exact kill hb))
 rename_i tt
 obtain ⟨tb, b0⟩ := z
 clear hz c1 c2
 refine HC_keeps (rw' := tabP tt tb b0 l.length 0 (.nd b0 ron0 .nil .nil)) ?_ ?_
 ·refine Keeps.cmp (show Keeps _ ([own idE 73 4 none 0 0 [], cel b0 TNd [.pointer none, .pointer none, .slice none 0 0, .bool false], cel tt TTab [pt tb, .int .i64 l.length], cel tb TTr [pt b0, .int .i64 0]]) from Keeps.add (fun w => own_nil w) permA) ?_
  unfold tabP
  refine Keeps.pick 2 rfl rfl (Keeps.pick 2 rfl rfl (Keeps.outn_close ?_))
  exact permA
 refine HC_loop (α := Nat × Int × Tre RoN) (fun y => y.1 ≤ l.length ∧ (∃ x l r, y.2.2 = .nd b0 x l r) ∧ TabOk y.2.2 (l.take y.1) ∧ 0 ≤ y.2.1 ∧ y.2.1 ≤ y.1) (fun y => [(22, .int .i64 y.1), (21, .int .i64 l.length), (20, .slice A l.length c), (5, pt tt)])
  (fun y => tabP tt tb b0 l.length y.2.1 y.2.2) (fun y => l.length - y.1) rfl (0, 0, .nd b0 ron0 .nil .nil) ⟨Nat.zero_le _, ⟨_, _, _, rfl⟩, TabOk.nil b0, Int.le_refl _, Int.le_refl _⟩ ⟨rfl, rfl, rfl, rfl, trivial⟩ rfl ?_
 rintro ⟨i, k, t⟩ ⟨hi, ⟨vx, cl, cr, rfl⟩, htab, hk1, hk2⟩
 dsimp only at hi htab hk1 hk2 ⊢
 rcases Nat.lt_or_ge i l.length with hlt | hge
 ·obtain ⟨x, hx⟩ : ∃ x, l[i]? = some x := ⟨l[i], List.getElem?_eq_getElem hlt⟩
  obtain ⟨n, hn, hok1, hn32⟩ := roOk_pf (hall x (List.mem_of_getElem? hx))
  have ha1 := ha x (List.mem_of_getElem? hx)
  have hpath : bitsP x.a n = pathR x := by unfold pathR; rw [hn]; rfl
  have c1 := tget_t tb b0 vx cl cr k x.a ha1 n hok1
  have h2 := htab.le (by rw [List.length_take]; omega) (pathR x)
  have hent : Ent (outn (Tre.nd b0 vx cl cr).pc) (arr RoQ.e 4 (gx ((Tre.nd b0 vx cl cr).look ron0 (pathR x))).A (gx ((Tre.nd b0 vx cl cr).look ron0 (pathR x))).xs) := fun S w h => look_ent (.nd b0 vx cl cr) (pathR x) S w (outn_inn S w h)
  rw [hpath] at c1
  have c4 := fun vA vc (xs : List RoQ) => tset_t tb b0 vx cl cr k ⟨hk1, by omega⟩ x.a ha1 n hok1 vA vc xs
  rw [hpath] at c4
  rw [← hn] at c1 c4
  have hsn := fun A c t' h => TabOk.snoc (t' := t') (x := x) (A := A) (c := c) htab h
  simp only [root_nd] at c1 c4
  unfold pfV at c1 c4
  obtain ⟨t, ht⟩ : ∃ t, Tre.nd b0 vx cl cr = t := ⟨_, rfl⟩
  rw [ht] at c1 h2 hent ⊢
  simp only [ht] at c4 hsn
  obtain ⟨g, hgx⟩ : ∃ g, gx (t.look ron0 (pathR x)) = g := ⟨_, rfl⟩
  obtain ⟨gi, hgi⟩ : ∃ g, (t.look ron0 (pathR x)).is = g := ⟨_, rfl⟩
  rw [hgx] at c1 h2 hent
  simp only [hgx] at hsn
  rw [hgi] at c1
  have c3 := roclone_t g.A g.xs.length g.c g.xs rfl (by omega)
  have hb1 : (g.xs.length + 1) * 40 ≤ 140737488355328 := by omega
  have c5 := fun vA vc => c4 vA vc (g.xs ++ [x])
  simp only [List.length_append, List.map_append, List.length_cons, List.length_nil, List.map_cons, List.map_nil] at c5
  clear c4
  unfold tabP
  repeat' (first | refine SW ?_ | refine SD ?_ | (refine HO_k 12 rfl ?_; refine HO_callq rfl rfl rfl rfl (c1) (fun _ _ => rfl) ((AllSrc.at_ 3 rfl (AllSrc.via 4 rfl outn_inn trivial))) rfl rfl sqA ?_) | (first | refine HO_2p 7 9 (by decide +kernel) rfl rfl (by decide +kernel) ?_ ?_) | (refine HO_k 12 rfl ?_; refine HO_call rfl rfl rfl rfl (c3) rfl ((by first | exact AllSrc.via 4 rfl hent trivial | exact AllSrc.via 5 rfl hent trivial)) rfl rfl soA ?_; intro z3 hz3; dsimp only [lca, lna]) | (refine HO_k 11 rfl ?_; refine HO_appw rfl rfl rfl rfl rfl rfl rfl rfl ?h1 ?h2 rfl rfl ?h3 ?h4 rfl rfl rfl ?h5 ?_; (case h1 => simp only [List.length_append, List.length_map, List.length_cons, List.length_nil, be_length]); (case h2 => repeat (first | exact WfL.nil | exact WfL.map | apply WfL.append | refine WfL.cons rfl rfl ?_ | assumption)); (case h3 => (try simp only [List.length_append, List.length_map, List.length_cons, List.length_nil, be_length]); (try omega)); (case h4 => (try simp only [List.length_append, List.length_map, List.length_cons, List.length_nil, be_length]); (try omega)); (case h5 => exact soA); intro _ _) | (refine HO_k 12 rfl ?_; refine HO_mv 3 rfl rfl ?_; refine HO_mv 3 rfl rfl ?_; refine HO_call rfl rfl rfl rfl (c5 _ _) rfl (trivial) rfl rfl soA ?_; intro z4 hz4; dsimp only [lca, lna]) | exact HO_seg rfl rfl | refine S1 ?_ | (refine S2 ?_; intro _) | (refine S3 ?_; intro _ _) | (refine S4 ?_; intro _ _ _) | (refine HO_g 2 rfl ?_; first | apply HO_a1 rfl | apply HO_o1 rfl) | refine S5 ?_ | (intro hb; try replace hb := simB hb; try exact kill hb))
  all_goals
   refine HX_keeps (rw' := tabP tt tb b0 l.length z4.2 z4.1) (Keeps.pick 1 rfl rfl (Keeps.pick 1 rfl rfl (Keeps.pick 1 rfl rfl Keeps.nil))) ?_
   exact HX_at (i + 1, z4.2, z4.1) ⟨⟨hlt, root_some hz4.1, by
    show TabOk z4.1 (l.take (i + 1))
    rw [take_snoc hx]
    exact hsn _ _ z4.1 hz4.2.1, by have := hz4.2.2.1; show 0 ≤ z4.2; omega, by have := hz4.2.2.2; show z4.2 ≤ ((i + 1 : Nat) : Int); omega⟩, by show l.length - (i + 1) < l.length - i; omega⟩ ⟨rfl, rfl, rfl, rfl, trivial⟩ rfl
 ·obtain rfl : i = l.length := by omega
  rw [List.take_length] at htab
  repeat' (first | refine SW ?_ | refine SD ?_ | exact HO_seg rfl rfl | refine S1 ?_ | (refine S2 ?_; intro _) | (refine S3 ?_; intro _ _) | (refine S4 ?_; intro _ _ _) | (refine HO_g 2 rfl ?_; first | apply HO_a1 rfl | apply HO_o1 rfl) | refine S5 ?_ | (intro hb; try replace hb := simB hb; try exact kill hb))
  (refine SRt ?_; unfold RetQ; refine ⟨((tt, tb, b0), k, .nd b0 vx cl cr), ⟨rfl, htab⟩, rfl, Keeps.refl⟩)
end Go.Proofs.YtbhiojedmkcfoaaGreatDoor
