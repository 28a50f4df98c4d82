/- Part of a proof of many texts: what the theorem at its end leans on. -/
import Derived.Test.YtbhiojedmkcfoaaGreatDoorRTrA
namespace Go.Proofs.YtbhiojedmkcfoaaGreatDoor
set_option linter.unusedVariables false
set_option linter.unusedSimpArgs false
open Go.RowKit
attribute [local irreducible] HC HX HO Tri eP adr
theorem perm_open {α : Type} (W L R : List α) (e o : α) : (W ++ (e :: o :: (L ++ R))).Perm (e :: (o :: (W ++ (L ++ R)))) :=
 List.perm_middle.trans (.cons _ List.perm_middle)
theorem perm_f {α : Type} (W L R : List α) (e o : α) : (e :: (o :: (W ++ (L ++ R)))).Perm (((e :: (o :: R)) ++ W) ++ L) := by
 refine .cons _ (.cons _ ?_)
 show (W ++ (L ++ R)).Perm ((R ++ W) ++ L)
 rw [List.append_assoc, ← List.append_assoc]
 exact List.perm_append_comm
theorem perm_t {α : Type} (W L R : List α) (e o : α) : (e :: (o :: (W ++ (L ++ R)))).Perm (((e :: (o :: L)) ++ W) ++ R) := by
 refine .cons _ (.cons _ ?_)
 show (W ++ (L ++ R)).Perm ((L ++ W) ++ R)
 rw [← List.append_assoc]
 exact List.Perm.append_right _ List.perm_append_comm
theorem Keeps.outO {e : SL} {X Y rest : List SL} (h : Y.Perm (e :: X)) : Keeps (outn Y :: rest) (e :: outn X :: rest) := by
 refine Keeps.outn_open ?_
 refine Keeps.cmp (Keeps.perm (List.Perm.append_right rest h)) ?_
 exact Keeps.cons Ent.rfl_ (Keeps.outn_close Keeps.refl)
theorem Keeps.outC {e : SL} {X Y rest : List SL} (h : (e :: X).Perm Y) : Keeps (e :: outn X :: rest) (outn Y :: rest) := by
 refine Keeps.outn_close ?_
 refine Keeps.cmp (Keeps.swap (Keeps.outn_open Keeps.refl)) ?_
 refine Keeps.perm ?_
 refine List.Perm.trans (List.perm_middle) ?_
 exact List.Perm.append_right rest h
theorem perm_fn {α : Type} (W R : List α) (e ov n o : α) : (o :: n :: e :: (ov :: (W ++ R))).Perm (((e :: (ov :: R)) ++ W) ++ [n, o]) := by
 refine List.Perm.trans (.swap _ _ _) ?_
 refine List.Perm.trans ?_ List.perm_append_comm
 exact .cons _ (.cons _ (.cons _ (.cons _ List.perm_append_comm)))
theorem perm_tn {α : Type} (W L : List α) (e ov n o : α) : (o :: n :: e :: (ov :: (W ++ (L ++ [])))).Perm (((e :: (ov :: L)) ++ W) ++ [n, o]) := by
 rw [List.append_nil]
 exact perm_fn W L e ov n o
theorem Keeps.outN {e n o : SL} {X Y rest : List SL} (ho : ∀ w, o.p (fun _ => False) w) (h : (o :: n :: e :: X).Perm Y) : Keeps (n :: e :: outn X :: rest) (outn Y :: rest) := by
 refine Keeps.cmp (Keeps.add ho Keeps.refl) ?_
 refine Keeps.pull 3 rfl ?_
 refine Keeps.outn_open (Keeps.outn_close ?_)
 refine Keeps.cmp (Keeps.perm (?_ : (X ++ ([o, n, e] ++ rest)).Perm (([o, n, e] ++ X) ++ rest))) (Keeps.perm (List.Perm.append_right rest h))
 rw [← List.append_assoc]
 exact List.Perm.append_right _ List.perm_append_comm
theorem Keeps.outF {e o ov c : SL} {Z Y : List SL} (h : (e :: o :: Z).Perm Y) : Keeps [e, outn (ov :: Z), c, o] [outn Y] := by
 refine Keeps.outn_close ?_
 rw [List.append_nil]
 refine Keeps.cmp (Keeps.cons Ent.rfl_ (Keeps.outn_open ?_)) (Keeps.perm h)
 refine Keeps.skip ?_
 exact Keeps.cmp (Keeps.perm (show (Z ++ [c, o]).Perm (c :: (o :: Z)) from List.perm_append_comm)) (Keeps.skip Keeps.refl)
def onW (c : List (Fra RoN)) (t : Tre RoN) : List SL := wayP TNd RoN.e RoN.ow c t.root ++ t.pc
set_option maxHeartbeats 1000000000 in
theorem tset_t (tb b : Nat) (x : RoN) (l r : Tre RoN) (k : Int) (hk : 0 ≤ k ∧ k ≤ 1000000000) (a : Nat) (ha : a < 4294967296) (n : Nat) (hok : okX a n = true) (vA : Option Addr) (vc : Nat) (vx : List RoQ) :
  Tri Tryz.prog 94 [pt tb, pfV a n, .slice vA vx.length vc] [] [cel tb TTr [.pointer (Tre.nd b x l r).root, .int .i64 k], outn (Tre.nd b x l r).pc, own idE 73 4 vA vx.length vc (vx.map RoQ.e)]
   (fun z : Tre RoN × Int => z.1.root = (Tre.nd b x l r).root ∧ (∀ bs, z.1.look ron0 bs = if bs = bitsP a n then ⟨vA, vc, vx, true⟩ else (Tre.nd b x l r).look ron0 bs) ∧ k ≤ z.2 ∧ z.2 ≤ k + 1)
   (fun _ => .int .i64 0) (fun z => [cel tb TTr [.pointer (Tre.nd b x l r).root, .int .i64 z.2], outn z.1.pc]) := by
 have c1 := tmade_t tb b x l r k
 have c2 := addrCheck_t a ha n
 rw [hok] at c2
 simp only [if_true] at c2
 have hn : n ≤ 32 := by
  unfold okX at hok
  have h1 := (of_decide_eq_true hok).2
  have h2 := clN_le (n : Int)
  omega
 obtain ⟨t, ht⟩ : ∃ t, Tre.nd b x l r = t := ⟨_, rfl⟩
 have hroot : t.root = some ⟨b, 0, none⟩ := by rw [← ht]; rfl
 have hnd : ∃ b x l r, t = .nd b x l r := ⟨b, x, l, r, ht.symm⟩
 rw [ht, hroot] at c1
 rw [ht, hroot]
 clear ht x l r
 unfold pfV at c2 ⊢
 refine Tri_of (N := Tryz.f94.ntmps) (c := bodyOf Tryz.f94) Tryz.func94 rfl rfl rfl rfl (fun w0 S0 => ?_)
 repeat' (first | refine SW ?_ | ((refine HO_g 2 rfl ?_); (refine HO_skip rfl rfl rfl rfl rdA ?_)) | refine SD ?_ | (refine HO_k 12 rfl ?_; refine HO_callq rfl rfl rfl rfl (c1) (fun _ _ => rfl) (srcsA) rfl rfl sqA ?_) | (refine HO_k 12 rfl ?_; refine HO_callq rfl rfl rfl rfl (c2) (fun _ _ => rfl) (trivial) rfl rfl sqA ?_) | exact HO_seg rfl rfl | refine S1 ?_ | (refine S2 ?_; intro _) | (refine S3 ?_; intro _ _) | (refine S4 ?_; intro _ _ _) | (refine HO_g 2 rfl ?_; first | apply HO_a1 rfl | apply HO_o1 rfl) | refine S5 ?_ | (intro hb; try replace hb := simB hb; try exact kill hb))
 rename_i b4
 refine HC_keeps (rw' := [outn (onW [] t), cel b4 49 [.int .u32 a, .int .i64 n], cel tb TTr [pt b, .int .i64 k], own idE 73 4 vA vx.length vc (vx.map RoQ.e)]) ?_ ?_
 ·show Keeps _ [outn t.pc, _, _, _]
  exact permA
 refine HC_loop (α := Nat × List (Fra RoN) × Tre RoN) (fun y => y.1 ≤ n ∧ (∃ b x l r, y.2.2 = .nd b x l r) ∧ wayOf y.2.1 = (bitsP a n).take y.1 ∧ (∀ bs, (plug y.2.1 y.2.2).look ron0 bs = t.look ron0 bs) ∧ (plug y.2.1 y.2.2).root = t.root)
  (fun y => [(25, .int .i64 y.1), (24, .int .i64 n), (8, .pointer y.2.2.root), (6, .int .i64 0), (4, pt b4), (2, .slice vA vx.length vc), (0, pt tb)])
  (fun y => [outn (onW y.2.1 y.2.2), cel b4 49 [.int .u32 a, .int .i64 n], cel tb TTr [pt b, .int .i64 k], own idE 73 4 vA vx.length vc (vx.map RoQ.e)])
  (fun y => n - y.1) rfl (0, [], t) ⟨Nat.zero_le _, hnd, rfl, fun _ => rfl, rfl⟩ ⟨rfl, rfl, by rw [hroot]; rfl, rfl, rfl, rfl, rfl, trivial⟩ rfl ?_
 rintro ⟨i, cx, cur⟩ ⟨hi, ⟨cb, v, cl, cr, rfl⟩, hw, hlk, hrt⟩
 dsimp only at hi hw hlk hrt ⊢
 simp only [root_nd, root_nil]
 refine HC_keeps (Keeps.outO (show (onW cx (.nd cb v cl cr)).Perm (cel cb TNd [.pointer cl.root, .pointer cr.root, .slice v.A v.xs.length v.c, .bool v.is] :: (own idE 73 4 v.A v.xs.length v.c (v.xs.map RoQ.e) :: (wayP TNd RoN.e RoN.ow cx (some ⟨cb, 0, none⟩) ++ (cl.pc ++ cr.pc)))) from perm_open _ _ _ _ _)) ?_
 by_cases hlt : i < n
 ·have c3 := abit_t a ha i
  have htk := bitsP_take a n i hlt
  rcases bitN_01 a i with hb | hb
  ·rw [hb] at c3 htk
   have hw' : wayOf (⟨cb, v, false, cr⟩ :: cx) = (bitsP a n).take (i + 1) := by
    show wayOf cx ++ [false] = _
    rw [hw, htk]
    rfl
   cases hk2 : cl with
   | nil =>
    rw [hk2] at hlk hrt
    simp only [root_nil]
    repeat' (first | refine SW ?_ | ((refine HO_g 2 rfl ?_); (refine HO_skip rfl rfl rfl rfl rdA ?_)) | refine SD ?_ | (refine HO_k 12 rfl ?_; refine HO_callq rfl rfl rfl rfl (c3) (fun _ _ => rfl) (trivial) rfl rfl sqA ?_) | (refine HO_k 10 rfl ?_; refine HO_ixa (j := 0) rfl rfl rfl rfl (by decide) rfl rfl rdA ?_) | exact HO_seg rfl rfl | refine S1 ?_ | (refine S2 ?_; intro _) | (refine S3 ?_; intro _ _) | (refine S4 ?_; intro _ _ _) | (refine HO_g 2 rfl ?_; first | apply HO_a1 rfl | apply HO_o1 rfl) | refine S5 ?_ | (intro hb; try replace hb := simB hb; try exact kill hb))
    rename_i nb
    refine HX_keeps (rw' := [outn (onW (⟨cb, v, false, cr⟩ :: cx) (.nd nb ron0 .nil .nil)), cel b4 49 [.int .u32 a, .int .i64 n], cel tb TTr [pt b, .int .i64 k], own idE 73 4 vA vx.length vc (vx.map RoQ.e)]) (Keeps.outN (o := own idE 73 4 none 0 0 []) (fun w => own_nil w) (perm_fn _ _ _ _ _ _)) ?_
    exact HX_at (i + 1, ⟨cb, v, false, cr⟩ :: cx, .nd nb ron0 .nil .nil) ⟨⟨hlt, ⟨_, _, _, _, rfl⟩, hw', fun bs => (plug_congr ron0 cx (mkid cb v false .nil cr) (mkid cb v false (.nd nb ron0 .nil .nil) cr) (fun bs => begun_look ron0 cb nb v false cr bs) bs).trans (hlk bs), (plug_root cx (mkid cb v false (.nd nb ron0 .nil .nil) cr) (mkid cb v false .nil cr) rfl).trans hrt⟩, by show n - (i + 1) < n - i; omega⟩ ⟨rfl, rfl, rfl, rfl, rfl, rfl, rfl, trivial⟩ rfl
   | nd kb kx kl kr =>
    rw [hk2] at hlk hrt
    simp only [root_nd]
    repeat' (first | refine SW ?_ | ((refine HO_g 2 rfl ?_); (refine HO_skip rfl rfl rfl rfl rdA ?_)) | refine SD ?_ | (refine HO_k 12 rfl ?_; refine HO_callq rfl rfl rfl rfl (c3) (fun _ _ => rfl) (trivial) rfl rfl sqA ?_) | (refine HO_k 10 rfl ?_; refine HO_ixa (j := 0) rfl rfl rfl rfl (by decide) rfl rfl rdA ?_) | exact HO_seg rfl rfl | refine S1 ?_ | (refine S2 ?_; intro _) | (refine S3 ?_; intro _ _) | (refine S4 ?_; intro _ _ _) | (refine HO_g 2 rfl ?_; first | apply HO_a1 rfl | apply HO_o1 rfl) | refine S5 ?_ | (intro hb; try replace hb := simB hb; try exact kill hb))
    refine HX_keeps (rw' := [outn (onW (⟨cb, v, false, cr⟩ :: cx) (.nd kb kx kl kr)), cel b4 49 [.int .u32 a, .int .i64 n], cel tb TTr [pt b, .int .i64 k], own idE 73 4 vA vx.length vc (vx.map RoQ.e)]) (Keeps.outC (perm_f _ _ _ _ _)) ?_
    exact HX_at (i + 1, ⟨cb, v, false, cr⟩ :: cx, .nd kb kx kl kr) ⟨⟨hlt, ⟨_, _, _, _, rfl⟩, hw', hlk, hrt⟩, by show n - (i + 1) < n - i; omega⟩ ⟨rfl, rfl, rfl, rfl, rfl, rfl, rfl, trivial⟩ rfl
  ·rw [hb] at c3 htk
   have hw' : wayOf (⟨cb, v, true, cl⟩ :: cx) = (bitsP a n).take (i + 1) := by
    show wayOf cx ++ [true] = _
    rw [hw, htk]
    rfl
   cases hk2 : cr with
   | nil =>
    rw [hk2] at hlk hrt
    simp only [root_nil]
    repeat' (first | refine SW ?_ | ((refine HO_g 2 rfl ?_); (refine HO_skip rfl rfl rfl rfl rdA ?_)) | refine SD ?_ | (refine HO_k 12 rfl ?_; refine HO_callq rfl rfl rfl rfl (c3) (fun _ _ => rfl) (trivial) rfl rfl sqA ?_) | (refine HO_k 10 rfl ?_; refine HO_ixa (j := 1) rfl rfl rfl rfl (by decide) rfl rfl rdA ?_) | exact HO_seg rfl rfl | refine S1 ?_ | (refine S2 ?_; intro _) | (refine S3 ?_; intro _ _) | (refine S4 ?_; intro _ _ _) | (refine HO_g 2 rfl ?_; first | apply HO_a1 rfl | apply HO_o1 rfl) | refine S5 ?_ | (intro hb; try replace hb := simB hb; try exact kill hb))
    rename_i nb
    refine HX_keeps (rw' := [outn (onW (⟨cb, v, true, cl⟩ :: cx) (.nd nb ron0 .nil .nil)), cel b4 49 [.int .u32 a, .int .i64 n], cel tb TTr [pt b, .int .i64 k], own idE 73 4 vA vx.length vc (vx.map RoQ.e)]) (Keeps.outN (o := own idE 73 4 none 0 0 []) (fun w => own_nil w) (perm_tn _ _ _ _ _ _)) ?_
    exact HX_at (i + 1, ⟨cb, v, true, cl⟩ :: cx, .nd nb ron0 .nil .nil) ⟨⟨hlt, ⟨_, _, _, _, rfl⟩, hw', fun bs => (plug_congr ron0 cx (mkid cb v true .nil cl) (mkid cb v true (.nd nb ron0 .nil .nil) cl) (fun bs => begun_look ron0 cb nb v true cl bs) bs).trans (hlk bs), (plug_root cx (mkid cb v true (.nd nb ron0 .nil .nil) cl) (mkid cb v true .nil cl) rfl).trans hrt⟩, by show n - (i + 1) < n - i; omega⟩ ⟨rfl, rfl, rfl, rfl, rfl, rfl, rfl, trivial⟩ rfl
   | nd kb kx kl kr =>
    rw [hk2] at hlk hrt
    simp only [root_nd]
    repeat' (first | refine SW ?_ | ((refine HO_g 2 rfl ?_); (refine HO_skip rfl rfl rfl rfl rdA ?_)) | refine SD ?_ | (refine HO_k 12 rfl ?_; refine HO_callq rfl rfl rfl rfl (c3) (fun _ _ => rfl) (trivial) rfl rfl sqA ?_) | (refine HO_k 10 rfl ?_; refine HO_ixa (j := 1) rfl rfl rfl rfl (by decide) rfl rfl rdA ?_) | exact HO_seg rfl rfl | refine S1 ?_ | (refine S2 ?_; intro _) | (refine S3 ?_; intro _ _) | (refine S4 ?_; intro _ _ _) | (refine HO_g 2 rfl ?_; first | apply HO_a1 rfl | apply HO_o1 rfl) | refine S5 ?_ | (intro hb; try replace hb := simB hb; try exact kill hb))
    refine HX_keeps (rw' := [outn (onW (⟨cb, v, true, cl⟩ :: cx) (.nd kb kx kl kr)), cel b4 49 [.int .u32 a, .int .i64 n], cel tb TTr [pt b, .int .i64 k], own idE 73 4 vA vx.length vc (vx.map RoQ.e)]) (Keeps.outC (perm_t _ _ _ _ _)) ?_
    exact HX_at (i + 1, ⟨cb, v, true, cl⟩ :: cx, .nd kb kx kl kr) ⟨⟨hlt, ⟨_, _, _, _, rfl⟩, hw', hlk, hrt⟩, by show n - (i + 1) < n - i; omega⟩ ⟨rfl, rfl, rfl, rfl, rfl, rfl, rfl, trivial⟩ rfl
 ·obtain rfl : i = n := by omega
  have he : (bitsP a i).take i = bitsP a i := List.take_of_length_le (Nat.le_of_eq (bitsP_len a i))
  rw [he] at hw
  have hset := plug_set ron0 ⟨vA, vc, vx, true⟩ cx (.nd cb v cl cr) (.nd cb ⟨vA, vc, vx, true⟩ cl cr) [] (nd_set ron0 cb v ⟨vA, vc, vx, true⟩ cl cr)
  have hset' : ∀ bs, (plug cx (.nd cb ⟨vA, vc, vx, true⟩ cl cr)).look ron0 bs = if bs = bitsP a i then ⟨vA, vc, vx, true⟩ else t.look ron0 bs := fun bs => by rw [hset bs, List.append_nil, hw, hlk bs]
  have hr' : (plug cx (.nd cb ⟨vA, vc, vx, true⟩ cl cr)).root = some ⟨b, 0, none⟩ := ((plug_root cx (.nd cb ⟨vA, vc, vx, true⟩ cl cr) (.nd cb v cl cr) rfl).trans hrt).trans hroot
  have hp := (perm_open (wayP TNd RoN.e RoN.ow cx (some ⟨cb, 0, none⟩)) cl.pc cr.pc (cel cb TNd [.pointer cl.root, .pointer cr.root, .slice vA vx.length vc, .bool true]) (own idE 73 4 vA vx.length vc (vx.map RoQ.e))).symm.trans (plug_ps TNd RoN.e RoN.ow cx (.nd cb ⟨vA, vc, vx, true⟩ cl cr)).symm
  clear hset
  cases hv : v.is with
  | true =>
   repeat' (first | refine SW ?_ | ((refine HO_g 2 rfl ?_); (refine HO_skip rfl rfl rfl rfl rdA ?_)) | refine SD ?_ | exact HO_seg rfl rfl | refine S1 ?_ | (refine S2 ?_; intro _) | (refine S3 ?_; intro _ _) | (refine S4 ?_; intro _ _ _) | (refine HO_g 2 rfl ?_; first | apply HO_a1 rfl | apply HO_o1 rfl) | refine S5 ?_ | (intro hb; try replace hb := simB hb; try exact kill hb))
   (refine SRt ?_; unfold RetQ; refine ⟨(plug cx (.nd cb ⟨vA, vc, vx, true⟩ cl cr), k), ⟨hr', hset', Int.le_refl _, by show k ≤ k + 1; omega⟩, rfl, Keeps.pick 3 rfl rfl (Keeps.outF hp)⟩)
  | false =>
   repeat' (first | refine SW ?_ | ((refine HO_g 2 rfl ?_); (refine HO_skip rfl rfl rfl rfl rdA ?_)) | refine SD ?_ | exact HO_seg rfl rfl | refine S1 ?_ | (refine S2 ?_; intro _) | (refine S3 ?_; intro _ _) | (refine S4 ?_; intro _ _ _) | (refine HO_g 2 rfl ?_; first | apply HO_a1 rfl | apply HO_o1 rfl) | refine S5 ?_ | (intro hb; try replace hb := simB hb; try exact kill hb))
   (refine SRt ?_; unfold RetQ; refine ⟨(plug cx (.nd cb ⟨vA, vc, vx, true⟩ cl cr), k + 1), ⟨hr', hset', by show k ≤ k + 1; omega, Int.le_refl _⟩, rfl, Keeps.pick 3 rfl rfl (Keeps.outF hp)⟩)
end Go.Proofs.YtbhiojedmkcfoaaGreatDoor
