/- Part of a proof of many texts: what the theorem at its end leans on. -/
import Derived.Test.YtbhiojedmkcfoaaGreatDoorZScT
import Derived.Test.YtbhiojedmkcfoaaGreatDoorZScU
import Derived.Test.YtbhiojedmkcfoaaGreatDoorZSdK
namespace Go.Proofs.YtbhiojedmkcfoaaGreatDoor
set_option linter.unusedVariables false
set_option linter.unusedSimpArgs false
open Go.RowKit
attribute [local irreducible] HC HX HO Tri eP adr
@[reducible] def z0 : OA × OA × OA := ((none, 0), (none, 0), (none, 0))
def begL (y : OA) : List DoS := [mkDo { do0 with k := 1 } z0, mkDo { do0 with k := 3 } z0, mkDo { do0 with k := 5, data := theirsB } (y, (none, 0), (none, 0))]
theorem begin_t : Tri Tryz.prog 162 [.int .i64 0] [] [] (fun _ : Nat × OA => True) (fun x => .slice (some ⟨x.1, 0, none⟩) 3 3)
  (fun x => [own idE TDo 10 (some ⟨x.1, 0, none⟩) 3 3 ((begL x.2).map DoS.e), ownB x.2 theirsB]) := by
 have p1 := other_t
 have p2 := theirs_t
 refine Tri_of (N := Tryz.f162.ntmps) (c := bodyOf Tryz.f162) Tryz.func162 rfl rfl rfl rfl (fun w0 S0 => ?_)
 repeat' (first | refine SW ?_ | refine SD ?_ | (refine HO_k 12 rfl ?_; refine HO_callq rfl rfl rfl rfl (p1) (fun _ _ => rfl) (trivial) rfl rfl sqA ?_) | (refine HO_k 12 rfl ?_; refine HO_call rfl rfl rfl rfl (p2) rfl (trivial) rfl rfl soA ?_; intro x1 hx1; dsimp only [lca, lna]) | exact HO_seg rfl rfl | refine S1 ?_ | (refine S2 ?_; intro _) | (refine S3 ?_; intro _ _) | (refine S4 ?_; intro _ _ _) | (refine HO_g 2 rfl ?_; first | apply HO_a1 rfl | apply HO_o1 rfl) | refine S5 ?_ | (intro hb; try replace hb := simB hb; try exact kill hb))
 rename_i b1
 (refine SR ?_; unfold RetQ; refine ⟨(b1, x1), trivial, rfl, permA⟩)
theorem both_t (s : Nat) (a b : Nat) (x y : Nat) :
  Tri Tryz.prog 164 [.int .i64 s, pfV a 16, pfV b 16, .int .i64 x, .int .i64 y] [] [] (fun _ : Nat => True) (fun z => .agg (mkDo { do0 with k := 8, cq := s, cl := [⟨a, 16, x⟩, ⟨b, 16, y⟩] } ((none, 0), (some ⟨z, 0, none⟩, 2), (none, 0))).e.toArray)
   (fun z => [own idE 259 3 (some ⟨z, 0, none⟩) 2 2 ([(⟨a, 16, x⟩ : CntQ), ⟨b, 16, y⟩].map CntQ.e)]) := by
 refine Tri_of (N := Tryz.f164.ntmps) (c := bodyOf Tryz.f164) Tryz.func164 rfl rfl rfl rfl (fun w0 S0 => ?_)
 dsimp only [pfV]
 repeat' (first | refine SW ?_ | refine SD ?_ | exact HO_seg rfl rfl | refine S1 ?_ | (refine S2 ?_; intro _) | (refine S3 ?_; intro _ _) | (refine S4 ?_; intro _ _ _) | (refine HO_g 2 rfl ?_; first | apply HO_a1 rfl | apply HO_o1 rfl) | refine S5 ?_ | (intro hb; try replace hb := simB hb; try exact kill hb))
 rename_i b1
 (refine SR ?_; unfold RetQ; refine ⟨b1, trivial, rfl, permA⟩)
def IsA (a : Nat) : Prop := a = 167837696 ∨ a = 167903232
def IsI (i nx : Nat) : Prop := (i = 0 ∧ nx = 167772161) ∨ (i = 1 ∧ nx = 184549377)
def tuU (b1 b2 bs i nx a : Nat) : UpS := ⟨none, 0, [], some ⟨bs, 0, none⟩, 1, [⟨(i : Int) + 1, a, 16⟩], ⟨0, some ⟨b2, 0, none⟩, 1, [lSg 7 b1], nx, -1, 100 - (i : Int), none, 0, []⟩, false⟩
theorem tu_len {a i nx : Nat} (h : IsA a) (hi : IsI i nx) : (tellU a i nx).length ≤ 1000 := by
 rcases h with rfl | rfl <;> rcases hi with ⟨rfl, rfl⟩ | ⟨rfl, rfl⟩ <;> decide +kernel
theorem tu_x {a i nx : Nat} (h : IsA a) (hi : IsI i nx) : allX true [⟨(i : Int) + 1, a, 16⟩] = true := by
 rcases h with rfl | rfl <;> rcases hi with ⟨rfl, rfl⟩ | ⟨rfl, rfl⟩ <;> decide +kernel
theorem tu_s {b1 b2 bs a i nx : Nat} (h : IsA a) (hi : IsI i nx) : saidOk true (tuU b1 b2 bs i nx a) = true := by
 rcases h with rfl | rfl <;> rcases hi with ⟨rfl, rfl⟩ | ⟨rfl, rfl⟩ <;> kernel_rfl
theorem tu_w {b1 b2 bs a i nx : Nat} (h : IsA a) (hi : IsI i nx) : UpW (tuU b1 b2 bs i nx a) := by
 have hn : 0 ≤ (nx : Int) ∧ (nx : Int) ≤ 4294967295 := by rcases hi with ⟨rfl, rfl⟩ | ⟨rfl, rfl⟩ <;> decide
 have ha : a < 4294967296 := by rcases h with rfl | rfl <;> decide
 refine ⟨fun x hx => (by cases hx), fun x hx => ?_, hn, ⟨by show 1 ≤ 1000; decide, by show 0 ≤ 1000; decide, fun s hs => ?_⟩, by show 0 ≤ 1000000; decide, by show 1 ≤ 1000000; decide⟩
 ·have := List.mem_singleton.1 hx
  subst this
  exact ha
 ·have := List.mem_singleton.1 hs
  subst this
  show 1 ≤ 1000
  decide
theorem tu_B {b1 b2 bs a i nx : Nat} : upB true true (tuU b1 b2 bs i nx a) = tellU a i nx := rfl
theorem tbody_t {b1 b2 bs a i nx : Nat} (h : IsA a) (hi : IsI i nx) :
  Tri Tryz.prog 205 [.agg (tuU b1 b2 bs i nx a).e.toArray, .bool true, .bool true] [arr iE 1 (some ⟨b1, 0, none⟩) [7], arr SegS.e 2 (some ⟨b2, 0, none⟩) [lSg 7 b1], arr Nl.e 3 (some ⟨bs, 0, none⟩) [⟨(i : Int) + 1, a, 16⟩]] []
   (fun _ : OA => True) (fun x => .slice x.1 (tellU a i nx).length x.2) (fun x => [ownB x (tellU a i nx)]) := by
 have := rbody_t (tuU b1 b2 bs i nx a) (tu_w h hi) true true (show allX true [] = true by decide +kernel) (tu_x h hi) (tu_s h hi)
 rw [tu_B] at this
 have h1 := Tri_free this (fun w => arr_nil _ w)
 have h2 := Tri_ro (ro' := [inn (segPs [lSg 7 b1]), arr SegS.e 2 (some ⟨b2, 0, none⟩) [lSg 7 b1], arr Nl.e 3 (some ⟨bs, 0, none⟩) [⟨(i : Int) + 1, a, 16⟩]]) h1 (AllSrc.at_ 2 rfl (AllSrc.at_ 0 rfl (AllSrc.at_ 1 rfl (AllSrc.free (fun w => arr_nil _ w) trivial))))
 exact Tri_inn h2
def tlJ (a j : Nat) : List UInt8 := (if 0 < j then msgB 2 (tellU a 0 167772161) else []) ++ (if 1 < j then msgB 2 (tellU a 1 184549377) else [])
theorem tl_snoc {a j nx : Nat} (hi : IsI j nx) : tlJ a (j + 1) = tlJ a j ++ msgB 2 (tellU a j nx) := by
 rcases hi with ⟨rfl, rfl⟩ | ⟨rfl, rfl⟩ <;> simp [tlJ]
theorem msg_len (k : Nat) (l : List UInt8) : (msgB k l).length = l.length + 19 := by unfold msgB; simp [be_length]; omega
theorem tl_len {a j : Nat} (h : IsA a) : (tlJ a j).length ≤ 3000 := by
 have h0 := tu_len h (i := 0) (nx := 167772161) (.inl ⟨rfl, rfl⟩)
 have h1 := tu_len h (i := 1) (nx := 184549377) (.inr ⟨rfl, rfl⟩)
 unfold tlJ
 split <;> split <;> simp only [List.length_append, msg_len, List.length_nil] <;> omega
set_option maxHeartbeats 32000000 in
theorem tell_t (a : Nat) (h : IsA a) (A : Option Addr) (c : Nat) :
  Tri Tryz.prog 163 [pfV a 16, .slice A 2 c] [arr idE 1 A [[.int .u32 167772161], [.int .u32 184549377]]] [] (fun _ : OA => True) (fun x => .slice x.1 (tlJ a 2).length x.2) (fun x => [ownB x (tlJ a 2)]) := by
 refine Tri_of (N := Tryz.f163.ntmps) (c := bodyOf Tryz.f163) Tryz.func163 rfl rfl rfl rfl (fun w0 S0 => ?_)
 dsimp only [pfV]
 repeat' (first | refine SW ?_ | refine SD ?_ | exact HO_seg rfl rfl | refine S1 ?_ | (refine S2 ?_; intro _) | (refine S3 ?_; intro _ _) | (refine S4 ?_; intro _ _ _) | (refine HO_g 2 rfl ?_; first | apply HO_a1 rfl | apply HO_o1 rfl) | refine S5 ?_ | (intro hb; try replace hb := simB hb; try exact kill hb))
 rename_i bp
 refine HC_keeps (rw' := [ownB (none, 0) [], cel bp 49 [.int .u32 a, .int .i64 16]]) (Keeps.add (fun w => own_nil w) Keeps.refl) ?_
 refine HC_loop (α := Nat × OA) (fun x => x.1 ≤ 2) (fun x => [(6, .int .i64 x.1), (5, .slice x.2.1 (tlJ a x.1).length x.2.2), (2, pt bp), (1, .slice A 2 c)]) (fun x => [ownB x.2 (tlJ a x.1), cel bp 49 [.int .u32 a, .int .i64 16]]) (fun x => 2 - x.1) rfl (0, (none, 0)) (by decide) ⟨rfl, rfl, rfl, rfl, trivial⟩ rfl ?_
 rintro ⟨j, xo⟩ hj
 dsimp only at hj ⊢
 rcases (by omega : j = 2 ∨ j = 0 ∨ j = 1) with rfl | hj2
 ·repeat' (first | refine SW ?_ | refine SD ?_ | exact HO_seg rfl rfl | refine S1 ?_ | (refine S2 ?_; intro _) | (refine S3 ?_; intro _ _) | (refine S4 ?_; intro _ _ _) | (refine HO_g 2 rfl ?_; first | apply HO_a1 rfl | apply HO_o1 rfl) | refine S5 ?_ | (intro hb; try replace hb := simB hb; try exact kill hb))
  (refine SR ?_; unfold RetQ; refine ⟨xo, trivial, rfl, permA⟩)
 obtain ⟨nx, hi⟩ : ∃ nx, IsI j nx := by
  rcases hj2 with rfl | rfl
  ·exact ⟨_, .inl ⟨rfl, rfl⟩⟩
  ·exact ⟨_, .inr ⟨rfl, rfl⟩⟩
 have hel : ([[Value.int .u32 167772161], [Value.int .u32 184549377]] : List (List Value))[j]? = some [.int .u32 (nx : Int)] := by
  rcases hi with ⟨rfl, rfl⟩ | ⟨rfl, rfl⟩ <;> rfl
 have hj1 : j ≤ 1 := by omega
 have p1 := said14_t 7 nx
 have p2 := fun b1 b2 bs => tbody_t (b1 := b1) (b2 := b2) (bs := bs) h hi
 have hl := tu_len h hi
 have p3 := fun A c => rput3_t 2 (by decide) A c (tellU a j nx) (by omega)
 have hs := tl_snoc (a := a) hi
 have hl2 := tl_len (j := j) h
 have hl3 := msg_len 2 (tellU a j nx)
 obtain ⟨L, hL⟩ : ∃ L, tlJ a j = L := ⟨_, rfl⟩
 obtain ⟨T, hT⟩ : ∃ T, tellU a j nx = T := ⟨_, rfl⟩
 have hs2 : tlJ a (j + 1) = L ++ msgB 2 T := by rw [tl_snoc hi, hL, hT]
 simp only [hL, hT] at p2 p3 hl hl2 hl3 ⊢
 clear hL hT hs hi hj2
 dsimp only [lAt, lSg, tuU, UpS.e, AttS.e] at p1 p2
 repeat' (first | refine SW ?_ | refine SD ?_ | exact HO_seg rfl rfl | refine S1 ?_ | (refine S2 ?_; intro _) | (refine S3 ?_; intro _ _) | (refine S4 ?_; intro _ _ _) | (refine HO_g 2 rfl ?_; first | apply HO_a1 rfl | apply HO_o1 rfl) | refine S5n ?_ | (intro hb; try replace hb := simB hb; try exact kill hb))
 refine HC_cutP (α := Nat × Nat × Nat × Nat) (fun _ => True) (fun z => [(7, pt z.2.2.2), (6, .int .i64 j), (5, .slice xo.1 L.length xo.2), (2, pt bp), (1, .slice A 2 c)]) (fun z => [own idE 151 3 (some ⟨z.1, 0, none⟩) 1 1 [[.int .i64 ((j : Int) + 1), .int .u32 a, .int .i64 16]], arr iE 1 (some ⟨z.2.1, 0, none⟩) [7], arr SegS.e 2 (some ⟨z.2.2.1, 0, none⟩) [lSg 7 z.2.1], cel z.2.2.2 66 [.slice none 0 0, .slice (some ⟨z.1, 0, none⟩) 1 1, .int .i64 0, .slice (some ⟨z.2.2.1, 0, none⟩) 1 1, .int .u32 nx, .int .i64 (-1), .int .i64 (-1), .slice none 0 0, .bool false], ownB xo L, cel bp 49 [.int .u32 a, .int .i64 16]]) ?_ ?_
 ·repeat' (first | refine SW ?_ | refine SD ?_ | (first | refine HO_3p 4 9 11 (by decide +kernel) rfl rfl rfl (by decide +kernel) ?_ ?_ ?_ | refine HO_2p 4 9 (by decide +kernel) rfl rfl (by decide +kernel) ?_ ?_ | refine HO_2p 4 11 (by decide +kernel) rfl rfl (by decide +kernel) ?_ ?_ | refine HO_2p 9 11 (by decide +kernel) rfl rfl (by decide +kernel) ?_ ?_) | (refine HO_k 12 rfl ?_; refine HO_call rfl rfl rfl rfl (p1) rfl (trivial) rfl rfl soA ?_; intro y1 hy1; dsimp only [lca, lna]) | exact HO_seg rfl rfl | refine S1 ?_ | (refine S2 ?_; intro _) | (refine S3 ?_; intro _ _) | (refine S4 ?_; intro _ _ _) | (refine HO_g 2 rfl ?_; first | apply HO_a1 rfl | apply HO_o1 rfl) | refine S5 ?_ | (intro hb; try replace hb := simB hb; try exact kill hb))
  all_goals first | (rename_i bs b7; refine HX_keeps (rw' := [own idE 151 3 (some ⟨bs, 0, none⟩) 1 1 [[.int .i64 ((j : Int) + 1), .int .u32 a, .int .i64 16]], arr iE 1 (some ⟨y1.1, 0, none⟩) [7], arr SegS.e 2 (some ⟨y1.2, 0, none⟩) [lSg 7 y1.1], cel b7 66 [.slice none 0 0, .slice (some ⟨bs, 0, none⟩) 1 1, .int .i64 0, .slice (some ⟨y1.2, 0, none⟩) 1 1, .int .u32 nx, .int .i64 (-1), .int .i64 (-1), .slice none 0 0, .bool false], ownB xo L, cel bp 49 [.int .u32 a, .int .i64 16]]) permA ?_; exact HX_at (bs, y1.1, y1.2, b7) trivial ⟨rfl, rfl, rfl, rfl, rfl, trivial⟩ rfl) | (rename_i b7 bs; refine HX_keeps (rw' := [own idE 151 3 (some ⟨bs, 0, none⟩) 1 1 [[.int .i64 ((j : Int) + 1), .int .u32 a, .int .i64 16]], arr iE 1 (some ⟨y1.1, 0, none⟩) [7], arr SegS.e 2 (some ⟨y1.2, 0, none⟩) [lSg 7 y1.1], cel b7 66 [.slice none 0 0, .slice (some ⟨bs, 0, none⟩) 1 1, .int .i64 0, .slice (some ⟨y1.2, 0, none⟩) 1 1, .int .u32 nx, .int .i64 (-1), .int .i64 (-1), .slice none 0 0, .bool false], ownB xo L, cel bp 49 [.int .u32 a, .int .i64 16]]) permA ?_; exact HX_at (bs, y1.1, y1.2, b7) trivial ⟨rfl, rfl, rfl, rfl, rfl, trivial⟩ rfl)
 rintro ⟨bs, b1, b2, b7⟩ -
 dsimp only
 repeat' (first | refine SW ?_ | refine SD ?_ | (refine HO_k 12 rfl ?_; refine HO_call rfl rfl rfl rfl (p2 b1 b2 bs) rfl (srcsA) rfl rfl soA ?_; intro x2 hx2; dsimp only [lca, lna]) | (refine HO_k 12 rfl ?_; refine HO_call rfl rfl rfl rfl (p3 _ _) rfl (srcsA) rfl rfl soA ?_; intro x3 hx3; dsimp only [lca, lna]) | (refine HO_k 11 rfl ?_; refine HO_appw rfl rfl rfl rfl rfl rfl rfl rfl ?h1 ?h2 rfl rfl ?h3 ?h4 rfl rfl rfl ?h5 ?_; (case h1 => simp only [List.length_append, List.length_map, List.length_cons, List.length_nil, be_length]); (case h2 => repeat (first | exact WfL.nil | exact WfL.map | apply WfL.append | refine WfL.cons rfl rfl ?_ | assumption)); (case h3 => (try simp only [List.length_append, List.length_map, List.length_cons, List.length_nil, be_length]); (try omega)); (case h4 => (try simp only [List.length_append, List.length_map, List.length_cons, List.length_nil, be_length]); (try omega)); (case h5 => exact soA); intro _ _) | exact HO_seg rfl rfl | refine S1 ?_ | (refine S2 ?_; intro _) | (refine S3 ?_; intro _ _) | (refine S4 ?_; intro _ _ _) | (refine HO_g 2 rfl ?_; first | apply HO_a1 rfl | apply HO_o1 rfl) | refine S5 ?_ | (intro hb; try replace hb := simB hb; try exact kill hb))
 rename_i A4 c4
 have eL : L.length + (msgB 2 T).length = (tlJ a (j + 1)).length := by rw [hs2, List.length_append]
 rw [eL]
 refine HX_keeps (rw' := [ownB (A4, c4) (tlJ a (j + 1)), cel bp 49 [.int .u32 a, .int .i64 16]]) ?_ ?_
 ·rw [← List.map_append, ← hs2]
  exact permA
 ·exact HX_at (j + 1, (A4, c4)) ⟨by dsimp only; omega, by dsimp only; omega⟩ ⟨rfl, rfl, rfl, rfl, trivial⟩ rfl
def smallS (b : Nat) : CfS := ⟨smallC, some ⟨b, 0, none⟩, 2, none, 0⟩
theorem two20_t : Tri Tryz.prog 160 [] [] [] (fun _ : Nat => True) (fun x => .slice (some ⟨x, 0, none⟩) 2 2)
  (fun x => [own idE 101 5 (some ⟨x, 0, none⟩) 2 2 (smallC.ifs.map IfQ.e)]) := by
 refine Tri_of (N := Tryz.f160.ntmps) (c := bodyOf Tryz.f160) Tryz.func160 rfl rfl rfl rfl (fun w0 S0 => ?_)
 repeat' (first | refine SW ?_ | refine SD ?_ | exact HO_seg rfl rfl | refine S1 ?_ | (refine S2 ?_; intro _) | (refine S3 ?_; intro _ _) | (refine S4 ?_; intro _ _ _) | (refine HO_g 2 rfl ?_; first | apply HO_a1 rfl | apply HO_o1 rfl) | refine S5 ?_ | (intro hb; try replace hb := simB hb; try exact kill hb))
 rename_i b1
 (refine SR ?_; unfold RetQ; refine ⟨b1, trivial, rfl, permA⟩)
theorem small26_t : Tri Tryz.prog 107 [] [] [] (fun _ : Nat => True) (fun x => .agg (smallS x).e.toArray)
  (fun x => [own idE 101 5 (some ⟨x, 0, none⟩) 2 2 (smallC.ifs.map IfQ.e)]) := by
 have p1 := rfirst_t
 have p2 := two20_t
 dsimp only [CfS.e] at p1
 refine Tri_of (N := Tryz.f107.ntmps) (c := bodyOf Tryz.f107) Tryz.func107 rfl rfl rfl rfl (fun w0 S0 => ?_)
 repeat' (first | refine SW ?_ | refine SD ?_ | (refine HO_k 12 rfl ?_; refine HO_callq rfl rfl rfl rfl (p1) (fun _ _ => rfl) (trivial) rfl rfl sqA ?_) | (refine HO_k 12 rfl ?_; refine HO_call rfl rfl rfl rfl (p2) rfl (trivial) rfl rfl soA ?_; intro x1 hx1; dsimp only [lca, lna]) | exact HO_seg rfl rfl | refine S1 ?_ | (refine S2 ?_; intro _) | (refine S3 ?_; intro _ _) | (refine S4 ?_; intro _ _ _) | (refine HO_g 2 rfl ?_; first | apply HO_a1 rfl | apply HO_o1 rfl) | refine S5 ?_ | (intro hb; try replace hb := simB hb; try exact kill hb))
 (refine SR ?_; unfold RetQ; refine ⟨x1, trivial, rfl, permA⟩)
def sdK (k : Int) : DoS := mkDo { do0 with k := k } z0
def sdD (B : List UInt8) (y : OA) : DoS := mkDo { do0 with k := 5, data := B } (y, (none, 0), (none, 0))
def sdC (q x y : Int) (b : Nat) : DoS := mkDo (bothQ q x y) ((none, 0), (some ⟨b, 0, none⟩, 2), (none, 0))
def storyL (T B : List UInt8) (y : OA) (z : OA) (b1 b2 : Nat) : List DoS := [sdK 1, sdK 3, sdD T y, sdD B z, sdC 1 0 0 b1, sdK 7, sdC 2 60 50 b2, sdK 7]
def stoB : List UInt8 := tellB 167837696 167772161 184549377 ++ tellB 167903232 167772161 184549377
theorem keeps_story (T B : List UInt8) (y z : OA) (w1 w2 : Nat) : Keeps [ownB y T, ownB z B, own idE 259 3 (some ⟨w1, 0, none⟩) 2 2 ((bothQ 1 0 0).cl.map CntQ.e), own idE 259 3 (some ⟨w2, 0, none⟩) 2 2 ((bothQ 2 60 50).cl.map CntQ.e)] [inn (doPs (storyL T B y z w1 w2))] := by
 refine Keeps.cmp (Keeps.add inn_nil Keeps.refl) (Keeps.inn_snoc (Keeps.inn_snoc (Keeps.inn_snoc (Keeps.inn_snoc (Keeps.cons (inn_ent fun f hf => ?_) Keeps.refl)))))
 obtain ⟨d, hd, hf⟩ := List.mem_flatMap.1 hf
 simp only [storyL, List.mem_cons, List.not_mem_nil, or_false] at hd
 rcases hd with rfl | rfl | rfl | rfl | rfl | rfl | rfl | rfl
 all_goals
  simp only [DoS.ro, List.mem_cons, List.not_mem_nil, or_false] at hf
  rcases hf with rfl | rfl | rfl
 all_goals first
  | exact .inr (fun w => arr_nil _ w)
  | exact .inl ⟨ownB y T, by simp, own_byte⟩
  | exact .inl ⟨ownB z B, by simp, own_byte⟩
  | exact .inl ⟨own idE 259 3 (some ⟨w1, 0, none⟩) 2 2 ((bothQ 1 0 0).cl.map CntQ.e), by simp, own_e⟩
  | exact .inl ⟨own idE 259 3 (some ⟨w2, 0, none⟩) 2 2 ((bothQ 2 60 50).cl.map CntQ.e), by simp, own_e⟩
set_option maxHeartbeats 32000000 in
theorem story_t : Tri Tryz.prog 108 [] [] [] (fun _ : OA × OA × OA × Nat × Nat => True) (fun x => .slice x.1.1 8 x.1.2)
  (fun x => [own idE TDo 10 x.1.1 8 x.1.2 ((storyL theirsB stoB x.2.1 x.2.2.1 x.2.2.2.1 x.2.2.2.2).map DoS.e), inn (doPs (storyL theirsB stoB x.2.1 x.2.2.1 x.2.2.2.1 x.2.2.2.2))]) := by
 have p1 := ten17a_t
 have p2 := ten17b_t
 have p3 := begin_t
 have p4 := tell_t 167837696 (.inl rfl)
 have p5 := tell_t 167903232 (.inr rfl)
 have p6 : Tri Tryz.prog 164 [.int .i64 1, pfV 167837696 16, pfV 167903232 16, .int .i64 0, .int .i64 0] [] [] (fun _ : Nat => True) (fun z => .agg (sdC 1 0 0 z).e.toArray) (fun z => [own idE 259 3 (some ⟨z, 0, none⟩) 2 2 ((bothQ 1 0 0).cl.map CntQ.e)]) := both_t 1 167837696 167903232 0 0
 have p7 : Tri Tryz.prog 164 [.int .i64 2, pfV 167837696 16, pfV 167903232 16, .int .i64 60, .int .i64 50] [] [] (fun _ : Nat => True) (fun z => .agg (sdC 2 60 50 z).e.toArray) (fun z => [own idE 259 3 (some ⟨z, 0, none⟩) 2 2 ((bothQ 2 60 50).cl.map CntQ.e)]) := both_t 2 167837696 167903232 60 50
 have l1 := tl_len (a := 167837696) (j := 2) (.inl rfl)
 have l2 := tl_len (a := 167903232) (j := 2) (.inr rfl)
 have p3' : Tri Tryz.prog 162 [.int .i64 0] [] [] (fun _ : Nat × OA => True) (fun x => .slice (some ⟨x.1, 0, none⟩) 3 3)
  (fun x => [own idE TDo 10 (some ⟨x.1, 0, none⟩) 3 3 [(sdK 1).e, (sdK 3).e, (sdD theirsB x.2).e], ownB x.2 theirsB]) := p3
 have e1 : tlJ 167837696 2 = tellB 167837696 167772161 184549377 := rfl
 have e2 : tlJ 167903232 2 = tellB 167903232 167772161 184549377 := rfl
 rw [e1] at p4 l1
 rw [e2] at p5 l2
 clear e1 e2 p3
 unfold stoB
 obtain ⟨B1, hB1⟩ : ∃ B, tellB 167837696 167772161 184549377 = B := ⟨_, rfl⟩
 obtain ⟨B2, hB2⟩ : ∃ B, tellB 167903232 167772161 184549377 = B := ⟨_, rfl⟩
 obtain ⟨T, hT⟩ : ∃ B, theirsB = B := ⟨_, rfl⟩
 rw [hB1] at p4 l1 ⊢
 rw [hB2] at p5 l2 ⊢
 rw [hT] at p3' ⊢
 clear hB1 hB2 hT
 dsimp only [pfV] at p1 p2 p4 p5 p6 p7
 refine Tri_of (N := Tryz.f108.ntmps) (c := bodyOf Tryz.f108) Tryz.func108 rfl rfl rfl rfl (fun w0 S0 => ?_)
 repeat' (first | refine SW ?_ | refine SD ?_ | (refine HO_k 12 rfl ?_; refine HO_callq rfl rfl rfl rfl (p1) (fun _ _ => rfl) (trivial) rfl rfl sqA ?_) | (refine HO_k 12 rfl ?_; refine HO_callq rfl rfl rfl rfl (p2) (fun _ _ => rfl) (trivial) rfl rfl sqA ?_) | exact HO_seg rfl rfl | refine S1 ?_ | (refine S2 ?_; intro _) | (refine S3 ?_; intro _ _) | (refine S4 ?_; intro _ _ _) | (refine HO_g 2 rfl ?_; first | apply HO_a1 rfl | apply HO_o1 rfl) | refine S5n ?_ | (intro hb; try replace hb := simB hb; try exact kill hb))
 rename_i ba bb
 refine HC_cutP (α := OA × OA × OA) (fun _ => True) (fun z => [(3, .slice z.1.1 4 z.1.2), (2, pt bb), (1, pt ba)]) (fun z => [own idE TDo 10 z.1.1 4 z.1.2 [(sdK 1).e, (sdK 3).e, (sdD T z.2.1).e, (sdD (B1 ++ B2) z.2.2).e], ownB z.2.1 T, ownB z.2.2 (B1 ++ B2), cel bb 49 [.int .u32 167903232, .int .i64 16], cel ba 49 [.int .u32 167837696, .int .i64 16]]) ?_ ?_
 ·repeat' (first | refine SW ?_ | refine SD ?_ | (first | refine HO_3p 0 2 5 (by decide +kernel) rfl rfl rfl (by decide +kernel) ?_ ?_ ?_ | refine HO_2p 2 5 (by decide +kernel) rfl rfl (by decide +kernel) ?_ ?_ | refine HO_2p 0 5 (by decide +kernel) rfl rfl (by decide +kernel) ?_ ?_ | refine HO_2p 0 2 (by decide +kernel) rfl rfl (by decide +kernel) ?_ ?_ | refine HO_2p 3 5 (by decide +kernel) rfl rfl (by decide +kernel) ?_ ?_) | (refine HO_k 12 rfl ?_; refine HO_call rfl rfl rfl rfl (p3') rfl (trivial) rfl rfl soA ?_; intro y1 hy1; dsimp only [lca, lna]) | (refine HO_k 12 rfl ?_; refine HO_call rfl rfl rfl rfl (p4 _ _) rfl ((by first | exact AllSrc.via 0 rfl own_2u trivial | exact AllSrc.via 1 rfl own_2u trivial | exact AllSrc.via 2 rfl own_2u trivial | exact AllSrc.via 3 rfl own_2u trivial | exact AllSrc.via 4 rfl own_2u trivial | exact AllSrc.via 5 rfl own_2u trivial | exact AllSrc.via 6 rfl own_2u trivial | exact AllSrc.via 7 rfl own_2u trivial | exact AllSrc.via 8 rfl own_2u trivial)) rfl rfl soA ?_; intro y2 hy2; dsimp only [lca, lna]) | (refine HO_k 12 rfl ?_; refine HO_call rfl rfl rfl rfl (p5 _ _) rfl ((by first | exact AllSrc.via 0 rfl own_2u trivial | exact AllSrc.via 1 rfl own_2u trivial | exact AllSrc.via 2 rfl own_2u trivial | exact AllSrc.via 3 rfl own_2u trivial | exact AllSrc.via 4 rfl own_2u trivial | exact AllSrc.via 5 rfl own_2u trivial | exact AllSrc.via 6 rfl own_2u trivial | exact AllSrc.via 7 rfl own_2u trivial | exact AllSrc.via 8 rfl own_2u trivial)) rfl rfl soA ?_; intro y3 hy3; dsimp only [lca, lna]) | (refine HO_k 11 rfl ?_; refine HO_appw rfl rfl rfl rfl rfl rfl rfl rfl ?h1 ?h2 rfl rfl ?h3 ?h4 rfl rfl rfl ?h5 ?_; (case h1 => simp only [List.length_append, List.length_map, List.length_cons, List.length_nil, be_length]); (case h2 => repeat (first | exact WfL.nil | exact WfL.map | apply WfL.append | refine WfL.cons rfl rfl ?_ | assumption)); (case h3 => (try simp only [List.length_append, List.length_map, List.length_cons, List.length_nil, be_length]); (try omega)); (case h4 => (try simp only [List.length_append, List.length_map, List.length_cons, List.length_nil, be_length]); (try omega)); (case h5 => exact soA); intro _ _) | exact HO_seg rfl rfl | refine S1 ?_ | (refine S2 ?_; intro _) | (refine S3 ?_; intro _ _) | (refine S4 ?_; intro _ _ _) | (refine HO_g 2 rfl ?_; first | apply HO_a1 rfl | apply HO_o1 rfl) | refine S5 ?_ | (intro hb; try replace hb := simB hb; try exact kill hb))
  all_goals
   rename_i A1 c1 b9 A2 c2
   have eL : B1.length + B2.length = (B1 ++ B2).length := by simp
   rw [eL]
   refine HX_keeps (rw' := [own idE TDo 10 A2 4 c2 [(sdK 1).e, (sdK 3).e, (sdD T y1.2).e, (sdD (B1 ++ B2) (A1, c1)).e], ownB y1.2 T, ownB (A1, c1) (B1 ++ B2), cel bb 49 [.int .u32 167903232, .int .i64 16], cel ba 49 [.int .u32 167837696, .int .i64 16]]) ?_ ?_
   ·rw [← List.map_append]
    exact permA
   ·exact HX_at ((A2, c2), y1.2, (A1, c1)) trivial ⟨rfl, rfl, rfl, trivial⟩ rfl
 rintro ⟨x, y, z⟩ -
 dsimp only
 repeat' (first | refine SW ?_ | refine SD ?_ | (refine HO_k 12 rfl ?_; refine HO_call rfl rfl rfl rfl (p6) rfl (trivial) rfl rfl soA ?_; intro w1 hw1; dsimp only [lca, lna]) | (refine HO_k 12 rfl ?_; refine HO_call rfl rfl rfl rfl (p7) rfl (trivial) rfl rfl soA ?_; intro w2 hw2; dsimp only [lca, lna]) | (refine HO_k 11 rfl ?_; refine HO_appw rfl rfl rfl rfl rfl rfl rfl rfl ?h1 ?h2 rfl rfl ?h3 ?h4 rfl rfl rfl ?h5 ?_; (case h1 => simp only [List.length_append, List.length_map, List.length_cons, List.length_nil, be_length]); (case h2 => repeat (first | exact WfL.nil | exact WfL.map | apply WfL.append | refine WfL.cons rfl rfl ?_ | assumption)); (case h3 => (try simp only [List.length_append, List.length_map, List.length_cons, List.length_nil, be_length]); (try omega)); (case h4 => (try simp only [List.length_append, List.length_map, List.length_cons, List.length_nil, be_length]); (try omega)); (case h5 => exact soA); intro _ _) | exact HO_seg rfl rfl | refine S1 ?_ | (refine S2 ?_; intro _) | (refine S3 ?_; intro _ _) | (refine S4 ?_; intro _ _ _) | (refine HO_g 2 rfl ?_; first | apply HO_a1 rfl | apply HO_o1 rfl) | refine S5 ?_ | (intro hb; try replace hb := simB hb; try exact kill hb))
 rename_i b4 b9 A4 c4
 (refine SR ?_; unfold RetQ; refine ⟨((A4, c4), y, z, w1, w2), trivial, rfl, Keeps.cmp (show Keeps _ [own idE TDo 10 A4 8 c4 ((storyL T (B1 ++ B2) y z w1 w2).map DoS.e), ownB y T, ownB z (B1 ++ B2), own idE 259 3 (some ⟨w1, 0, none⟩) 2 2 ((bothQ 1 0 0).cl.map CntQ.e), own idE 259 3 (some ⟨w2, 0, none⟩) 2 2 ((bothQ 2 60 50).cl.map CntQ.e)] from permA) (Keeps.cons Ent.rfl_ (keeps_story T (B1 ++ B2) y z w1 w2))⟩)
end Go.Proofs.YtbhiojedmkcfoaaGreatDoor
