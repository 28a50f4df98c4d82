/- Part of a proof of many texts: what the theorem at its end leans on. -/
import Derived.Test.YtbhiojedmkcfoaaGreatDoorZCgP
import Derived.Test.YtbhiojedmkcfoaaGreatDoorZCgB
import Derived.Test.YtbhiojedmkcfoaaGreatDoorZCfK
import Derived.Test.YtbhiojedmkcfoaaGreatDoorZCfA
namespace Go.Proofs.YtbhiojedmkcfoaaGreatDoor
set_option linter.unusedVariables false
set_option linter.unusedSimpArgs false
open Go.RowKit
attribute [local irreducible] HC HX HO Tri eP adr
theorem itoaD_t (z : Int) (h0 : 0 ≤ z) (h1 : z < 10000000000000000) : Tri Tryz.prog 56 [.int .i64 z] [tab1] [] (fun _ : Unit => True) (fun _ => .string ⟨(decD z.toNat).toArray⟩) (fun _ => []) := by
 refine Tri_below fun w hro => ?_
 have := Tryz.strconv_Itoa z (by omega) (by omega) w (glbs_var g1 hro (List.mem_singleton.2 rfl))
 rw [show Lib.itoa z = decD z.toNat by unfold Lib.itoa; rw [if_neg (by omega)]] at this
 exact this.mono fun e w' ⟨h1, k, os, h2⟩ => ⟨h1, by rw [h2]; exact below_grow _ _ _⟩
def joinW (l : List (List UInt8)) : List UInt8 := Lib.join l [32]
theorem joinW_t (A : Option Addr) (c : Nat) (l : List (List UInt8)) (h0 : l ≠ []) (hl : l.length ≤ 1000) (hj : (joinW l).length ≤ 1000000) : Tri Tryz.prog 54 [.slice A l.length c, .string ⟨#[32]⟩] [own idE 9 1 A l.length c (l.map strE)] [] (fun _ : Unit => True)
  (fun _ => .string ⟨(joinW l).toArray⟩) (fun _ => []) := by
 refine Tri_below fun w hro => ?_
 obtain ⟨F, hF, hp⟩ := hro _ (List.mem_singleton.2 rfl)
 obtain ⟨ad, hA, _, hc⟩ := own_e (enc := strE) _ _ hp h0
 rcases hp.2.1.2 with ⟨hv, hn⟩ | ⟨g, cap, cur, hv, _, hh, hnc, _⟩
 ·exact absurd (List.eq_nil_of_length_eq_zero hn) h0
 injection hv with hv1 _ hv2
 subst hv2
 rw [hA] at hv1
 injection hv1 with hv1
 subst hv1 hA
 have hg : g < w.heap.size := by
  rcases Nat.lt_or_ge g w.heap.size with h | h
  ·exact h
  ·rw [Array.getElem?_eq_none h] at hh
   cases hh
 have e1 : ((l.map fun x => (⟨x.toArray⟩ : ByteArray)).map (·.data.toList)) = l := by
  rw [List.map_map]
  conv => rhs; rw [← List.map_id l]
  exact List.map_congr_left fun x _ => ba_data x
 have := Tryz.strings_Join g 0 c (l.map fun x => (⟨x.toArray⟩ : ByteArray)) ⟨#[32]⟩ w (fun j x hj => by
  rw [List.getElem?_map] at hj
  cases hx : l[j]? with
  | none => rw [hx] at hj; cases hj
  | some y =>
   rw [hx] at hj
   injection hj with hj
   subst hj
   have := hc j y hx 0 (.string ⟨y.toArray⟩) rfl
   rw [show ((⟨g, 0, none⟩ : Addr).add (j * 1 + 0)) = ⟨g, 0 + j, none⟩ by simp [Addr.add]; omega] at this
   exact this) hg (by rw [List.length_map]; omega) (by rw [List.length_map]; exact hnc) (by rw [e1]; show (joinW l).length ≤ _; omega)
 rw [e1, List.length_map] at this
 exact this
theorem joinW2 (a b : List UInt8) : joinW [a, b] = a ++ 32 :: b := by simp [joinW, Lib.join, List.intercalate]
theorem joinW5 (a b c d e : List UInt8) : joinW [a, b, c, d, e] = a ++ 32 :: (b ++ 32 :: (c ++ 32 :: (d ++ 32 :: e))) := by simp [joinW, Lib.join, List.intercalate]
set_option maxHeartbeats 8000000 in
theorem show1_t (b : Nat) (u : Bool) (x : OA) (lo : List UInt8) (A : Option Addr) (n c : Nat) (ws : List (List UInt8)) (hn : n = ws.length) (h0 : ws ≠ []) (hl : ws.length ≤ 1000) (hj : (joinW ws).length ≤ 100000) (hlo : lo.length ≤ 800000) :
  Tri Tryz.prog 52 [.slice A n c, pt b] [own idE 9 1 A n c (ws.map strE)] (bldP b u x lo) (fun _ : OA => True) (fun _ => .tuple #[]) (fun x' => bldP b true x' (lo ++ (joinW ws ++ [10]))) := by
 subst hn
 have hJ := joinW_t A c ws h0 hl (by omega)
 have hW := wstr_t b u x lo (joinW ws ++ [10]) (by simp; omega)
 refine Tri_of (N := Tryz.f52.ntmps) (c := bodyOf Tryz.f52) Tryz.func52 rfl rfl rfl rfl (fun w0 S0 => ?_)
 repeat' (first | refine SW ?_ | refine SD ?_ | (refine HO_k 0 rfl ?_; refine HO_cat rfl rfl rfl (by simp; omega) rfl rfl rdA ?_) | (refine HO_k 12 rfl ?_; refine HO_callq rfl rfl rfl rfl (hJ) (fun _ _ => rfl) (srcsA) rfl rfl sqA ?_) | (refine HO_k 12 rfl ?_; refine HO_call rfl rfl rfl rfl (hW) rfl (trivial) rfl rfl soA ?_; intro x' hx'; dsimp only [lca, lna]) | exact HO_seg rfl rfl | refine S1 ?_ | (refine S2 ?_; intro _) | (refine S3 ?_; intro _ _) | (refine S4 ?_; intro _ _ _) | (refine HO_g 2 rfl ?_; first | apply HO_a1 rfl | apply HO_o1 rfl) | refine S5 ?_ | (intro hb; try replace hb := simB hb; try exact kill hb))
 (refine SR ?_; unfold RetQ; refine ⟨x', trivial, rfl, Keeps.refl⟩)
set_option maxHeartbeats 16000000 in
theorem cshow_t (c : CfS) (hc : CfL c) : Tri Tryz.prog 15 [.agg c.e.toArray] (c.ro ++ [tab1, glW]) [] (fun _ : Unit => True) (fun _ => .string ⟨(if cfOk c.q = true then txt (linesOf c.q) else []).toArray⟩) (fun _ => []) := by
 have hck := ccheck_t c hc
 dsimp only [CfS.ro, lca, lna]
 dsimp only [CfS.ro] at hck
 cases hok : cfOk c.q with
 | false =>
  rw [hok] at hck
  refine Tri_of (N := Tryz.f15.ntmps) (c := bodyOf Tryz.f15) Tryz.func15 rfl rfl rfl rfl (fun w0 S0 => ?_)
  dsimp only [CfS.e] at hck ⊢
  repeat' (first | refine SW ?_ | refine SD ?_ | (refine HO_k 12 rfl ?_; refine HO_callq rfl rfl rfl rfl (hck) (fun _ _ => rfl) (srcsA) rfl rfl sqA ?_) | exact HO_seg rfl rfl | refine S1 ?_ | (refine S2 ?_; intro _) | (refine S3 ?_; intro _ _) | (refine S4 ?_; intro _ _ _) | (refine HO_g 2 rfl ?_; first | apply HO_a1 rfl | apply HO_o1 rfl) | refine S5 ?_ | (intro hb; try replace hb := simB hb; try exact kill hb))
  (refine SR ?_; unfold RetQ; refine ⟨(), trivial, ?_, Keeps.nil⟩)
  rfl
 | true =>
  rw [hok] at hck
  have hfl := fields_t
  rw [if_pos rfl]
  refine Tri_of (N := Tryz.f15.ntmps) (c := bodyOf Tryz.f15) Tryz.func15 rfl rfl rfl rfl (fun w0 S0 => ?_)
  dsimp only [CfS.e] at hck ⊢
  repeat' (first | refine SW ?_ | refine SD ?_ | (refine HO_k 12 rfl ?_; refine HO_callq rfl rfl rfl rfl (hck) (fun _ _ => rfl) (srcsA) rfl rfl sqA ?_) | (refine HO_k 12 rfl ?_; refine HO_call rfl rfl rfl rfl (hfl _) rfl (trivial) rfl rfl soA ?_; intro b1 hb1; dsimp only [lca, lna]) | exact HO_seg rfl rfl | refine S1 ?_ | (refine S2 ?_; intro _) | (refine S3 ?_; intro _ _) | (refine S4 ?_; intro _ _ _) | (refine HO_g 2 rfl ?_; first | apply HO_a1 rfl | apply HO_o1 rfl) | refine S5 ?_ | (intro hb; try replace hb := simB hb; try exact kill hb))
  rename_i bc bb
  refine HC_keeps (rw' := bldP bb false (none, 0) [] ++ [cel b1 3 [.int .i64 0], cel bc TCf c.e]) ?_ ?_
  ·exact Keeps.pick 1 rfl rfl (Keeps.add (fun w => own_nil w) permA)
  have hnum := cfOk_nums hok
  have htl := text_len c.q hok
  have hll := linesOf_len c.q
  have hpp := cfOk_parts hok
  refine HC_loop (α := Nat × Bool × OA) (fun x => x.1 ≤ 18) (fun x => [(17, .int .i64 x.1), (16, .agg (ptrsL bc b1).toArray), (4, .func (.func 52) #[] #[pt bb]), (3, pt bb), (2, .string ⟨#[]⟩), (1, pt bc)]) (fun x => bldP bb x.2.1 x.2.2 (txt ((linesOf c.q).take x.1)) ++ [cel b1 3 [.int .i64 0], cel bc TCf c.e]) (fun x => 18 - x.1) rfl (0, false, (none, 0)) (Nat.zero_le _) ⟨rfl, rfl, rfl, rfl, rfl, rfl, trivial⟩ rfl ?_
  rintro ⟨i, u, xo⟩ hi
  dsimp only [bldP, lca, lna] at hi ⊢
  rcases Nat.lt_or_ge i 18 with hlt | hge
  ·have hwi := words_at i hlt
   have hwc := wordsC_at hwi
   have hln := lines_fix c.q i hlt
   have htx := txt_take hln
   have hfl1 := fixL_len c.q hok i hlt
   have hti := htl i
   obtain ⟨lo, hlo⟩ : ∃ lo, txt ((linesOf c.q).take i) = lo := ⟨_, rfl⟩
   rw [hlo] at htx hti
   rw [hlo]
   by_cases h1 : i = 1
   ·subst h1
    have p1 : (ptrsL bc b1)[1]? = some (ptO b1 0) := rfl
    have v1 : ([.int .i64 0] : List Value)[0]? = some (.int .i64 0) := rfl
    have hI := itoaD_t 0 (by decide) (by decide)
    have hD := dotted_t c.q.id hc.2.2.1
    have hj : joinW [wordsL.getD 1 [], dotS c.q.id] = fixL c.q 1 := by rw [joinW2]; rfl
    have hS := fun A => show1_t bb u xo lo A 2 2 [wordsL.getD 1 [], dotS c.q.id] rfl (by simp) (Nat.le_of_ble_eq_true rfl) (by rw [hj]; omega) (by omega)
    rw [hj] at hS
    repeat' (first | refine SW ?_ | refine SD ?_ | (refine HO_k 17 rfl ?_; refine HO_iva (j := 1) rfl rfl rfl rfl hlt p1 rfl rfl rdA ?_) | (refine HO_k 10 rfl ?_; refine HO_ixa (j := 1) rfl rfl rfl rfl hlt rfl rfl rdA ?_) | (refine HO_k 2 rfl ?_; first | refine HO_loj (hm := rfl) rfl rfl memA v1 rfl rfl rdA ?_ | refine HO_ldg (cs := wordsC) rfl rfl memA hwc rfl rfl rdA ?_) | (refine HO_k 12 rfl ?_; refine HO_callq rfl rfl rfl rfl (hI) (fun _ _ => rfl) (srcsA) rfl rfl sqA ?_) | (refine HO_k 12 rfl ?_; refine HO_callq rfl rfl rfl rfl (hD) (fun _ _ => rfl) (srcsA) rfl rfl sqA ?_) | (refine HO_k 12 rfl ?_; refine HO_mv 2 rfl rfl ?_; refine HO_mv 2 rfl rfl ?_; refine HO_call rfl rfl rfl rfl (hS _) rfl (srcsA) rfl rfl soA ?_; intro x' hx'; dsimp only [lca, lna]) | exact HO_seg rfl rfl | refine S1 ?_ | (refine S2 ?_; intro _) | (refine S3 ?_; intro _ _) | (refine S4 ?_; intro _ _ _) | (refine HO_g 2 rfl ?_; first | apply HO_a1 rfl | apply HO_o1 rfl) | refine S5 ?_ | (intro hb; try replace hb := simB hb; try exact kill hb))
    refine HX_keeps (rw' := bldP bb true x' (txt ((linesOf c.q).take (1 + 1))) ++ [cel b1 3 [.int .i64 0], cel bc TCf c.e]) ?_ ?_
    ·rw [htx]
     exact permA
    ·exact HX_at (1 + 1, true, x') ⟨by show 2 ≤ 18; decide, by show 18 - 2 < 18 - 1; decide⟩ ⟨rfl, rfl, rfl, rfl, rfl, rfl, trivial⟩ rfl
   ·have p1 := ptrs_at bc b1 hlt h1
    have v1 := e_at c hlt h1
    have hI := itoaD_t (num c.q i) (hnum i hlt h1).1 (hnum i hlt h1).2
    have hj : joinW [wordsL.getD i [], decD (num c.q i).toNat] = fixL c.q i := by rw [joinW2]; unfold fixL; rw [if_neg h1]
    have hS := fun A => show1_t bb u xo lo A 2 2 [wordsL.getD i [], decD (num c.q i).toNat] rfl (by simp) (Nat.le_of_ble_eq_true rfl) (by rw [hj]; omega) (by omega)
    rw [hj] at hS
    repeat' (first | refine SW ?_ | refine SD ?_ | (refine HO_k 17 rfl ?_; refine HO_iva (j := i) rfl rfl rfl rfl hlt p1 rfl rfl rdA ?_) | (refine HO_k 10 rfl ?_; refine HO_ixa (j := i) rfl rfl rfl rfl hlt rfl rfl rdA ?_) | (refine HO_k 2 rfl ?_; first | refine HO_loj (hm := rfl) rfl rfl memA v1 rfl rfl rdA ?_ | refine HO_ldg (cs := wordsC) rfl rfl memA hwc rfl rfl rdA ?_) | (refine HO_k 12 rfl ?_; refine HO_callq rfl rfl rfl rfl (hI) (fun _ _ => rfl) (srcsA) rfl rfl sqA ?_) | (refine HO_k 12 rfl ?_; refine HO_mv 2 rfl rfl ?_; refine HO_mv 2 rfl rfl ?_; refine HO_call rfl rfl rfl rfl (hS _) rfl (srcsA) rfl rfl soA ?_; intro x' hx'; dsimp only [lca, lna]) | exact HO_seg rfl rfl | refine S1 ?_ | (refine S2 ?_; intro _) | (refine S3 ?_; intro _ _) | (refine S4 ?_; intro _ _ _) | (refine HO_g 2 rfl ?_; first | apply HO_a1 rfl | apply HO_o1 rfl) | refine S5 ?_ | (intro hb; try replace hb := simB hb; try exact kill hb))
    refine HX_keeps (rw' := bldP bb true x' (txt ((linesOf c.q).take (i + 1))) ++ [cel b1 3 [.int .i64 0], cel bc TCf c.e]) ?_ ?_
    ·rw [htx]
     exact permA
    ·exact HX_at (i + 1, true, x') ⟨hlt, by show 18 - (i + 1) < 18 - i; omega⟩ ⟨rfl, rfl, rfl, rfl, rfl, rfl, trivial⟩ rfl
  obtain rfl : i = 18 := by omega
  repeat' (first | refine SW ?_ | refine SD ?_ | exact HO_seg rfl rfl | refine S1 ?_ | (refine S2 ?_; intro _) | (refine S3 ?_; intro _ _) | (refine S4 ?_; intro _ _ _) | (refine HO_g 2 rfl ?_; first | apply HO_a1 rfl | apply HO_o1 rfl) | refine S5 ?_ | (intro hb; try replace hb := simB hb; try exact kill hb))
  refine HC_loop (α := Nat × Bool × OA) (fun x => x.1 ≤ c.q.ifs.length) (fun x => [(41, .int .i64 x.1), (40, .int .i64 c.q.ifs.length), (39, .slice c.iA c.q.ifs.length c.ic), (4, .func (.func 52) #[] #[pt bb]), (3, pt bb), (2, .string ⟨#[]⟩), (1, pt bc)]) (fun x => bldP bb x.2.1 x.2.2 (txt ((linesOf c.q).take (18 + x.1))) ++ [cel b1 3 [.int .i64 0], cel bc TCf c.e]) (fun x => c.q.ifs.length - x.1) rfl (0, u, xo) (Nat.zero_le _) ⟨rfl, rfl, rfl, rfl, rfl, rfl, rfl, trivial⟩ rfl ?_
  clear hi u xo
  rintro ⟨j, u, xo⟩ hi
  dsimp only [bldP, lca, lna] at hi ⊢
  rcases Nat.lt_or_ge j c.q.ifs.length with hlt | hge
  ·obtain ⟨x, hx⟩ : ∃ x, c.q.ifs[j]? = some x := ⟨c.q.ifs[j], List.getElem?_eq_getElem hlt⟩
   have hmem := List.mem_of_getElem? hx
   have hnx := if_nums hok hmem
   have htx := txt_take (lines_if c.q hx)
   have hxl := ifL_len hnx
   have hti := htl (18 + j)
   obtain ⟨lo, hlo⟩ : ∃ lo, txt ((linesOf c.q).take (18 + j)) = lo := ⟨_, rfl⟩
   rw [hlo] at htx hti
   rw [hlo]
   have hI1 := itoaD_t x.id hnx.1.1 hnx.1.2
   have hI2 := itoaD_t x.router hnx.2.1.1 hnx.2.1.2
   have hI3 := itoaD_t x.cap hnx.2.2.1 hnx.2.2.2
   have hP := show_t x.a (hc.2.2.2 x hmem) x.n
   dsimp only [pfV] at hP
   have hj : joinW [ifaceW, decD x.id.toNat, decD x.router.toNat, shoS x.a x.n, decD x.cap.toNat] = ifL x := by rw [joinW5]; rfl
   have hS := fun A => show1_t bb u xo lo A 5 5 [ifaceW, decD x.id.toNat, decD x.router.toNat, shoS x.a x.n, decD x.cap.toNat] rfl (by simp) (Nat.le_of_ble_eq_true rfl) (by rw [hj]; omega) (by omega)
   rw [hj] at hS
   repeat' (first | refine SW ?_ | refine SD ?_ | (refine HO_k 12 rfl ?_; refine HO_callq rfl rfl rfl rfl (hI1) (fun _ _ => rfl) (srcsA) rfl rfl sqA ?_) | (refine HO_k 12 rfl ?_; refine HO_callq rfl rfl rfl rfl (hI2) (fun _ _ => rfl) (srcsA) rfl rfl sqA ?_) | (refine HO_k 12 rfl ?_; refine HO_callq rfl rfl rfl rfl (hI3) (fun _ _ => rfl) (srcsA) rfl rfl sqA ?_) | (refine HO_k 12 rfl ?_; refine HO_callq rfl rfl rfl rfl (hP) (fun _ _ => rfl) (srcsA) rfl rfl sqA ?_) | (refine HO_k 12 rfl ?_; refine HO_mv 2 rfl rfl ?_; refine HO_mv 2 rfl rfl ?_; refine HO_call rfl rfl rfl rfl (hS _) rfl (srcsA) rfl rfl soA ?_; intro x' hx'; dsimp only [lca, lna]) | (refine HO_k 12 rfl ?_; refine HO_mv 3 rfl rfl ?_; refine HO_mv 3 rfl rfl ?_; refine HO_call rfl rfl rfl rfl (hS _) rfl (srcsA) rfl rfl soA ?_; intro x' hx'; dsimp only [lca, lna]) | exact HO_seg rfl rfl | refine S1 ?_ | (refine S2 ?_; intro _) | (refine S3 ?_; intro _ _) | (refine S4 ?_; intro _ _ _) | (refine HO_g 2 rfl ?_; first | apply HO_a1 rfl | apply HO_o1 rfl) | refine S5 ?_ | (intro hb; try replace hb := simB hb; try exact kill hb))
   refine HX_keeps (rw' := bldP bb true x' (txt ((linesOf c.q).take (18 + (j + 1)))) ++ [cel b1 3 [.int .i64 0], cel bc TCf c.e]) ?_ ?_
   ·rw [show 18 + (j + 1) = 18 + j + 1 by omega, htx]
    exact permA
   ·exact HX_at (j + 1, true, x') ⟨hlt, by show c.q.ifs.length - (j + 1) < c.q.ifs.length - j; omega⟩ ⟨rfl, rfl, rfl, rfl, rfl, rfl, rfl, trivial⟩ rfl
  obtain rfl : j = c.q.ifs.length := by omega
  repeat' (first | refine SW ?_ | refine SD ?_ | exact HO_seg rfl rfl | refine S1 ?_ | (refine S2 ?_; intro _) | (refine S3 ?_; intro _ _) | (refine S4 ?_; intro _ _ _) | (refine HO_g 2 rfl ?_; first | apply HO_a1 rfl | apply HO_o1 rfl) | refine S5 ?_ | (intro hb; try replace hb := simB hb; try exact kill hb))
  refine HC_loop (α := Nat × Bool × OA) (fun x => x.1 ≤ c.q.deny.length) (fun x => [(64, .int .i64 x.1), (63, .int .i64 c.q.deny.length), (62, .slice c.dA c.q.deny.length c.dc), (4, .func (.func 52) #[] #[pt bb]), (3, pt bb), (2, .string ⟨#[]⟩), (1, pt bc)]) (fun x => bldP bb x.2.1 x.2.2 (txt ((linesOf c.q).take (18 + c.q.ifs.length + x.1))) ++ [cel b1 3 [.int .i64 0], cel bc TCf c.e]) (fun x => c.q.deny.length - x.1) rfl (0, u, xo) (Nat.zero_le _) ⟨rfl, rfl, rfl, rfl, rfl, rfl, rfl, trivial⟩ rfl ?_
  clear hi u xo
  rintro ⟨j, u, xo⟩ hi
  dsimp only [bldP, lca, lna] at hi ⊢
  rcases Nat.lt_or_ge j c.q.deny.length with hlt | hge
  ·obtain ⟨x, hx⟩ : ∃ x, c.q.deny[j]? = some x := ⟨c.q.deny[j], List.getElem?_eq_getElem hlt⟩
   have hmem := List.mem_of_getElem? hx
   have hnx := deny_nums hok hmem
   have htx := txt_take (lines_deny c.q hx)
   have hxl := decI_len hnx
   have hti := htl (18 + c.q.ifs.length + j)
   obtain ⟨lo, hlo⟩ : ∃ lo, txt ((linesOf c.q).take (18 + c.q.ifs.length + j)) = lo := ⟨_, rfl⟩
   rw [hlo] at htx hti
   rw [hlo]
   have hI1 := itoaD_t x hnx.1 hnx.2
   have hj : joinW [denyW, decD x.toNat] = denyL x := by rw [joinW2]; rfl
   have hS := fun A => show1_t bb u xo lo A 2 2 [denyW, decD x.toNat] rfl (by simp) (Nat.le_of_ble_eq_true rfl) (by rw [joinW2, List.length_append, List.length_cons]; show 4 + _ ≤ _; omega) (by omega)
   rw [hj] at hS
   repeat' (first | refine SW ?_ | refine SD ?_ | (refine HO_k 12 rfl ?_; refine HO_callq rfl rfl rfl rfl (hI1) (fun _ _ => rfl) (srcsA) rfl rfl sqA ?_) | (refine HO_k 12 rfl ?_; refine HO_mv 2 rfl rfl ?_; refine HO_mv 2 rfl rfl ?_; refine HO_call rfl rfl rfl rfl (hS _) rfl (srcsA) rfl rfl soA ?_; intro x' hx'; dsimp only [lca, lna]) | exact HO_seg rfl rfl | refine S1 ?_ | (refine S2 ?_; intro _) | (refine S3 ?_; intro _ _) | (refine S4 ?_; intro _ _ _) | (refine HO_g 2 rfl ?_; first | apply HO_a1 rfl | apply HO_o1 rfl) | refine S5 ?_ | (intro hb; try replace hb := simB hb; try exact kill hb))
   refine HX_keeps (rw' := bldP bb true x' (txt ((linesOf c.q).take (18 + c.q.ifs.length + (j + 1)))) ++ [cel b1 3 [.int .i64 0], cel bc TCf c.e]) ?_ ?_
   ·rw [show 18 + c.q.ifs.length + (j + 1) = 18 + c.q.ifs.length + j + 1 by omega, htx]
    exact permA
   ·exact HX_at (j + 1, true, x') ⟨hlt, by show c.q.deny.length - (j + 1) < c.q.deny.length - j; omega⟩ ⟨rfl, rfl, rfl, rfl, rfl, rfl, rfl, trivial⟩ rfl
  obtain rfl : j = c.q.deny.length := by omega
  have hall : (linesOf c.q).take (18 + c.q.ifs.length + c.q.deny.length) = linesOf c.q := by rw [← hll]; exact List.take_length
  have hti := htl (18 + c.q.ifs.length + c.q.deny.length)
  rw [hall] at hti
  rw [hall]
  have hne : txt (linesOf c.q) ≠ [] := by
   intro e
   have h18 := lines_fix c.q 0 (by decide)
   have h1 := txt_take h18
   have h2 : (txt ((linesOf c.q).take 1)).length ≤ (txt (linesOf c.q)).length := by
    conv => rhs; rw [← List.take_append_drop 1 (linesOf c.q), txt_app]
    rw [List.length_append]; omega
   rw [h1, e] at h2
   simp at h2
  have hB := bstr_t bb u xo (txt (linesOf c.q)) hne (by omega)
  repeat' (first | refine SW ?_ | refine SD ?_ | (refine HO_k 12 rfl ?_; refine HO_callq rfl rfl rfl rfl (hB) (fun _ _ => rfl) (trivial) rfl rfl sqA ?_) | (refine HO_k 12 rfl ?_; refine HO_call rfl rfl rfl rfl (hB) rfl (trivial) rfl rfl soA ?_; intro g hg; dsimp only [lca, lna]) | exact HO_seg rfl rfl | refine S1 ?_ | (refine S2 ?_; intro _) | (refine S3 ?_; intro _ _) | (refine S4 ?_; intro _ _ _) | (refine HO_g 2 rfl ?_; first | apply HO_a1 rfl | apply HO_o1 rfl) | refine S5 ?_ | (intro hb; try replace hb := simB hb; try exact kill hb))
  (refine SR ?_; unfold RetQ; refine ⟨(), trivial, ?_, Keeps.nil⟩)
  rfl
end Go.Proofs.YtbhiojedmkcfoaaGreatDoor
