/- Part of a proof of many texts: what the theorem at its end leans on. -/
import Derived.Test.YteeogabkkblkgaaGreatDoorVAtt0
namespace Go.Proofs.YteeogabkkblkgaaGreatDoor
set_option maxHeartbeats 1000000000
set_option linter.unusedVariables false
set_option linter.unusedSimpArgs false
open Go.RowKit
attribute [local irreducible] HC HX HO Tri eP adr
theorem shl_one (w : Nat) (h : w ≤ 4) : bShl .i64 1 (8 * w) = ((256 ^ w : Nat) : Int) := by
 have : w = 0 ∨ w = 1 ∨ w = 2 ∨ w = 3 ∨ w = 4 := by omega
 rcases this with rfl | rfl | rfl | rfl | rfl <;> decide
theorem fits_t (n : Int) (w : Nat) (h1 : 1 ≤ w) (h4 : w ≤ 4) :
  Tri Tryz.prog 168 [.int .i64 n, .int .i64 w] [] [] (fun _ : Unit => True) (fun _ => .bool (decide (0 ≤ n) && decide (n < (256 ^ w : Nat)))) (fun _ => []) := by
 have hs := shl_one w h4
 refine Tri_in Tryz.func168 rfl (fun w0 S0 => ?_)
 repeat' (first | refine SW ?_ | exact HO_seg rfl rfl | refine S1 ?_ | (refine HO_g 2 rfl ?_; apply HO_a1 rfl) | refine S5 ?_ | (intro hb; try replace hb := simB hb; try exact kill hb))
 (refine SRt ?_; refine RU ?_)
 rw [hs]
 rfl
theorem rput_row (w k j : Nat) (hj : j ≤ w) : w = ((List.replicate j (0 : UInt8) ++ (be w k).drop j).map bE).length := by
 simp [be_length]; omega
theorem rput_at (w k j : Nat) (hj : 0 < j) : ((List.replicate j (0 : UInt8) ++ (be w k).drop j).map bE)[j - 1]? = some (bE 0) := by
 rw [List.getElem?_map, List.getElem?_append_left (by simp; omega), List.getElem?_replicate, if_pos (by omega)]
 rfl
theorem rput_step (w k j : Nat) (h0 : 0 < j) (hj : j ≤ w) (v : List Value) (hv : v = bE (UInt8.ofNat (k / 256 ^ (w - j)))) :
  ((List.replicate j (0 : UInt8) ++ (be w k).drop j).map bE).set (j - 1) v = (List.replicate (j - 1) (0 : UInt8) ++ (be w k).drop (j - 1)).map bE := by
 have h1 : (be w k).drop (j - 1) = UInt8.ofNat (k / 256 ^ (w - j)) :: (be w k).drop j := by
  have hb := be_get w k (j - 1) (by omega)
  rw [show w - 1 - (j - 1) = w - j by omega] at hb
  have hlt : j - 1 < (be w k).length := by rw [be_length]; omega
  rw [List.drop_eq_getElem_cons hlt, show j - 1 + 1 = j by omega]
  rw [List.getElem?_eq_getElem hlt] at hb
  injection hb with hb
  rw [hb]
 have h2 : List.replicate j (0 : UInt8) = List.replicate (j - 1) 0 ++ [0] := by
  have := List.replicate_succ' (n := j - 1) (a := (0 : UInt8))
  rw [show j - 1 + 1 = j by omega] at this
  exact this
 rw [h1, h2, hv, List.append_assoc, List.map_append, List.map_append, List.set_append_right _ _ (by simp)]
 simp
theorem rput_byte (k : Nat) : [Value.int .u8 (IntKind.u8.wrap (bRem (k : Int) 256))] = bE (UInt8.ofNat k) := by
 have h : bRem (k : Int) 256 = ((k % 256 : Nat) : Int) := by unfold bRem; rw [Int.tmod_eq_emod_of_nonneg (by omega)]; rfl
 rw [h, u8_wrap _ (by omega), Int.toNat_natCast]
 simp [bE]
theorem rput_quo (k : Nat) (h : k ≤ 9223372036854775807) : bQuo .i64 (k : Int) 256 = ((k / 256 : Nat) : Int) := by
 unfold bQuo
 rw [Int.tdiv_eq_ediv_of_nonneg (by omega), IntKind.wrap_i64]
 omega
theorem rput_t (w k : Nat) (h4 : w ≤ 4) (hk : k ≤ 9223372036854775807) :
  Tri Tryz.prog 70 [.int .i64 k, .int .i64 w] [] [] (fun _ : OA => True) (fun x => .slice x.1 w x.2) (fun x => [own idE 5 1 x.1 w x.2 ((be w k).map bE)]) := by
 refine Tri_in Tryz.func70 rfl (fun w0 S0 => ?_)
 repeat' (first | refine SX ?_ | refine SB ?_ | (refine S2 ?_; intro _) | fail)
 rename_i b
 refine HC_loop (α := Nat) (fun j => j ≤ w) (fun j => [(6, .int .i64 ((j : Int) - 1)), (5, .slice (some ⟨b, 0, none⟩) w w), (0, .int .i64 ((k / 256 ^ (w - j) : Nat) : Int))])
  (fun j => [own idE 5 1 (some ⟨b, 0, none⟩) w w ((List.replicate j 0 ++ (be w k).drop j).map bE)]) (fun j => j) rfl w (Nat.le_refl _) ⟨rfl, rfl, by simp [Env.get], trivial⟩ (by simp only [List.drop_of_length_le (show (be w k).length ≤ w by rw [be_length]; exact Nat.le_refl _)]; simp [bE]) ?_
 intro j hj
 rcases Nat.eq_zero_or_pos j with h0 | h0
 ·subst h0
  repeat' (first | refine SX ?_ | refine SB ?_ | (refine S2 ?_; intro _) | fail)
  (refine SRt ?_; unfold RetQ; refine ⟨(some ⟨b, 0, none⟩, w), trivial, rfl, Keeps.own_cons Keeps.nil rfl (by simp)⟩)
 ·have hrow := rput_row w k j hj
  have hat := rput_at w k j h0
  have hq : ((j : Int) - 1).toNat = j - 1 := by omega
  rw [← hq] at hat
  have hk' : k / 256 ^ (w - j) ≤ 9223372036854775807 := Nat.le_trans (Nat.div_le_self _ _) hk
  have e6 : ((j : Int) - 1 - 1) = ((j - 1 : Nat) : Int) - 1 := by omega
  have e0 : k / 256 ^ (w - j) / 256 = k / 256 ^ (w - (j - 1)) := by
   rw [Nat.div_div_eq_div_mul, ← Nat.pow_succ]
   congr 2
   omega
  repeat' (first | refine SX ?_ | refine SB ?_ | (refine S2 ?_; intro _) | fail)
  rw [e6, rput_quo _ hk', e0, hq]
  refine HX_keeps (rw' := [own idE 5 1 (some ⟨b, 0, none⟩) w w ((List.replicate (j - 1) 0 ++ (be w k).drop (j - 1)).map bE)]) (Keeps.own_cons Keeps.nil rfl (by exact rput_step w k j h0 hj _ (rput_byte _))) ?_
  exact HX_at (j - 1) ⟨by omega, by omega⟩ ⟨rfl, rfl, rfl, trivial⟩ rfl
theorem rget_t (A : Option Addr) (n c : Nat) (l : List UInt8) (hn : n = l.length) (h4 : l.length ≤ 4) :
  Tri Tryz.prog 77 [.slice A n c] [arr bE 1 A l] [] (fun _ : Unit => True) (fun _ => .int .i64 (ge l)) (fun _ => []) := by
 refine Tri_in Tryz.func77 rfl (fun w0 S0 => ?_)
 repeat' (first | refine SX ?_ | refine SB ?_ | fail)
 refine HC_loop (α := Nat) (fun j => j ≤ l.length) (fun j => [(4, .int .i64 j), (3, .int .i64 (ge (l.take j))), (0, .slice A n c)]) (fun _ => []) (fun j => l.length - j) rfl 0 (Nat.zero_le _) ⟨rfl, rfl, rfl, trivial⟩ rfl ?_
 intro j hj
 rcases Nat.lt_or_ge j l.length with hlt | hge
 ·obtain ⟨b, hb0⟩ : ∃ b, l[j]? = some b := ⟨l[j], List.getElem?_eq_getElem hlt⟩
  have e1 : l.take (j + 1) = l.take j ++ [b] := by rw [List.take_add_one, hb0]; rfl
  have hg := ge_lt (l.take j)
  have hg3 : ge (l.take j) < 256 ^ 3 := Nat.lt_of_lt_of_le hg (Nat.pow_le_pow_right (by decide) (by simp; omega))
  have hb := b.toNat_lt
  have e2 : (256 * (ge (l.take j) : Int) + (b.toNat : Int)) = ((ge (l.take (j + 1)) : Nat) : Int) := by rw [e1, ge_snoc]; omega
  clear hg
  repeat' (first | refine SX ?_ | refine SB ?_ | fail)
  rw [e2]
  exact HX_at (j + 1) ⟨hlt, by omega⟩ ⟨rfl, rfl, rfl, trivial⟩ rfl
 ·obtain rfl : j = l.length := by omega
  repeat' (first | refine SX ?_ | refine SB ?_ | fail)
  (refine SRt ?_; refine RU ?_)
  rw [List.take_length]
  rfl
@[reducible] def TQ : Nat := 237
@[reducible] def rqP (b : Nat) (A : Option Addr) (c : Nat) (bad : Bool) (l : List UInt8) : List SL := [cel b TQ [.slice A l.length c, .bool bad], arr bE 1 A l]
theorem rbytes_t (b : Nat) (A : Option Addr) (c : Nat) (bad : Bool) (l : List UInt8) (n : Int) (hb : l.length ≤ 1000000000) (hc : l.length ≤ c) :
  Tri Tryz.prog 163 [pt b, .int .i64 n] [] (rqP b A c bad l) (fun x : OA × OA => (rdB bad l n).1.length ≤ x.1.2 ∧ (rdB bad l n).2.2.length ≤ x.2.2) (fun x => .slice x.1.1 (rdB bad l n).1.length x.1.2)
   (fun x => ownB x.1 (rdB bad l n).1 :: rqP b x.2.1 x.2.2 (rdB bad l n).2.1 (rdB bad l n).2.2) := by
 by_cases h : bad = true ∨ n < 0 ∨ l.length < n
 ·rw [show rdB bad l n = ([], true, l) from if_pos h]
  rcases h with rfl | h | h
  all_goals
   refine Tri_in Tryz.func163 rfl (fun w0 S0 => ?_)
   dsimp only [rqP, pt]
   repeat' (first | refine SD ?_ | exact HO_seg rfl rfl | refine S1 ?_ | (refine S2 ?_; intro _) | (refine HO_g 2 rfl ?_; apply HO_o1 rfl) | refine S5 ?_ | (intro hb; try replace hb := simB hb; try exact kill hb) | refine HC_cond rfl rfl ?_ ?_ | fail)
  all_goals try exact false
  all_goals (refine SRt ?_; unfold RetQ; refine ⟨((none, 0), (A, c)), ⟨Nat.le_refl _, hc⟩, rfl, Keeps.add (fun w => own_nil w) Keeps.refl⟩)
 ·rw [show rdB bad l n = (l.take n.toNat, bad, l.drop n.toNat) from if_neg h]
  have hbad : bad = false := by cases bad <;> simp_all
  subst hbad
  have hn : 0 ≤ n ∧ n ≤ l.length := by simp at h; omega
  refine Tri_in Tryz.func163 rfl (fun w0 S0 => ?_)
  dsimp only [rqP, pt]
  repeat' (first | refine SD ?_ | exact HO_seg rfl rfl | refine S1 ?_ | (refine S2 ?_; intro _) | (refine HO_g 2 rfl ?_; apply HO_o1 rfl) | refine S5 ?_ | (intro hb; try replace hb := simB hb; try exact kill hb))
  have hn0 : 0 + n.toNat = (l.take n.toNat).length := by simp; omega
  refine HO_k 11 rfl ?_
  refine HO_app (k := 0) (k2 := 2) (l2 := (l.take n.toNat).map bE) rfl rfl rfl rfl rfl rfl rfl rfl ⟨_, rfl, fun _ S w h => arr_raw S w (arr_take _ S w h)⟩ (by simp; omega) WfL.map rfl rfl (by simp; omega) (by simp; omega) rfl rfl rfl soA ?_
  intro A' c'
  rw [hn0]
  repeat' (first | refine SD ?_ | exact HO_seg rfl rfl | refine S1 ?_ | (refine S2 ?_; intro _) | (refine HO_g 2 rfl ?_; apply HO_o1 rfl) | refine S5 ?_ | (intro hb; try replace hb := simB hb; try exact kill hb))
  refine HX_know (C := (l.take n.toNat).length ≤ c') (fun w h => own_cap 0 rfl h) (fun hc' => ?_)
  have e : (l.drop n.toNat).length = l.length - n.toNat := by simp
  (refine SRt ?_; unfold RetQ; refine ⟨((A', c'), (cutA A 1 c n.toNat, c - n.toNat)), ⟨hc', by rw [e]; simp only; omega⟩, rfl, Keeps.cons Ent.rfl_ (Keeps.cons (by rw [e]; exact Ent.rfl_) (Keeps.cons (arr_drop _ _ (fun h => by omega)) Keeps.nil))⟩)
theorem rnum_t (b : Nat) (A : Option Addr) (c : Nat) (bad : Bool) (l : List UInt8) (w : Int) (hw : 1 ≤ w ∧ w ≤ 4) (hb : l.length ≤ 1000000000) (hc : l.length ≤ c) :
  Tri Tryz.prog 162 [pt b, .int .i64 w] [] (rqP b A c bad l) (fun x : OA => (rdB bad l w).2.2.length ≤ x.2) (fun _ => .int .i64 (ge (rdB bad l w).1))
   (fun x => rqP b x.1 x.2 (rdB bad l w).2.1 (rdB bad l w).2.2) := by
 have hby := rbytes_t b A c bad l w hb hc
 have h4 : (rdB bad l w).1.length ≤ 4 := by unfold rdB; split <;> simp; omega
 obtain ⟨out, bad', l', hr⟩ : ∃ out bad' l', rdB bad l w = (out, bad', l') := ⟨_, _, _, rfl⟩
 rw [hr] at hby h4 ⊢
 refine Tri_in Tryz.func162 rfl (fun w0 S0 => ?_)
 dsimp only [rqP, pt]
 repeat' (first | refine SD ?_ | (refine KC ?_; refine HO_callq rfl rfl rfl rfl (rget_t _ _ _ out rfl h4) (fun _ _ => rfl) (AllSrc.via 0 rfl own_byte trivial) rfl rfl sqA ?_) | (refine KC ?_; refine HO_call rfl rfl rfl rfl (hby) rfl (trivial) rfl rfl soA ?_; intro ⟨⟨xA, xc⟩, ⟨yA, yc⟩⟩ hx; dsimp only [lca, lna]) | refine SB ?_ | fail)
 (refine SRt ?_; unfold RetQ; refine ⟨(yA, yc), hx.2, rfl, Keeps.skip Keeps.refl⟩)
theorem rleft_t (b : Nat) (A : Option Addr) (n c : Nat) (bad : Bool) :
  Tri Tryz.prog 161 [pt b] [cel b TQ [.slice A n c, .bool bad]] [] (fun _ : Unit => True) (fun _ => .int .i64 (if bad = true then 0 else n)) (fun _ => []) := by
 cases bad
 all_goals
  refine Tri_in Tryz.func161 rfl (fun w0 S0 => ?_)
  dsimp only [pt]
  repeat' (first | refine SB ?_ | fail)
  (refine SRt ?_; refine RU ?_)
  rfl
theorem AllSrc.of {src : List SL} : ∀ {l : List SL}, (∀ e ∈ l, ∃ e0 ∈ src, Ent e0 e) → AllSrc src l
 | [], _ => trivial
 | e :: l, h => ⟨.inl (h e (by simp)), AllSrc.of fun f hf => h f (by simp [hf])⟩
theorem AllSrc.self {e : SL} {l r : List SL} : AllSrc (e :: l ++ r) l := AllSrc.of fun f hf => ⟨f, by simp [hf], Ent.rfl_⟩
structure SegS where
 set : Bool
 A : Option Addr
 c : Nat
 ns : List Int
def SegS.e (s : SegS) : List Value := [.bool s.set, .slice s.A s.ns.length s.c]
instance : EncOk SegS.e 2 := ⟨fun _ => ⟨rfl, rfl⟩⟩
structure AttS where
 org : Int
 pA : Option Addr
 pc : Nat
 path : List SegS
 nxt : Int
 med : Int
 pref : Int
 cA : Option Addr
 cc : Nat
 comms : List Int
def AttS.e (a : AttS) : List Value := [.int .i64 a.org, .slice a.pA a.path.length a.pc, .int .u32 a.nxt, .int .i64 a.med, .int .i64 a.pref, .slice a.cA a.comms.length a.cc]
def segPs (l : List SegS) : List SL := l.map fun s => arr iE 1 s.A s.ns
@[reducible] def AttS.ro (a : AttS) : List SL := [inn (segPs a.path), arr SegS.e 2 a.pA a.path, arr iE 1 a.cA a.comms]
theorem seg_mem {l : List SegS} {s : SegS} (h : s ∈ l) : arr iE 1 s.A s.ns ∈ segPs l := List.mem_map.2 ⟨s, h, rfl⟩
def fitsB (w : Nat) (n : Int) : Bool := decide (0 ≤ n) && decide (n < (256 ^ w : Nat))
def szF (four : Bool) : Nat := if four = true then 4 else 2
theorem szF_bd (four : Bool) : 1 ≤ szF four ∧ szF four ≤ 4 := by cases four <;> decide
theorem size_t (four : Bool) : Tri Tryz.prog 215 [.bool four] [] [] (fun _ : Unit => True) (fun _ => .int .i64 (szF four)) (fun _ => []) := by
 cases four
 all_goals
  refine Tri_in Tryz.func215 rfl (fun w0 S0 => ?_)
  repeat' (first | refine SB ?_ | fail)
  (refine SRt ?_; refine RU ?_)
  rfl
theorem rsize_t (four : Bool) : Tri Tryz.prog 76 [.bool four] [] [] (fun _ : Unit => True) (fun _ => .int .i64 (szF four)) (fun _ => []) := by
 cases four
 all_goals
  refine Tri_in Tryz.func76 rfl (fun w0 S0 => ?_)
  repeat' (first | refine SB ?_ | fail)
  (refine SRt ?_; refine RU ?_)
  rfl
theorem awithin_t (n l m : Int) : Tri Tryz.prog 212 [.int .i64 n, .int .i64 l, .int .i64 m] [] [] (fun _ : Unit => True) (fun _ => .bool (decide (l ≤ n) && decide (n ≤ m))) (fun _ => []) := by
 refine Tri_in Tryz.func212 rfl (fun w0 S0 => ?_)
 repeat' (first | exact HO_seg rfl rfl | refine S1 ?_ | (refine HO_g 2 rfl ?_; apply HO_a1 rfl) | refine S5 ?_ | (intro hb; try replace hb := simB hb; try exact kill hb))
 (refine SRt ?_; refine RU ?_)
 rfl
theorem fits_le (n : Int) (w : Nat) (h : w ≤ 4) : (!(decide (0 ≤ n) && decide (n ≤ ((256 ^ w : Nat) : Int) - 1))) = !fitsB w n := by
 unfold fitsB
 congr 2
 exact decide_eq_decide.2 (by omega)
theorem odd1_t (b : Nat) (four : Bool) (n : Int) : Tri Tryz.prog 225 [.int .i64 n, pt b] [cel b 4 [.bool four]] [] (fun _ : Unit => True) (fun _ => .bool (!fitsB (szF four) n)) (fun _ => []) := by
 have hz := szF_bd four
 have hs := shl_one (szF four) hz.2
 have hb : ((256 ^ szF four : Nat) : Int) ≤ 4294967296 ∧ 0 ≤ ((256 ^ szF four : Nat) : Int) := by cases four <;> decide
 have hf := fits_le n _ hz.2
 obtain ⟨q, hq⟩ : ∃ q : Nat, 256 ^ szF four = q := ⟨_, rfl⟩
 rw [hq] at hs hb hf
 refine Tri_in Tryz.func225 rfl (fun w0 S0 => ?_)
 dsimp only [pt]
 repeat' (first | refine SW ?_ | (with_reducible refine HO_rw (congrArg (Value.int .i64) hs) ?_) | (refine KC ?_; refine HO_callq rfl rfl rfl rfl (size_t four) (fun _ _ => rfl) (trivial) rfl rfl sqA ?_) | (refine KC ?_; refine HO_callq rfl rfl rfl rfl (awithin_t _ _ _) (fun _ _ => rfl) (trivial) rfl rfl sqA ?_) | refine SB ?_ | fail)
 (refine SRt ?_; refine RU ?_)
 exact congrArg Value.bool hf
theorem check2_t (n : Int) : Tri Tryz.prog 211 [.int .i64 n] [] [] (fun _ : Unit => True) (fun _ => .bool (!fitsB 4 n)) (fun _ => []) := by
 refine Tri_in Tryz.func211 rfl (fun w0 S0 => ?_)
 repeat' (first | (refine KC ?_; refine HO_callq rfl rfl rfl rfl (awithin_t _ _ _) (fun _ _ => rfl) (trivial) rfl rfl sqA ?_) | refine SB ?_ | fail)
 (refine SRt ?_; refine RU ?_)
 exact congrArg Value.bool (fits_le n 4 (by decide))
def idxF {α : Type} (p : α → Bool) (l : List α) : Int := if l.any p = true then (l.findIdx p : Nat) else -1
theorem idxF_ge {α : Type} (p : α → Bool) (l : List α) : decide (0 ≤ idxF p l) = l.any p := by
 unfold idxF
 split
 ·rename_i h; rw [h]; exact decide_eq_true (by omega)
 ·rename_i h; rw [Bool.not_eq_true] at h; rw [h]; rfl
theorem idxF_at {α : Type} {p : α → Bool} {l : List α} {j : Nat} {a : α} (hj : l[j]? = some a) (ha : p a = true) (hno : ∀ q, q < j → ∀ b, l[q]? = some b → p b = false) : idxF p l = j := by
 obtain ⟨hlt, rfl⟩ := List.getElem?_eq_some_iff.1 hj
 have : l.any p = true := List.any_eq_true.2 ⟨_, List.getElem_mem hlt, ha⟩
 rw [idxF, if_pos this, (List.findIdx_eq hlt).2 ⟨ha, fun q hq => by simpa using hno q hq _ (List.getElem?_eq_getElem (by omega))⟩]
theorem idxF_no {α : Type} {p : α → Bool} {l : List α} (hno : ∀ q, q < l.length → ∀ b, l[q]? = some b → p b = false) : idxF p l = -1 := by
 rw [idxF, if_neg]
 intro h
 obtain ⟨a, ha, hp⟩ := List.any_eq_true.1 h
 obtain ⟨q, hq⟩ := List.getElem?_of_mem ha
 rw [hno q (List.getElem?_eq_some_iff.1 hq).1 a hq] at hp
 cases hp
theorem indexI_t (A : Option Addr) (n c : Nat) (l : List Int) (hn : n = l.length) (hl : l.length ≤ 1000000) (g : Nat) [FnOk Tryz.prog g] (cap : List Value) (roC : List SL) (p : Int → Bool)
  (hp : ∀ x ∈ l, Tri Tryz.prog g (.int .i64 x :: cap) roC [] (fun _ : Unit => True) (fun _ => .bool (p x)) (fun _ => [])) :
  Tri Tryz.prog 227 [.slice A n c, .func (.func g) #[] cap.toArray] (arr iE 1 A l :: roC) [] (fun _ : Unit => True) (fun _ => .int .i64 (idxF p l)) (fun _ => []) := by
 refine Tri_in Tryz.func227 rfl (fun w0 S0 => ?_)
 repeat' (first | refine SX ?_ | refine SB ?_ | (intro hb; try replace hb := simB hb; try exact kill hb))
 refine HC_loop (α := Nat) (fun j => j ≤ l.length ∧ ∀ q, q < j → ∀ b, l[q]? = some b → p b = false) (fun j => [(8, .int .i64 j), (7, .int .i64 n), (0, .slice A n c), (1, .func (.func g) #[] cap.toArray)]) (fun _ => []) (fun j => l.length - j) rfl 0 ⟨Nat.zero_le _, fun q hq => by omega⟩ ⟨rfl, rfl, rfl, rfl, trivial⟩ rfl ?_
 intro j ⟨hj, hno⟩
 rcases Nat.lt_or_ge j l.length with hlt | hge
 ·obtain ⟨a, ha⟩ : ∃ a, l[j]? = some a := ⟨l[j], List.getElem?_eq_getElem hlt⟩
  have hpa := hp a (List.mem_of_getElem? ha)
  repeat' (first | refine SX ?_ | (refine KC ?_; refine HO_callq rfl rfl rfl rfl (hpa) (fun _ _ => rfl) (AllSrc.self) rfl rfl sqA ?_) | refine SB ?_ | (intro hb; try replace hb := simB hb; try exact kill hb) | refine HC_cond rfl rfl ?_ ?_ | fail)
  ·(refine SRt ?_; refine RU ?_)
   exact congrArg (Value.int .i64) (idxF_at ha hb hno).symm
  ·exact HX_at (j + 1) ⟨⟨hlt, fun q hq b hbq => by
    rcases Nat.lt_or_ge q j with h | h
    ·exact hno q h b hbq
    ·obtain rfl : q = j := by omega
     rw [ha] at hbq
     injection hbq with hbq
     exact hbq ▸ hb⟩, by omega⟩ ⟨rfl, rfl, rfl, rfl, trivial⟩ rfl
 ·obtain rfl : j = l.length := by omega
  repeat' (first | refine SX ?_ | refine SB ?_ | (intro hb; try replace hb := simB hb; try exact kill hb))
  (refine SRt ?_; refine RU ?_)
  exact congrArg (Value.int .i64) (idxF_no hno).symm
theorem containsI_t (A : Option Addr) (n c : Nat) (l : List Int) (hn : n = l.length) (hl : l.length ≤ 1000000) (g : Nat) [FnOk Tryz.prog g] (cap : List Value) (roC : List SL) (p : Int → Bool)
  (hp : ∀ x ∈ l, Tri Tryz.prog g (.int .i64 x :: cap) roC [] (fun _ : Unit => True) (fun _ => .bool (p x)) (fun _ => [])) :
  Tri Tryz.prog 214 [.slice A n c, .func (.func g) #[] cap.toArray] (arr iE 1 A l :: roC) [] (fun _ : Unit => True) (fun _ => .bool (l.any p)) (fun _ => []) := by
 have h1 := indexI_t A n c l hn hl g cap roC p hp
 refine Tri_in Tryz.func214 rfl (fun w0 S0 => ?_)
 repeat' (first | (refine KC ?_; refine HO_callq rfl rfl rfl rfl (h1) (fun _ _ => rfl) (AllSrc.of fun f hf => ⟨f, List.mem_append.2 (.inl hf), Ent.rfl_⟩) rfl rfl sqA ?_) | refine SB ?_ | fail)
 (refine SRt ?_; refine RU ?_)
 exact congrArg Value.bool (idxF_ge p l)
theorem indexS_t (A : Option Addr) (n c : Nat) (l : List SegS) (hn : n = l.length) (hl : l.length ≤ 1000000) (g : Nat) [FnOk Tryz.prog g] (cap : List Value) (roC : List SL) (p : SegS → Bool)
  (hp : ∀ x ∈ l, Tri Tryz.prog g (.agg x.e.toArray :: cap) roC [] (fun _ : Unit => True) (fun _ => .bool (p x)) (fun _ => [])) :
  Tri Tryz.prog 226 [.slice A n c, .func (.func g) #[] cap.toArray] (arr SegS.e 2 A l :: roC) [] (fun _ : Unit => True) (fun _ => .int .i64 (idxF p l)) (fun _ => []) := by
 refine Tri_in Tryz.func226 rfl (fun w0 S0 => ?_)
 repeat' (first | refine SX ?_ | refine SB ?_ | (intro hb; try replace hb := simB hb; try exact kill hb))
 refine HC_loop (α := Nat) (fun j => j ≤ l.length ∧ ∀ q, q < j → ∀ b, l[q]? = some b → p b = false) (fun j => [(8, .int .i64 j), (7, .int .i64 n), (0, .slice A n c), (1, .func (.func g) #[] cap.toArray)]) (fun _ => []) (fun j => l.length - j) rfl 0 ⟨Nat.zero_le _, fun q hq => by omega⟩ ⟨rfl, rfl, rfl, rfl, trivial⟩ rfl ?_
 intro j ⟨hj, hno⟩
 rcases Nat.lt_or_ge j l.length with hlt | hge
 ·obtain ⟨a, ha⟩ : ∃ a, l[j]? = some a := ⟨l[j], List.getElem?_eq_getElem hlt⟩
  have hpa := hp a (List.mem_of_getElem? ha)
  repeat' (first | refine SX ?_ | (refine KC ?_; refine HO_callq rfl rfl rfl rfl (hpa) (fun _ _ => rfl) (AllSrc.self) rfl rfl sqA ?_) | refine SB ?_ | (intro hb; try replace hb := simB hb; try exact kill hb) | refine HC_cond rfl rfl ?_ ?_ | fail)
  ·(refine SRt ?_; refine RU ?_)
   exact congrArg (Value.int .i64) (idxF_at ha hb hno).symm
  ·exact HX_at (j + 1) ⟨⟨hlt, fun q hq b hbq => by
    rcases Nat.lt_or_ge q j with h | h
    ·exact hno q h b hbq
    ·obtain rfl : q = j := by omega
     rw [ha] at hbq
     injection hbq with hbq
     exact hbq ▸ hb⟩, by omega⟩ ⟨rfl, rfl, rfl, rfl, trivial⟩ rfl
 ·obtain rfl : j = l.length := by omega
  repeat' (first | refine SX ?_ | refine SB ?_ | (intro hb; try replace hb := simB hb; try exact kill hb))
  (refine SRt ?_; refine RU ?_)
  exact congrArg (Value.int .i64) (idxF_no hno).symm
theorem containsS_t (A : Option Addr) (n c : Nat) (l : List SegS) (hn : n = l.length) (hl : l.length ≤ 1000000) (g : Nat) [FnOk Tryz.prog g] (cap : List Value) (roC : List SL) (p : SegS → Bool)
  (hp : ∀ x ∈ l, Tri Tryz.prog g (.agg x.e.toArray :: cap) roC [] (fun _ : Unit => True) (fun _ => .bool (p x)) (fun _ => [])) :
  Tri Tryz.prog 213 [.slice A n c, .func (.func g) #[] cap.toArray] (arr SegS.e 2 A l :: roC) [] (fun _ : Unit => True) (fun _ => .bool (l.any p)) (fun _ => []) := by
 have h1 := indexS_t A n c l hn hl g cap roC p hp
 refine Tri_in Tryz.func213 rfl (fun w0 S0 => ?_)
 repeat' (first | (refine KC ?_; refine HO_callq rfl rfl rfl rfl (h1) (fun _ _ => rfl) (AllSrc.of fun f hf => ⟨f, List.mem_append.2 (.inl hf), Ent.rfl_⟩) rfl rfl sqA ?_) | refine SB ?_ | fail)
 (refine SRt ?_; refine RU ?_)
 exact congrArg Value.bool (idxF_ge p l)
def sgOk (four : Bool) (s : SegS) : Bool := decide (1 ≤ s.ns.length ∧ s.ns.length ≤ 64) && !s.ns.any (fun n => !fitsB (szF four) n)
theorem oddSeg_t (s : SegS) (four : Bool) (hl : s.ns.length ≤ 1000000) :
  Tri Tryz.prog 210 [.agg s.e.toArray, .bool four] [arr iE 1 s.A s.ns] [] (fun _ : Unit => True) (fun _ => .bool (!sgOk four s)) (fun _ => []) := by
 refine Tri_in Tryz.func210 rfl (fun w0 S0 => ?_)
 repeat' (first | (refine KC ?_; refine HO_callq rfl rfl rfl rfl (awithin_t _ _ _) (fun _ _ => rfl) (trivial) rfl rfl sqA ?_) | (refine KC ?_; refine HO_callq rfl rfl rfl rfl (containsI_t _ _ _ s.ns rfl hl 225 _ _ _ (fun x _ => odd1_t _ four x)) (fun _ _ => rfl) (AllSrc.at_ 0 rfl (by first | exact AllSrc.at_ 1 rfl trivial | exact AllSrc.at_ 2 rfl trivial | exact AllSrc.at_ 3 rfl trivial)) rfl rfl sqA ?_) | exact HO_seg rfl rfl | refine S1 ?_ | (refine S2 ?_; intro _) | (refine HO_g 2 rfl ?_; apply HO_o1 rfl) | refine S5 ?_ | (intro hb; try replace hb := simB hb; try exact kill hb))
 (refine SRt ?_; refine RU ?_)
 refine congrArg Value.bool ?_
 rw [sgOk]
 by_cases h1 : 1 ≤ s.ns.length <;> by_cases h2 : s.ns.length ≤ 64 <;> simp [h1, h2] <;> omega
def attOk (four : Bool) (a : AttS) : Bool := decide (0 ≤ a.org ∧ a.org ≤ 2 ∧ a.nxt ≠ 0 ∧ -1 ≤ a.med ∧ a.med ≤ 4294967295 ∧ -1 ≤ a.pref ∧ a.pref ≤ 4294967295 ∧ a.path.length ≤ 8 ∧ a.comms.length ≤ 32) &&
 !a.path.any (fun s => !sgOk four s) && !a.comms.any (fun n => !fitsB 4 n)
theorem check1_t (s : SegS) (four : Bool) (b : Nat) (L : List SL) (hs : arr iE 1 s.A s.ns ∈ L) (hl : s.ns.length ≤ 1000000) :
  Tri Tryz.prog 209 [.agg s.e.toArray, pt b] [inn L, cel b 4 [.bool four]] [] (fun _ : Unit => True) (fun _ => .bool (!sgOk four s)) (fun _ => []) := by
 refine Tri_in Tryz.func209 rfl (fun w0 S0 => ?_)
 dsimp only [pt]
 repeat' (first | (refine KC ?_; refine HO_callq rfl rfl rfl rfl (oddSeg_t s four hl) (fun _ _ => rfl) (AllSrc.via 0 rfl (inn_arr hs) trivial) rfl rfl sqA ?_) | refine SB ?_ | (refine S2 ?_; intro _) | fail)
 (refine SRt ?_; refine RU ?_)
 rfl
theorem acheck_t (a : AttS) (four : Bool) (h1 : a.path.length ≤ 1000000) (h2 : a.comms.length ≤ 1000000) (h3 : ∀ s ∈ a.path, s.ns.length ≤ 1000000) :
  Tri Tryz.prog 190 [.agg a.e.toArray, .bool four] a.ro [] (fun _ : Unit => True) (fun _ => .int .i64 (if attOk four a = true then 0 else 50)) (fun _ => []) := by
 refine Tri_in Tryz.func190 rfl (fun w0 S0 => ?_)
 dsimp only [AttS.ro]
 repeat' (first | (refine KC ?_; refine HO_callq rfl rfl rfl rfl (awithin_t _ _ _) (fun _ _ => rfl) (trivial) rfl rfl sqA ?_) | (refine KC ?_; refine HO_callq rfl rfl rfl rfl (containsI_t _ _ _ a.comms rfl h2 211 [] [] _ (fun x _ => check2_t x)) (fun _ _ => rfl) (AllSrc.at_ 2 rfl trivial) rfl rfl sqA ?_) | (refine KC ?_; refine HO_callq rfl rfl rfl rfl (containsS_t _ _ _ a.path rfl h1 209 _ _ _ (fun x hx => check1_t x four _ _ (seg_mem hx) (h3 x hx))) (fun _ _ => rfl) (AllSrc.at_ 1 rfl (AllSrc.at_ 0 rfl (by first | exact AllSrc.at_ 3 rfl trivial | exact AllSrc.at_ 4 rfl trivial | exact AllSrc.at_ 5 rfl trivial))) rfl rfl sqA ?_) | exact HO_seg rfl rfl | refine S1 ?_ | (refine S2 ?_; intro _) | (refine HO_g 2 rfl ?_; apply HO_o1 rfl) | refine S5 ?_ | (intro hb; try replace hb := simB hb; try exact kill hb) | refine HC_cond rfl rfl ?_ ?_ | fail)
 all_goals (refine SRt ?_; refine RU ?_)
 all_goals refine congrArg (Value.int .i64) (Eq.symm ?_)
 ·rw [if_neg (by rw [attOk, decide_eq_false (by omega)]; simp)]
 ·rw [if_neg (by
   rw [attOk]
   rcases hb with hb | hb
   ·rw [decide_eq_false (by omega)]; simp
   ·rw [hb]; simp)]
 ·rw [if_neg (by
   rw [attOk]
   rcases hb with hb | hb
   ·rw [decide_eq_false (by omega)]; simp
   ·rw [hb]; simp)]
 ·rename_i hb1 hb2
  rw [if_pos (by rw [attOk, hb2.2, hb.2, decide_eq_true (by omega)]; rfl)]
end Go.Proofs.YteeogabkkblkgaaGreatDoor
