/- Part of a proof of many texts: what the theorem at its end leans on. -/
import Derived.Test.YteeogabkkblkgaaGreatDoorVTypes
import Derived.Test.YteeogabkkblkgaaGreatDoorVKb
namespace Go.Proofs.YteeogabkkblkgaaGreatDoor
set_option maxHeartbeats 1000000000
set_option linter.unusedVariables false
set_option linter.unusedSimpArgs false
open Go.RowKit
def bE (b : UInt8) : List Value := [.int .u8 b.toNat]
def iE (n : Int) : List Value := [.int .i64 n]
instance : EncOk bE 1 := ⟨fun _ => ⟨rfl, rfl⟩⟩
instance : EncOk iE 1 := ⟨fun _ => ⟨rfl, rfl⟩⟩
@[reducible] def OA := Option Addr × Nat
@[reducible] def ownB (x : OA) (l : List UInt8) : SL := own idE 5 1 x.1 l.length x.2 (l.map bE)
theorem u8_wrap (n : Int) (h : 0 ≤ n) : IntKind.u8.wrap n = ((UInt8.ofNat n.toNat).toNat : Int) := by
 simp [IntKind.wrap, IntKind.bits, IntKind.signed]; omega
theorem shr_nat (k q : Nat) (hq : q ≤ 64) : bShr .i64 (k : Int) q = ((k / 2 ^ q : Nat) : Int) := by
 unfold bShr
 have : min q IntKind.i64.bits = q := by simp [IntKind.bits]; omega
 rw [this, Int.fdiv_eq_ediv_of_nonneg _ (Int.pow_nonneg (by decide))]
 simp
attribute [local irreducible] HC HX HO Tri eP adr
theorem put_row (w k j : Nat) (hj : j ≤ w) : w = (((be w k).take j ++ List.replicate (w - j) 0).map bE).length := by
 simp [be_length]; omega
theorem put_at (w k j : Nat) (hj : j < w) : (((be w k).take j ++ List.replicate (w - j) (0 : UInt8)).map bE)[j]? = some (bE 0) := by
 have hl : ((be w k).take j).length = j := by simp [be_length]; omega
 rw [List.getElem?_map, List.getElem?_append_right (by omega), hl, Nat.sub_self, List.getElem?_replicate, if_pos (by omega)]
 rfl
theorem put_step (w k j : Nat) (hj : j < w) (h4 : w ≤ 4) (v : List Value) (hv : v = bE (UInt8.ofNat (k / 256 ^ (w - 1 - j)))) :
  (((be w k).take j ++ List.replicate (w - j) (0 : UInt8)).map bE).set j v = ((be w k).take (j + 1) ++ List.replicate (w - (j + 1)) 0).map bE := by
 have hl : ((be w k).take j).length = j := by simp [be_length]; omega
 have h1 : (be w k).take (j + 1) = (be w k).take j ++ [UInt8.ofNat (k / 256 ^ (w - 1 - j))] := by
  rw [List.take_add_one, be_get w k j hj]; rfl
 have h2 : List.replicate (w - j) (0 : UInt8) = 0 :: List.replicate (w - (j + 1)) 0 := by
  rw [show w - j = (w - (j + 1)) + 1 by omega, List.replicate_succ]
 rw [h1, h2, List.map_append, List.map_append, List.map_append, List.set_append_right _ _ (by rw [List.length_map, hl]; exact Nat.le_refl _), List.length_map, hl, Nat.sub_self, hv]
 simp
theorem shr_byte (w k j : Nat) (hj : j < w) (h4 : w ≤ 4) : [Value.int .u8 (IntKind.u8.wrap (bShr .i64 (k : Int) (8 * ((w : Int) - 1 - j)).toNat))] = bE (UInt8.ofNat (k / 256 ^ (w - 1 - j))) := by
 rw [shr_nat _ _ (by omega), u8_wrap _ (Int.natCast_nonneg _), Int.toNat_natCast]
 have : (8 * ((w : Int) - 1 - j)).toNat = 8 * (w - 1 - j) := by omega
 rw [this, Nat.pow_mul]
 rfl
theorem nput_ok (w k : Nat) (h1 : 1 ≤ w) (h4 : w ≤ 4) (hk : k < 256 ^ w) :
  Tri Tryz.prog 106 [.int .i64 k, .int .i64 w] [] [] (fun _ : OA => True) (fun x => .tuple #[.slice x.1 w x.2, .int .i64 0]) (fun x => [own idE 5 1 x.1 w x.2 ((be w k).map bE)]) := by
 have hsh : bShr .i64 (k : Int) (8 * w) = 0 := by
  rw [shr_nat _ _ (by omega)]
  have : (256 : Nat) ^ w = 2 ^ (8 * w) := by rw [show (256 : Nat) = 2 ^ 8 from rfl, ← Nat.pow_mul]
  rw [this] at hk
  simp [Nat.div_eq_of_lt hk]
 refine Tri_in Tryz.func106 rfl (fun w0 S0 => ?_)
 repeat' (first | refine SX ?_ | refine SB ?_ | (refine S2 ?_; intro _) | fail)
 rename_i b
 refine HC_loop (α := Nat) (fun j => j ≤ w) (fun j => [(27, .int .i64 j), (26, .int .i64 w), (6, .slice (some ⟨b, 0, none⟩) w w), (5, .int .i64 0), (0, .int .i64 k), (1, .int .i64 w)])
  (fun j => [own idE 5 1 (some ⟨b, 0, none⟩) w w (((be w k).take j ++ List.replicate (w - j) 0).map bE)]) (fun j => w - j) rfl 0 (Nat.zero_le _) ⟨rfl, rfl, rfl, rfl, rfl, rfl, trivial⟩ (by simp [bE]) ?_
 intro j hj
 rcases Nat.lt_or_ge j w with hlt | hge
 ·have hrow := put_row w k j hj
  have hat := put_at w k j hlt
  repeat' (first | refine SX ?_ | refine SB ?_ | (refine S2 ?_; intro _) | fail)
  refine HX_keeps (rw' := [own idE 5 1 (some ⟨b, 0, none⟩) w w (((be w k).take (j + 1) ++ List.replicate (w - (j + 1)) 0).map bE)]) (Keeps.own_cons Keeps.nil rfl (by exact put_step w k j hlt h4 _ (shr_byte w k j hlt h4))) ?_
  exact HX_at (j + 1) ⟨hlt, by omega⟩ ⟨rfl, rfl, rfl, rfl, rfl, rfl, trivial⟩ rfl
 ·obtain rfl : j = w := by omega
  repeat' (first | refine SX ?_ | refine SB ?_ | (refine S2 ?_; intro _) | fail)
  (refine SRt ?_; unfold RetQ; apply Exists.intro (Prod.mk _ _); refine ⟨trivial, ?_, ?_⟩; rotate_left 1; (repeat (first | exact Keeps.nil | refine Keeps.own_cons ?_ ?_ ?_ | refine Keeps.arr_cons ?_ ?_ | refine Keeps.cons Ent.rfl_ ?_ | refine Keeps.skip ?_ | refine Keeps.own_none ?_ ?_ ?_ | refine Keeps.arr_none ?_ ?_)))
  all_goals first | rfl | simp [be_length, List.take_of_length_le]
def ngetR (l : List UInt8) : Int × Int := if l.length < 1 ∨ 4 < l.length then (0, 10) else (ge l, 0)
theorem or_byte (l : List UInt8) (b : UInt8) (hl : l.length < 4) : bOr .u32 (bShl .u32 (ge l : Int) 8) (IntKind.u32.wrap (b.toNat : Int)) = ((ge (l ++ [b]) : Nat) : Int) := by
 have h1 := ge_lt l
 have h2 : ge l < 256 ^ 3 := Nat.lt_of_lt_of_le h1 (Nat.pow_le_pow_right (by decide) (by omega))
 have hb := b.toNat_lt
 have e1 : bShl .u32 (ge l : Int) 8 = ((ge l * 256 : Nat) : Int) := by
  unfold bShl
  simp [IntKind.bits, IntKind.wrap, IntKind.signed]
  omega
 have e2 : IntKind.u32.wrap (b.toNat : Int) = (b.toNat : Int) := by simp [IntKind.bits, IntKind.wrap, IntKind.signed]; omega
 have e3 : bOr .u32 ((ge l * 256 : Nat) : Int) (b.toNat : Int) = ((ge l * 256 ||| b.toNat : Nat) : Int) := by
  have hx : ge l * 256 ||| b.toNat < 2 ^ 32 := Nat.or_lt_two_pow (by omega) (by omega)
  unfold bOr
  rw [BitVec.ofInt_natCast, BitVec.ofInt_natCast, BitVec.toNat_or, BitVec.toNat_ofNat, BitVec.toNat_ofNat]
  rw [Nat.mod_eq_of_lt (show ge l * 256 < 2 ^ IntKind.u32.bits by simp [IntKind.bits]; omega), Nat.mod_eq_of_lt (show b.toNat < 2 ^ IntKind.u32.bits by simp [IntKind.bits]; omega)]
  simp [IntKind.bits, IntKind.wrap, IntKind.signed]
  omega
 rw [e1, e2, e3, ge_snoc]
 congr 1
 have := Nat.shiftLeft_add_eq_or_of_lt (show b.toNat < 2 ^ 8 from hb) (ge l)
 rw [Nat.shiftLeft_eq] at this
 exact this.symm
theorem nget_t (A : Option Addr) (n c : Nat) (l : List UInt8) (hn : n = l.length) :
  Tri Tryz.prog 135 [.slice A n c] [arr bE 1 A l] [] (fun _ : Unit => True) (fun _ => .tuple #[.int .i64 (ngetR l).1, .int .i64 (ngetR l).2]) (fun _ => []) := by
 by_cases hl : l.length < 1 ∨ 4 < l.length
 ·rw [show ngetR l = (0, 10) from if_pos hl]
  refine Tri_in Tryz.func135 rfl (fun w0 S0 => ?_)
  repeat' (first | refine SX ?_ | exact HO_seg rfl rfl | refine S1 ?_ | (refine HO_g 2 rfl ?_; apply HO_o1 rfl) | refine S5 ?_ | (intro hb; try replace hb := simB hb; try exact kill hb) | refine HC_cond rfl rfl ?_ ?_ | fail)
  all_goals (refine SRt ?_; refine RU ?_)
  all_goals rfl
 ·rw [show ngetR l = ((ge l : Int), 0) from if_neg hl]
  refine Tri_in Tryz.func135 rfl (fun w0 S0 => ?_)
  repeat' (first | refine SX ?_ | exact HO_seg rfl rfl | refine S1 ?_ | (refine HO_g 2 rfl ?_; apply HO_o1 rfl) | refine S5 ?_ | (intro hb; try replace hb := simB hb; try exact kill hb))
  refine HC_loop (α := Nat) (fun j => j ≤ l.length) (fun j => [(17, .int .i64 j), (16, .int .i64 n), (15, .slice A n c), (4, .int .u32 (ge (l.take j))), (3, .int .i64 0)]) (fun _ => []) (fun j => l.length - j) rfl 0 (Nat.zero_le _) ⟨rfl, rfl, rfl, rfl, rfl, trivial⟩ rfl ?_
  intro j hj
  rcases Nat.lt_or_ge j l.length with hlt | hge
  ·obtain ⟨b, hb0⟩ : ∃ b, l[j]? = some b := ⟨l[j], List.getElem?_eq_getElem hlt⟩
   repeat' (first | refine SX ?_ | exact HO_seg rfl rfl | refine S1 ?_ | (refine HO_g 2 rfl ?_; apply HO_o1 rfl) | refine S5 ?_ | (intro hb; try replace hb := simB hb; try exact kill hb))
   have e1 : l.take (j + 1) = l.take j ++ [b] := by rw [List.take_add_one, hb0]; rfl
   have e2 := or_byte (l.take j) b (by simp; omega)
   rw [← e1] at e2
   rw [e2]
   exact HX_at (j + 1) ⟨hlt, by omega⟩ ⟨rfl, rfl, rfl, rfl, rfl, trivial⟩ rfl
  ·obtain rfl : j = l.length := by omega
   rw [List.take_length]
   have hg := ge_lt l
   have hg4 : ge l < 256 ^ 4 := Nat.lt_of_lt_of_le hg (Nat.pow_le_pow_right (by decide) (by omega))
   clear hg
   repeat' (first | refine SX ?_ | exact HO_seg rfl rfl | refine S1 ?_ | (refine HO_g 2 rfl ?_; apply HO_o1 rfl) | refine S5 ?_ | (intro hb; try replace hb := simB hb; try exact kill hb))
   (refine SRt ?_; refine RU ?_)
   rfl
theorem nclone_t (A : Option Addr) (n c : Nat) (l : List UInt8) (hn : n = l.length) (hb : l.length ≤ 1000000000) :
  Tri Tryz.prog 97 [.slice A n c] [arr bE 1 A l] [] (fun x : OA => l.length ≤ x.2) (fun x => .slice x.1 l.length x.2) (fun x => [ownB x l]) := by
 refine Tri_know (C := A = none → l = []) (fun w h => arr_some 0 rfl h) (fun hA => ?_)
 cases A with
 | none =>
  obtain rfl := hA rfl
  refine Tri_in Tryz.func97 rfl (fun w0 S0 => ?_)
  repeat' (first | refine SB ?_ | (refine T2 ?_; intros) | fail)
  (refine SRt ?_; unfold RetQ; apply Exists.intro (Prod.mk none 0); refine ⟨Nat.le_refl _, ?_, ?_⟩; rotate_left 1; (repeat (first | exact Keeps.nil | refine Keeps.own_cons ?_ ?_ ?_ | refine Keeps.arr_cons ?_ ?_ | refine Keeps.cons Ent.rfl_ ?_ | refine Keeps.skip ?_ | refine Keeps.own_none ?_ ?_ ?_ | refine Keeps.arr_none ?_ ?_)))
  all_goals rfl
 | some ad =>
  clear hA
  refine Tri_in Tryz.func97 rfl (fun w0 S0 => ?_)
  repeat' (first | refine SB ?_ | (refine T2 ?_; intros) | fail)
  rename_i A' c'
  refine HX_know (C := 0 + n ≤ c') (fun w h => own_cap 1 rfl h) (fun hc => ?_)
  (refine SRt ?_; unfold RetQ; apply Exists.intro (Prod.mk A' c'); refine ⟨(show l.length ≤ c' by omega), ?_, ?_⟩; rotate_left 1; (repeat (first | exact Keeps.nil | refine Keeps.own_cons ?_ ?_ ?_ | refine Keeps.arr_cons ?_ ?_ | refine Keeps.cons Ent.rfl_ ?_ | refine Keeps.skip ?_ | refine Keeps.own_none ?_ ?_ ?_ | refine Keeps.arr_none ?_ ?_)))
  all_goals first | rfl | simp [tupV, hn]
@[reducible] def TR : Nat := 250
@[reducible] def rdP (b : Nat) (A : Option Addr) (c : Nat) (bad : Bool) (l : List UInt8) : List SL := [cel b TR [.slice A l.length c, .bool bad], arr bE 1 A l]
@[reducible] def pt (b : Nat) : Value := .pointer (some ⟨b, 0, none⟩)
theorem own_byte {x : OA} {l : List UInt8} : Ent (ownB x l) (arr bE 1 x.1 l) := fun S w h => arr_typed l S w (own_wf (WfL.map (enc := bE)) S w h)
theorem nfrom_t (A : Option Addr) (n c : Nat) (l : List UInt8) (hn : n = l.length) (hb : l.length ≤ 1000000000) :
  Tri Tryz.prog 139 [.slice A n c] [arr bE 1 A l] [] (fun x : Nat × OA => l.length ≤ x.2.2) (fun x => pt x.1) (fun x => rdP x.1 x.2.1 x.2.2 false l) := by
 refine Tri_in Tryz.func139 rfl (fun w0 S0 => ?_)
 repeat' (first | (refine KC ?_; refine HO_call rfl rfl rfl rfl (nclone_t A n c l hn hb) rfl (AllSrc.at_ 0 rfl trivial) rfl rfl soA ?_; intro ⟨xA, xc⟩ hx; dsimp only [lca, lna]) | refine SB ?_ | (refine S2 ?_; intro _) | fail)
 rename_i b
 (refine SRt ?_; unfold RetQ; refine ⟨(b, (xA, xc)), hx, rfl, Keeps.cons Ent.rfl_ (Keeps.cons (own_byte) Keeps.nil)⟩)
def rdB (bad : Bool) (l : List UInt8) (n : Int) : List UInt8 × Bool × List UInt8 := if bad = true ∨ n < 0 ∨ l.length < n then ([], true, l) else (l.take n.toNat, bad, l.drop n.toNat)
theorem nbytes_t (b : Nat) (A : Option Addr) (c : Nat) (bad : Bool) (l : List UInt8) (n : Int) (hb : l.length ≤ 1000000000) (hc : l.length ≤ c) :
  Tri Tryz.prog 176 [pt b, .int .i64 n] [] (rdP b A c bad l) (fun x : OA × OA => (rdB bad l n).1.length ≤ x.1.2 ∧ (rdB bad l n).2.2.length ≤ x.2.2) (fun x => .slice x.1.1 (rdB bad l n).1.length x.1.2)
   (fun x => ownB x.1 (rdB bad l n).1 :: rdP b x.2.1 x.2.2 (rdB bad l n).2.1 (rdB bad l n).2.2) := by
 by_cases h : bad = true ∨ n < 0 ∨ l.length < n
 ·rw [show rdB bad l n = ([], true, l) from if_pos h]
  rcases h with rfl | h | h
  all_goals
   refine Tri_in Tryz.func176 rfl (fun w0 S0 => ?_)
   dsimp only [rdP, pt]
   repeat' (first | refine SD ?_ | exact HO_seg rfl rfl | refine S1 ?_ | (refine HO_g 2 rfl ?_; apply HO_o1 rfl) | refine S5 ?_ | (intro hb; try replace hb := simB hb; try exact kill hb) | refine HC_cond rfl rfl ?_ ?_ | fail)
  all_goals try exact false
  all_goals (refine SRt ?_; unfold RetQ; refine ⟨((none, 0), (A, c)), ⟨Nat.le_refl _, hc⟩, rfl, Keeps.add (fun w => own_nil w) Keeps.refl⟩)
 ·rw [show rdB bad l n = (l.take n.toNat, bad, l.drop n.toNat) from if_neg h]
  have hbad : bad = false := by cases bad <;> simp_all
  subst hbad
  have hn : 0 ≤ n ∧ n ≤ l.length := by simp at h; omega
  have hcl := nclone_t A n.toNat c (l.take n.toNat) (by simp; omega) (by simp; omega)
  refine Tri_in Tryz.func176 rfl (fun w0 S0 => ?_)
  dsimp only [rdP, pt]
  repeat' (first | refine SD ?_ | (refine KC ?_; refine HO_call rfl rfl rfl rfl (hcl) rfl (by first | exact AllSrc.via 0 rfl (arr_take _) trivial | exact AllSrc.via 1 rfl (arr_take _) trivial) rfl rfl soA ?_; intro ⟨xA, xc⟩ hx; dsimp only [lca, lna]) | exact HO_seg rfl rfl | refine S1 ?_ | (refine HO_g 2 rfl ?_; apply HO_o1 rfl) | refine S5 ?_ | (intro hb; try replace hb := simB hb; try exact kill hb))
  have e : (l.drop n.toNat).length = l.length - n.toNat := by simp
  (refine SRt ?_; unfold RetQ; refine ⟨((xA, xc), (cutA A 1 c n.toNat, c - n.toNat)), ⟨hx, by rw [e]; simp only; omega⟩, rfl, Keeps.cons Ent.rfl_ (Keeps.cons (by rw [e]; exact Ent.rfl_) (Keeps.cons (arr_drop _ _ (fun h => by omega)) Keeps.nil))⟩)
theorem nnum_t (b : Nat) (A : Option Addr) (c : Nat) (bad : Bool) (l : List UInt8) (w : Int) (hw : 1 ≤ w ∧ w ≤ 4) (hb : l.length ≤ 1000000000) (hc : l.length ≤ c) :
  Tri Tryz.prog 140 [pt b, .int .i64 w] [] (rdP b A c bad l) (fun x : OA => (rdB bad l w).2.2.length ≤ x.2) (fun _ => .int .i64 (ngetR (rdB bad l w).1).1)
   (fun x => rdP b x.1 x.2 (rdB bad l w).2.1 (rdB bad l w).2.2) := by
 have hby := nbytes_t b A c bad l w hb hc
 obtain ⟨out, bad', l', hr⟩ : ∃ out bad' l', rdB bad l w = (out, bad', l') := ⟨_, _, _, rfl⟩
 rw [hr] at hby ⊢
 refine Tri_in Tryz.func140 rfl (fun w0 S0 => ?_)
 dsimp only [rdP, pt]
 repeat' (first | refine SD ?_ | (refine KC ?_; refine HO_callq rfl rfl rfl rfl (nget_t _ _ _ out rfl) (fun _ _ => rfl) (AllSrc.via 0 rfl own_byte trivial) rfl rfl sqA ?_) | (refine KC ?_; refine HO_call rfl rfl rfl rfl (hby) rfl (trivial) rfl rfl soA ?_; intro ⟨⟨xA, xc⟩, ⟨yA, yc⟩⟩ hx; dsimp only [lca, lna]) | refine SB ?_ | fail)
 (refine SRt ?_; unfold RetQ; refine ⟨(yA, yc), hx.2, rfl, Keeps.skip Keeps.refl⟩)
theorem nbad_t (b : Nat) (A : Option Addr) (n c : Nat) (bad : Bool) :
  Tri Tryz.prog 178 [pt b] [cel b TR [.slice A n c, .bool bad]] [] (fun _ : Unit => True) (fun _ => .bool bad) (fun _ => []) := by
 refine Tri_in Tryz.func178 rfl (fun w0 S0 => ?_)
 dsimp only [pt]
 repeat' (first | refine SB ?_ | fail)
 (refine SRt ?_; refine RU ?_)
 rfl
theorem nleft_t (b : Nat) (A : Option Addr) (n c : Nat) (bad : Bool) :
  Tri Tryz.prog 177 [pt b] [cel b TR [.slice A n c, .bool bad]] [] (fun _ : Unit => True) (fun _ => .int .i64 (if bad = true then 0 else n)) (fun _ => []) := by
 cases bad
 all_goals
  refine Tri_in Tryz.func177 rfl (fun w0 S0 => ?_)
  dsimp only [pt]
  repeat' (first | (refine KC ?_; refine HO_callq rfl rfl rfl rfl (nbad_t _ _ _ _ _) (fun _ _ => rfl) (AllSrc.at_ 0 rfl trivial) rfl rfl sqA ?_) | refine SB ?_ | fail)
  (refine SRt ?_; refine RU ?_)
  rfl
end Go.Proofs.YteeogabkkblkgaaGreatDoor
