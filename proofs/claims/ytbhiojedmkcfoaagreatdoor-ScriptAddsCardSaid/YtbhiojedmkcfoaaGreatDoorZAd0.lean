/- Part of a proof of many texts: what the theorem at its end leans on. -/
import Derived.Test.YtbhiojedmkcfoaaGreatDoorZTypes
import Derived.Test.YtbhiojedmkcfoaaGreatDoorZKb
import Derived.LoopIn
import Derived.LoopNIn
import Derived.TacticsInMore
import Derived.RegionIn
import Derived.Shelf.Abstract
namespace Go.Proofs.YtbhiojedmkcfoaaGreatDoor
set_option linter.unusedVariables false
set_option linter.unusedSimpArgs false
open Go.RowKit
attribute [local irreducible] HC HX HO Tri eP adr
def bE (b : UInt8) : List Value := [.int .u8 b.toNat]
def iE (n : Int) : List Value := [.int .i64 n]
instance : EncOk bE 1 := ⟨fun _ => ⟨rfl, rfl⟩⟩
instance : EncOk iE 1 := ⟨fun _ => ⟨rfl, rfl⟩⟩
@[reducible] def OA := Option Addr × Nat
@[reducible] def ownB (x : OA) (l : List UInt8) : SL := own idE 5 1 x.1 l.length x.2 (l.map bE)
theorem u8_wrap (n : Int) (h : 0 ≤ n) : IntKind.u8.wrap n = ((UInt8.ofNat n.toNat).toNat : Int) := by
 simp [IntKind.wrap, IntKind.bits, IntKind.signed]; omega
theorem shr_nat (k q : Nat) (hq : q ≤ 64) : bShr .i64 (k : Int) q = ((k / 2 ^ q : Nat) : Int) := by
 unfold bShr
 have : min q IntKind.i64.bits = q := by simp [IntKind.bits]; omega
 rw [this, Int.fdiv_eq_ediv_of_nonneg _ (Int.pow_nonneg (by decide))]
 simp
theorem put_row (w k j : Nat) (hj : j ≤ w) : w = (((be w k).take j ++ List.replicate (w - j) 0).map bE).length := by
 simp [be_length]; omega
theorem put_at (w k j : Nat) (hj : j < w) : (((be w k).take j ++ List.replicate (w - j) (0 : UInt8)).map bE)[j]? = some (bE 0) := by
 have hl : ((be w k).take j).length = j := by simp [be_length]; omega
 rw [List.getElem?_map, List.getElem?_append_right (by omega), hl, Nat.sub_self, List.getElem?_replicate, if_pos (by omega)]
 rfl
theorem put_step (w k j : Nat) (hj : j < w) (h4 : w ≤ 4) (v : List Value) (hv : v = bE (UInt8.ofNat (k / 256 ^ (w - 1 - j)))) :
  (((be w k).take j ++ List.replicate (w - j) (0 : UInt8)).map bE).set j v = ((be w k).take (j + 1) ++ List.replicate (w - (j + 1)) 0).map bE := by
 have hl : ((be w k).take j).length = j := by simp [be_length]; omega
 have h1 : (be w k).take (j + 1) = (be w k).take j ++ [UInt8.ofNat (k / 256 ^ (w - 1 - j))] := by
  rw [List.take_add_one, be_get w k j hj]; rfl
 have h2 : List.replicate (w - j) (0 : UInt8) = 0 :: List.replicate (w - (j + 1)) 0 := by
  rw [show w - j = (w - (j + 1)) + 1 by omega, List.replicate_succ]
 rw [h1, h2, List.map_append, List.map_append, List.map_append, List.set_append_right _ _ (by rw [List.length_map, hl]; exact Nat.le_refl _), List.length_map, hl, Nat.sub_self, hv]
 simp
theorem shr_byte (w k j : Nat) (hj : j < w) (h4 : w ≤ 4) : [Value.int .u8 (IntKind.u8.wrap (bShr .i64 (k : Int) (8 * ((w : Int) - 1 - j)).toNat))] = bE (UInt8.ofNat (k / 256 ^ (w - 1 - j))) := by
 rw [shr_nat _ _ (by omega), u8_wrap _ (Int.natCast_nonneg _), Int.toNat_natCast]
 have : (8 * ((w : Int) - 1 - j)).toNat = 8 * (w - 1 - j) := by omega
 rw [this, Nat.pow_mul]
 rfl
theorem nput_ok (w k : Nat) (h1 : 1 ≤ w) (h4 : w ≤ 4) (hk : k < 256 ^ w) :
  Tri Tryz.prog 165 [.int .i64 k, .int .i64 w] [] [] (fun _ : OA => True) (fun x => .tuple #[.slice x.1 w x.2, .int .i64 0]) (fun x => [own idE 5 1 x.1 w x.2 ((be w k).map bE)]) := by
 have hsh : bShr .i64 (k : Int) (8 * w) = 0 := by
  rw [shr_nat _ _ (by omega)]
  have : (256 : Nat) ^ w = 2 ^ (8 * w) := by rw [show (256 : Nat) = 2 ^ 8 from rfl, ← Nat.pow_mul]
  rw [this] at hk
  simp [Nat.div_eq_of_lt hk]
 refine Tri_of (N := Tryz.f165.ntmps) (c := bodyOf Tryz.f165) Tryz.func165 rfl rfl rfl rfl (fun w0 S0 => ?_)
 repeat' (first | refine SW ?_ | refine SD ?_ | exact HO_seg rfl rfl | refine S1 ?_ | (refine S2 ?_; intro _) | (refine S3 ?_; intro _ _) | (refine S4 ?_; intro _ _ _) | (refine HO_g 2 rfl ?_; first | apply HO_a1 rfl | apply HO_o1 rfl) | refine S5 ?_ | (intro hb; try replace hb := simB hb; try exact kill hb))
 rename_i b
 refine HC_loop (α := Nat) (fun j => j ≤ w) (fun j => [(27, .int .i64 j), (26, .int .i64 w), (6, .slice (some ⟨b, 0, none⟩) w w), (5, .int .i64 0), (0, .int .i64 k), (1, .int .i64 w)])
  (fun j => [own idE 5 1 (some ⟨b, 0, none⟩) w w (((be w k).take j ++ List.replicate (w - j) 0).map bE)]) (fun j => w - j) rfl 0 (Nat.zero_le _) ⟨rfl, rfl, rfl, rfl, rfl, rfl, trivial⟩ (by simp [bE]) ?_
 intro j hj
 rcases Nat.lt_or_ge j w with hlt | hge
 ·have hrow := put_row w k j hj
  have hat := put_at w k j hlt
  repeat' (first | refine SW ?_ | refine SD ?_ | exact HO_seg rfl rfl | refine S1 ?_ | (refine S2 ?_; intro _) | (refine S3 ?_; intro _ _) | (refine S4 ?_; intro _ _ _) | (refine HO_g 2 rfl ?_; first | apply HO_a1 rfl | apply HO_o1 rfl) | refine S5 ?_ | (intro hb; try replace hb := simB hb; try exact kill hb))
  refine HX_keeps (rw' := [own idE 5 1 (some ⟨b, 0, none⟩) w w (((be w k).take (j + 1) ++ List.replicate (w - (j + 1)) 0).map bE)]) (Keeps.own_cons Keeps.nil rfl (by exact put_step w k j hlt h4 _ (shr_byte w k j hlt h4))) ?_
  exact HX_at (j + 1) ⟨hlt, by omega⟩ ⟨rfl, rfl, rfl, rfl, rfl, rfl, trivial⟩ rfl
 ·obtain rfl : j = w := by omega
  repeat' (first | refine SW ?_ | refine SD ?_ | exact HO_seg rfl rfl | refine S1 ?_ | (refine S2 ?_; intro _) | (refine S3 ?_; intro _ _) | (refine S4 ?_; intro _ _ _) | (refine HO_g 2 rfl ?_; first | apply HO_a1 rfl | apply HO_o1 rfl) | refine S5 ?_ | (intro hb; try replace hb := simB hb; try exact kill hb))
  (refine SR ?_; unfold RetQ; apply Exists.intro (Prod.mk _ _); refine ⟨trivial, ?_, ?_⟩; rotate_left 1; (repeat (first | exact Keeps.nil | refine Keeps.own_cons ?_ ?_ ?_ | refine Keeps.arr_cons ?_ ?_ | refine Keeps.cons Ent.rfl_ ?_ | refine Keeps.skip ?_ | refine Keeps.own_none ?_ ?_ ?_ | refine Keeps.arr_none ?_ ?_)))
  all_goals first | rfl | simp [be_length, List.take_of_length_le]
def ngetR (l : List UInt8) : Int × Int := if l.length < 1 ∨ 4 < l.length then (0, 10) else (ge l, 0)
theorem or_byte (l : List UInt8) (b : UInt8) (hl : l.length < 4) : bOr .u32 (bShl .u32 (ge l : Int) 8) (IntKind.u32.wrap (b.toNat : Int)) = ((ge (l ++ [b]) : Nat) : Int) := by
 have h1 := ge_lt l
 have h2 : ge l < 256 ^ 3 := Nat.lt_of_lt_of_le h1 (Nat.pow_le_pow_right (by decide) (by omega))
 have hb := b.toNat_lt
 have e1 : bShl .u32 (ge l : Int) 8 = ((ge l * 256 : Nat) : Int) := by
  unfold bShl
  simp [IntKind.bits, IntKind.wrap, IntKind.signed]
  omega
 have e2 : IntKind.u32.wrap (b.toNat : Int) = (b.toNat : Int) := by simp [IntKind.bits, IntKind.wrap, IntKind.signed]; omega
 have e3 : bOr .u32 ((ge l * 256 : Nat) : Int) (b.toNat : Int) = ((ge l * 256 ||| b.toNat : Nat) : Int) := by
  have hx : ge l * 256 ||| b.toNat < 2 ^ 32 := Nat.or_lt_two_pow (by omega) (by omega)
  unfold bOr
  rw [BitVec.ofInt_natCast, BitVec.ofInt_natCast, BitVec.toNat_or, BitVec.toNat_ofNat, BitVec.toNat_ofNat]
  rw [Nat.mod_eq_of_lt (show ge l * 256 < 2 ^ IntKind.u32.bits by simp [IntKind.bits]; omega), Nat.mod_eq_of_lt (show b.toNat < 2 ^ IntKind.u32.bits by simp [IntKind.bits]; omega)]
  simp [IntKind.bits, IntKind.wrap, IntKind.signed]
  omega
 rw [e1, e2, e3, ge_snoc]
 congr 1
 have := Nat.shiftLeft_add_eq_or_of_lt (show b.toNat < 2 ^ 8 from hb) (ge l)
 rw [Nat.shiftLeft_eq] at this
 exact this.symm
theorem nget_t (A : Option Addr) (n c : Nat) (l : List UInt8) (hn : n = l.length) :
  Tri Tryz.prog 179 [.slice A n c] [arr bE 1 A l] [] (fun _ : Unit => True) (fun _ => .tuple #[.int .i64 (ngetR l).1, .int .i64 (ngetR l).2]) (fun _ => []) := by
 by_cases hl : l.length < 1 ∨ 4 < l.length
 ·rw [show ngetR l = (0, 10) from if_pos hl]
  refine Tri_of (N := Tryz.f179.ntmps) (c := bodyOf Tryz.f179) Tryz.func179 rfl rfl rfl rfl (fun w0 S0 => ?_)
  repeat' (first | refine SW ?_ | refine SD ?_ | exact HO_seg rfl rfl | refine S1 ?_ | (refine S2 ?_; intro _) | (refine S3 ?_; intro _ _) | (refine S4 ?_; intro _ _ _) | (refine HO_g 2 rfl ?_; first | apply HO_a1 rfl | apply HO_o1 rfl) | refine S5 ?_ | (intro hb; try replace hb := simB hb; try exact kill hb) | refine HC_cond rfl rfl ?_ ?_)
  all_goals (refine SR ?_; unfold RetQ; refine ⟨(), trivial, ?_, Keeps.nil⟩)
  all_goals rfl
 ·rw [show ngetR l = ((ge l : Int), 0) from if_neg hl]
  refine Tri_of (N := Tryz.f179.ntmps) (c := bodyOf Tryz.f179) Tryz.func179 rfl rfl rfl rfl (fun w0 S0 => ?_)
  repeat' (first | refine SW ?_ | refine SD ?_ | exact HO_seg rfl rfl | refine S1 ?_ | (refine S2 ?_; intro _) | (refine S3 ?_; intro _ _) | (refine S4 ?_; intro _ _ _) | (refine HO_g 2 rfl ?_; first | apply HO_a1 rfl | apply HO_o1 rfl) | refine S5 ?_ | (intro hb; try replace hb := simB hb; try exact kill hb))
  refine HC_loop (α := Nat) (fun j => j ≤ l.length) (fun j => [(17, .int .i64 j), (16, .int .i64 n), (15, .slice A n c), (4, .int .u32 (ge (l.take j))), (3, .int .i64 0)]) (fun _ => []) (fun j => l.length - j) rfl 0 (Nat.zero_le _) ⟨rfl, rfl, rfl, rfl, rfl, trivial⟩ rfl ?_
  intro j hj
  rcases Nat.lt_or_ge j l.length with hlt | hge
  ·obtain ⟨b, hb0⟩ : ∃ b, l[j]? = some b := ⟨l[j], List.getElem?_eq_getElem hlt⟩
   repeat' (first | refine SW ?_ | refine SD ?_ | exact HO_seg rfl rfl | refine S1 ?_ | (refine S2 ?_; intro _) | (refine S3 ?_; intro _ _) | (refine S4 ?_; intro _ _ _) | (refine HO_g 2 rfl ?_; first | apply HO_a1 rfl | apply HO_o1 rfl) | refine S5 ?_ | (intro hb; try replace hb := simB hb; try exact kill hb))
   have e1 : l.take (j + 1) = l.take j ++ [b] := by rw [List.take_add_one, hb0]; rfl
   have e2 := or_byte (l.take j) b (by simp; omega)
   rw [← e1] at e2
   rw [e2]
   exact HX_at (j + 1) ⟨hlt, by omega⟩ ⟨rfl, rfl, rfl, rfl, rfl, trivial⟩ rfl
  ·obtain rfl : j = l.length := by omega
   rw [List.take_length]
   have hg := ge_lt l
   have hg4 : ge l < 256 ^ 4 := Nat.lt_of_lt_of_le hg (Nat.pow_le_pow_right (by decide) (by omega))
   clear hg
   repeat' (first | refine SW ?_ | refine SD ?_ | exact HO_seg rfl rfl | refine S1 ?_ | (refine S2 ?_; intro _) | (refine S3 ?_; intro _ _) | (refine S4 ?_; intro _ _ _) | (refine HO_g 2 rfl ?_; first | apply HO_a1 rfl | apply HO_o1 rfl) | refine S5 ?_ | (intro hb; try replace hb := simB hb; try exact kill hb))
   (refine SR ?_; unfold RetQ; refine ⟨(), trivial, ?_, Keeps.nil⟩)
   rfl
theorem nclone_t (A : Option Addr) (n c : Nat) (l : List UInt8) (hn : n = l.length) (hb : l.length ≤ 1000000000) :
  Tri Tryz.prog 178 [.slice A n c] [arr bE 1 A l] [] (fun x : OA => l.length ≤ x.2) (fun x => .slice x.1 l.length x.2) (fun x => [ownB x l]) := by
 refine Tri_know (C := A = none → l = []) (fun w h => arr_some 0 rfl h) (fun hA => ?_)
 cases A with
 | none =>
  obtain rfl := hA rfl
  refine Tri_of (N := Tryz.f178.ntmps) (c := bodyOf Tryz.f178) Tryz.func178 rfl rfl rfl rfl (fun w0 S0 => ?_)
  repeat' (first | refine SW ?_ | refine SD ?_ | exact HO_seg rfl rfl | refine S1 ?_ | (refine S2 ?_; intro _) | (refine S3 ?_; intro _ _) | (refine S4 ?_; intro _ _ _) | (refine HO_g 2 rfl ?_; first | apply HO_a1 rfl | apply HO_o1 rfl) | refine S5 ?_ | (intro hb; try replace hb := simB hb; try exact kill hb))
  (refine SR ?_; unfold RetQ; apply Exists.intro (Prod.mk none 0); refine ⟨Nat.le_refl _, ?_, ?_⟩; rotate_left 1; (repeat (first | exact Keeps.nil | refine Keeps.own_cons ?_ ?_ ?_ | refine Keeps.arr_cons ?_ ?_ | refine Keeps.cons Ent.rfl_ ?_ | refine Keeps.skip ?_ | refine Keeps.own_none ?_ ?_ ?_ | refine Keeps.arr_none ?_ ?_)))
  all_goals rfl
 | some ad =>
  clear hA
  refine Tri_of (N := Tryz.f178.ntmps) (c := bodyOf Tryz.f178) Tryz.func178 rfl rfl rfl rfl (fun w0 S0 => ?_)
  repeat' (first | refine SW ?_ | refine SD ?_ | exact HO_seg rfl rfl | refine S1 ?_ | (refine S2 ?_; intro _) | (refine S3 ?_; intro _ _) | (refine S4 ?_; intro _ _ _) | (refine HO_g 2 rfl ?_; first | apply HO_a1 rfl | apply HO_o1 rfl) | refine S5 ?_ | (intro hb; try replace hb := simB hb; try exact kill hb))
  rename_i A' c'
  refine HX_know (C := 0 + n ≤ c') (fun w h => own_cap 1 rfl h) (fun hc => ?_)
  (refine SR ?_; unfold RetQ; apply Exists.intro (Prod.mk A' c'); refine ⟨(show l.length ≤ c' by omega), ?_, ?_⟩; rotate_left 1; (repeat (first | exact Keeps.nil | refine Keeps.own_cons ?_ ?_ ?_ | refine Keeps.arr_cons ?_ ?_ | refine Keeps.cons Ent.rfl_ ?_ | refine Keeps.skip ?_ | refine Keeps.own_none ?_ ?_ ?_ | refine Keeps.arr_none ?_ ?_)))
  all_goals first | rfl | simp [tupV, hn]
@[reducible] def TR : Nat := 253
@[reducible] def rdP (b : Nat) (A : Option Addr) (c : Nat) (bad : Bool) (l : List UInt8) : List SL := [cel b TR [.slice A l.length c, .bool bad], arr bE 1 A l]
@[reducible] def pt (b : Nat) : Value := .pointer (some ⟨b, 0, none⟩)
theorem own_byte {x : OA} {l : List UInt8} : Ent (ownB x l) (arr bE 1 x.1 l) := fun S w h => arr_typed l S w (own_wf (WfL.map (enc := bE)) S w h)
theorem nfrom_t (A : Option Addr) (n c : Nat) (l : List UInt8) (hn : n = l.length) (hb : l.length ≤ 1000000000) :
  Tri Tryz.prog 117 [.slice A n c] [arr bE 1 A l] [] (fun x : Nat × OA => l.length ≤ x.2.2) (fun x => pt x.1) (fun x => rdP x.1 x.2.1 x.2.2 false l) := by
 refine Tri_of (N := Tryz.f117.ntmps) (c := bodyOf Tryz.f117) Tryz.func117 rfl rfl rfl rfl (fun w0 S0 => ?_)
 repeat' (first | refine SW ?_ | refine SD ?_ | (refine HO_k 12 rfl ?_; refine HO_call rfl rfl rfl rfl (nclone_t A n c l hn hb) rfl (AllSrc.at_ 0 rfl trivial) rfl rfl soA ?_; intro ⟨xA, xc⟩ hx; dsimp only [lca, lna]) | exact HO_seg rfl rfl | refine S1 ?_ | (refine S2 ?_; intro _) | (refine S3 ?_; intro _ _) | (refine S4 ?_; intro _ _ _) | (refine HO_g 2 rfl ?_; first | apply HO_a1 rfl | apply HO_o1 rfl) | refine S5 ?_ | (intro hb; try replace hb := simB hb; try exact kill hb))
 rename_i b
 (refine SR ?_; unfold RetQ; refine ⟨(b, (xA, xc)), hx, rfl, Keeps.cons Ent.rfl_ (Keeps.cons (own_byte) Keeps.nil)⟩)
def rdB (bad : Bool) (l : List UInt8) (n : Int) : List UInt8 × Bool × List UInt8 := if bad = true ∨ n < 0 ∨ l.length < n then ([], true, l) else (l.take n.toNat, bad, l.drop n.toNat)
theorem nbytes_t (b : Nat) (A : Option Addr) (c : Nat) (bad : Bool) (l : List UInt8) (n : Int) (hb : l.length ≤ 1000000000) (hc : l.length ≤ c) :
  Tri Tryz.prog 118 [pt b, .int .i64 n] [] (rdP b A c bad l) (fun x : OA × OA => (rdB bad l n).1.length ≤ x.1.2 ∧ (rdB bad l n).2.2.length ≤ x.2.2) (fun x => .slice x.1.1 (rdB bad l n).1.length x.1.2)
   (fun x => ownB x.1 (rdB bad l n).1 :: rdP b x.2.1 x.2.2 (rdB bad l n).2.1 (rdB bad l n).2.2) := by
 by_cases h : bad = true ∨ n < 0 ∨ l.length < n
 ·rw [show rdB bad l n = ([], true, l) from if_pos h]
  rcases h with rfl | h | h
  all_goals
   refine Tri_of (N := Tryz.f118.ntmps) (c := bodyOf Tryz.f118) Tryz.func118 rfl rfl rfl rfl (fun w0 S0 => ?_)
   dsimp only [rdP, pt]
   repeat' (first | refine SW ?_ | refine SD ?_ | exact HO_seg rfl rfl | refine S1 ?_ | (refine S2 ?_; intro _) | (refine S3 ?_; intro _ _) | (refine S4 ?_; intro _ _ _) | (refine HO_g 2 rfl ?_; first | apply HO_a1 rfl | apply HO_o1 rfl) | refine S5 ?_ | (intro hb; try replace hb := simB hb; try exact kill hb) | refine HC_cond rfl rfl ?_ ?_)
  all_goals try exact false
  all_goals (refine SR ?_; unfold RetQ; refine ⟨((none, 0), (A, c)), ⟨Nat.le_refl _, hc⟩, rfl, Keeps.add (fun w => own_nil w) Keeps.refl⟩)
 ·rw [show rdB bad l n = (l.take n.toNat, bad, l.drop n.toNat) from if_neg h]
  have hbad : bad = false := by cases bad <;> simp_all
  subst hbad
  have hn : 0 ≤ n ∧ n ≤ l.length := by simp at h; omega
  have hcl := nclone_t A n.toNat c (l.take n.toNat) (by simp; omega) (by simp; omega)
  refine Tri_of (N := Tryz.f118.ntmps) (c := bodyOf Tryz.f118) Tryz.func118 rfl rfl rfl rfl (fun w0 S0 => ?_)
  dsimp only [rdP, pt]
  repeat' (first | refine SW ?_ | refine SD ?_ | (refine HO_k 12 rfl ?_; refine HO_call rfl rfl rfl rfl (hcl) rfl (by first | exact AllSrc.via 0 rfl (arr_take _) trivial | exact AllSrc.via 1 rfl (arr_take _) trivial) rfl rfl soA ?_; intro ⟨xA, xc⟩ hx; dsimp only [lca, lna]) | exact HO_seg rfl rfl | refine S1 ?_ | (refine S2 ?_; intro _) | (refine S3 ?_; intro _ _) | (refine S4 ?_; intro _ _ _) | (refine HO_g 2 rfl ?_; first | apply HO_a1 rfl | apply HO_o1 rfl) | refine S5 ?_ | (intro hb; try replace hb := simB hb; try exact kill hb))
  have e : (l.drop n.toNat).length = l.length - n.toNat := by simp
  (refine SR ?_; unfold RetQ; refine ⟨((xA, xc), (cutA A 1 c n.toNat, c - n.toNat)), ⟨hx, by rw [e]; simp only; omega⟩, rfl, Keeps.cons Ent.rfl_ (Keeps.cons (by rw [e]; exact Ent.rfl_) (Keeps.cons (arr_drop _ _ (fun h => by omega)) Keeps.nil))⟩)
theorem nnum_t (b : Nat) (A : Option Addr) (c : Nat) (bad : Bool) (l : List UInt8) (w : Int) (hw : 1 ≤ w ∧ w ≤ 4) (hb : l.length ≤ 1000000000) (hc : l.length ≤ c) :
  Tri Tryz.prog 119 [pt b, .int .i64 w] [] (rdP b A c bad l) (fun x : OA => (rdB bad l w).2.2.length ≤ x.2) (fun _ => .int .i64 (ngetR (rdB bad l w).1).1)
   (fun x => rdP b x.1 x.2 (rdB bad l w).2.1 (rdB bad l w).2.2) := by
 have hby := nbytes_t b A c bad l w hb hc
 obtain ⟨out, bad', l', hr⟩ : ∃ out bad' l', rdB bad l w = (out, bad', l') := ⟨_, _, _, rfl⟩
 rw [hr] at hby ⊢
 refine Tri_of (N := Tryz.f119.ntmps) (c := bodyOf Tryz.f119) Tryz.func119 rfl rfl rfl rfl (fun w0 S0 => ?_)
 dsimp only [rdP, pt]
 repeat' (first | refine SW ?_ | refine SD ?_ | (refine HO_k 12 rfl ?_; refine HO_callq rfl rfl rfl rfl (nget_t _ _ _ out rfl) (fun _ _ => rfl) (AllSrc.via 0 rfl own_byte trivial) rfl rfl sqA ?_) | (refine HO_k 12 rfl ?_; refine HO_call rfl rfl rfl rfl (hby) rfl (trivial) rfl rfl soA ?_; intro ⟨⟨xA, xc⟩, ⟨yA, yc⟩⟩ hx; dsimp only [lca, lna]) | exact HO_seg rfl rfl | refine S1 ?_ | (refine S2 ?_; intro _) | (refine S3 ?_; intro _ _) | (refine S4 ?_; intro _ _ _) | (refine HO_g 2 rfl ?_; first | apply HO_a1 rfl | apply HO_o1 rfl) | refine S5 ?_ | (intro hb; try replace hb := simB hb; try exact kill hb))
 (refine SR ?_; unfold RetQ; refine ⟨(yA, yc), hx.2, rfl, Keeps.skip Keeps.refl⟩)
theorem nbad_t (b : Nat) (A : Option Addr) (n c : Nat) (bad : Bool) :
  Tri Tryz.prog 122 [pt b] [cel b TR [.slice A n c, .bool bad]] [] (fun _ : Unit => True) (fun _ => .bool bad) (fun _ => []) := by
 refine Tri_of (N := Tryz.f122.ntmps) (c := bodyOf Tryz.f122) Tryz.func122 rfl rfl rfl rfl (fun w0 S0 => ?_)
 dsimp only [pt]
 repeat' (first | refine SW ?_ | refine SD ?_ | exact HO_seg rfl rfl | refine S1 ?_ | (refine S2 ?_; intro _) | (refine S3 ?_; intro _ _) | (refine S4 ?_; intro _ _ _) | (refine HO_g 2 rfl ?_; first | apply HO_a1 rfl | apply HO_o1 rfl) | refine S5 ?_ | (intro hb; try replace hb := simB hb; try exact kill hb))
 (refine SR ?_; unfold RetQ; refine ⟨(), trivial, ?_, Keeps.nil⟩)
 rfl
theorem rput_row (w k j : Nat) (hj : j ≤ w) : w = ((List.replicate j (0 : UInt8) ++ (be w k).drop j).map bE).length := by
 simp [be_length]; omega
theorem rput_at (w k j : Nat) (hj : 0 < j) : ((List.replicate j (0 : UInt8) ++ (be w k).drop j).map bE)[j - 1]? = some (bE 0) := by
 rw [List.getElem?_map, List.getElem?_append_left (by simp; omega), List.getElem?_replicate, if_pos (by omega)]
 rfl
theorem rput_step (w k j : Nat) (h0 : 0 < j) (hj : j ≤ w) (v : List Value) (hv : v = bE (UInt8.ofNat (k / 256 ^ (w - j)))) :
  ((List.replicate j (0 : UInt8) ++ (be w k).drop j).map bE).set (j - 1) v = (List.replicate (j - 1) (0 : UInt8) ++ (be w k).drop (j - 1)).map bE := by
 have h1 : (be w k).drop (j - 1) = UInt8.ofNat (k / 256 ^ (w - j)) :: (be w k).drop j := by
  have hb := be_get w k (j - 1) (by omega)
  rw [show w - 1 - (j - 1) = w - j by omega] at hb
  have hlt : j - 1 < (be w k).length := by rw [be_length]; omega
  rw [List.drop_eq_getElem_cons hlt, show j - 1 + 1 = j by omega]
  rw [List.getElem?_eq_getElem hlt] at hb
  injection hb with hb
  rw [hb]
 have h2 : List.replicate j (0 : UInt8) = List.replicate (j - 1) 0 ++ [0] := by
  have := List.replicate_succ' (n := j - 1) (a := (0 : UInt8))
  rw [show j - 1 + 1 = j by omega] at this
  exact this
 rw [h1, h2, hv, List.append_assoc, List.map_append, List.map_append, List.set_append_right _ _ (by simp)]
 simp
theorem rput_byte (k : Nat) : [Value.int .u8 (IntKind.u8.wrap (bRem (k : Int) 256))] = bE (UInt8.ofNat k) := by
 have h : bRem (k : Int) 256 = ((k % 256 : Nat) : Int) := by unfold bRem; rw [Int.tmod_eq_emod_of_nonneg (by omega)]; rfl
 rw [h, u8_wrap _ (by omega), Int.toNat_natCast]
 simp [bE]
theorem rput_quo (k : Nat) (h : k ≤ 9223372036854775807) : bQuo .i64 (k : Int) 256 = ((k / 256 : Nat) : Int) := by
 unfold bQuo
 rw [Int.tdiv_eq_ediv_of_nonneg (by omega), IntKind.wrap_i64]
 omega
theorem rput_t (w k : Nat) (h4 : w ≤ 4) (hk : k ≤ 9223372036854775807) :
  Tri Tryz.prog 123 [.int .i64 k, .int .i64 w] [] [] (fun _ : OA => True) (fun x => .slice x.1 w x.2) (fun x => [own idE 5 1 x.1 w x.2 ((be w k).map bE)]) := by
 refine Tri_of (N := Tryz.f123.ntmps) (c := bodyOf Tryz.f123) Tryz.func123 rfl rfl rfl rfl (fun w0 S0 => ?_)
 repeat' (first | refine SW ?_ | refine SD ?_ | exact HO_seg rfl rfl | refine S1 ?_ | (refine S2 ?_; intro _) | (refine S3 ?_; intro _ _) | (refine S4 ?_; intro _ _ _) | (refine HO_g 2 rfl ?_; first | apply HO_a1 rfl | apply HO_o1 rfl) | refine S5 ?_ | (intro hb; try replace hb := simB hb; try exact kill hb))
 rename_i b
 refine HC_loop (α := Nat) (fun j => j ≤ w) (fun j => [(6, .int .i64 ((j : Int) - 1)), (5, .slice (some ⟨b, 0, none⟩) w w), (0, .int .i64 ((k / 256 ^ (w - j) : Nat) : Int))])
  (fun j => [own idE 5 1 (some ⟨b, 0, none⟩) w w ((List.replicate j 0 ++ (be w k).drop j).map bE)]) (fun j => j) rfl w (Nat.le_refl _) ⟨rfl, rfl, by simp [Env.get], trivial⟩ (by simp only [List.drop_of_length_le (show (be w k).length ≤ w by rw [be_length]; exact Nat.le_refl _)]; simp [bE]) ?_
 intro j hj
 rcases Nat.eq_zero_or_pos j with h0 | h0
 ·subst h0
  repeat' (first | refine SW ?_ | refine SD ?_ | exact HO_seg rfl rfl | refine S1 ?_ | (refine S2 ?_; intro _) | (refine S3 ?_; intro _ _) | (refine S4 ?_; intro _ _ _) | (refine HO_g 2 rfl ?_; first | apply HO_a1 rfl | apply HO_o1 rfl) | refine S5 ?_ | (intro hb; try replace hb := simB hb; try exact kill hb))
  (refine SR ?_; unfold RetQ; refine ⟨(some ⟨b, 0, none⟩, w), trivial, rfl, Keeps.own_cons Keeps.nil rfl (by simp)⟩)
 ·have hrow := rput_row w k j hj
  have hat := rput_at w k j h0
  have hq : ((j : Int) - 1).toNat = j - 1 := by omega
  rw [← hq] at hat
  have hk' : k / 256 ^ (w - j) ≤ 9223372036854775807 := Nat.le_trans (Nat.div_le_self _ _) hk
  have e6 : ((j : Int) - 1 - 1) = ((j - 1 : Nat) : Int) - 1 := by omega
  have e0 : k / 256 ^ (w - j) / 256 = k / 256 ^ (w - (j - 1)) := by
   rw [Nat.div_div_eq_div_mul, ← Nat.pow_succ]
   congr 2
   omega
  repeat' (first | refine SW ?_ | refine SD ?_ | exact HO_seg rfl rfl | refine S1 ?_ | (refine S2 ?_; intro _) | (refine S3 ?_; intro _ _) | (refine S4 ?_; intro _ _ _) | (refine HO_g 2 rfl ?_; first | apply HO_a1 rfl | apply HO_o1 rfl) | refine S5 ?_ | (intro hb; try replace hb := simB hb; try exact kill hb))
  rw [e6, rput_quo _ hk', e0, hq]
  refine HX_keeps (rw' := [own idE 5 1 (some ⟨b, 0, none⟩) w w ((List.replicate (j - 1) 0 ++ (be w k).drop (j - 1)).map bE)]) (Keeps.own_cons Keeps.nil rfl (by exact rput_step w k j h0 hj _ (rput_byte _))) ?_
  exact HX_at (j - 1) ⟨by omega, by omega⟩ ⟨rfl, rfl, rfl, trivial⟩ rfl
theorem rget_t (A : Option Addr) (n c : Nat) (l : List UInt8) (hn : n = l.length) (h4 : l.length ≤ 4) :
  Tri Tryz.prog 183 [.slice A n c] [arr bE 1 A l] [] (fun _ : Unit => True) (fun _ => .int .i64 (ge l)) (fun _ => []) := by
 refine Tri_of (N := Tryz.f183.ntmps) (c := bodyOf Tryz.f183) Tryz.func183 rfl rfl rfl rfl (fun w0 S0 => ?_)
 repeat' (first | refine SW ?_ | refine SD ?_ | exact HO_seg rfl rfl | refine S1 ?_ | (refine S2 ?_; intro _) | (refine S3 ?_; intro _ _) | (refine S4 ?_; intro _ _ _) | (refine HO_g 2 rfl ?_; first | apply HO_a1 rfl | apply HO_o1 rfl) | refine S5 ?_ | (intro hb; try replace hb := simB hb; try exact kill hb))
 refine HC_loop (α := Nat) (fun j => j ≤ l.length) (fun j => [(4, .int .i64 j), (3, .int .i64 (ge (l.take j))), (0, .slice A n c)]) (fun _ => []) (fun j => l.length - j) rfl 0 (Nat.zero_le _) ⟨rfl, rfl, rfl, trivial⟩ rfl ?_
 intro j hj
 rcases Nat.lt_or_ge j l.length with hlt | hge
 ·obtain ⟨b, hb0⟩ : ∃ b, l[j]? = some b := ⟨l[j], List.getElem?_eq_getElem hlt⟩
  have e1 : l.take (j + 1) = l.take j ++ [b] := by rw [List.take_add_one, hb0]; rfl
  have hg := ge_lt (l.take j)
  have hg3 : ge (l.take j) < 256 ^ 3 := Nat.lt_of_lt_of_le hg (Nat.pow_le_pow_right (by decide) (by simp; omega))
  have hb := b.toNat_lt
  have e2 : (256 * (ge (l.take j) : Int) + (b.toNat : Int)) = ((ge (l.take (j + 1)) : Nat) : Int) := by rw [e1, ge_snoc]; omega
  clear hg
  repeat' (first | refine SW ?_ | refine SD ?_ | exact HO_seg rfl rfl | refine S1 ?_ | (refine S2 ?_; intro _) | (refine S3 ?_; intro _ _) | (refine S4 ?_; intro _ _ _) | (refine HO_g 2 rfl ?_; first | apply HO_a1 rfl | apply HO_o1 rfl) | refine S5 ?_ | (intro hb; try replace hb := simB hb; try exact kill hb))
  rw [e2]
  exact HX_at (j + 1) ⟨hlt, by omega⟩ ⟨rfl, rfl, rfl, trivial⟩ rfl
 ·obtain rfl : j = l.length := by omega
  repeat' (first | refine SW ?_ | refine SD ?_ | exact HO_seg rfl rfl | refine S1 ?_ | (refine S2 ?_; intro _) | (refine S3 ?_; intro _ _) | (refine S4 ?_; intro _ _ _) | (refine HO_g 2 rfl ?_; first | apply HO_a1 rfl | apply HO_o1 rfl) | refine S5 ?_ | (intro hb; try replace hb := simB hb; try exact kill hb))
  (refine SR ?_; unfold RetQ; refine ⟨(), trivial, ?_, Keeps.nil⟩)
  rw [List.take_length]
  rfl
theorem grow_t (n : Nat) (hn : n ≤ 1000000) :
  Tri Tryz.prog 270 [.slice none 0 0, .int .i64 n] [] [] (fun _ : OA => True) (fun x => .slice x.1 0 x.2) (fun x => [ownB x []]) := by
 rcases Nat.eq_zero_or_pos n with h0 | h0
 ·subst h0
  refine Tri_of (N := Tryz.f270.ntmps) (c := bodyOf Tryz.f270) Tryz.func270 rfl rfl rfl rfl (fun w0 S0 => ?_)
  repeat' (first | refine SW ?_ | refine SD ?_ | exact HO_seg rfl rfl | refine S1 ?_ | (refine S2 ?_; intro _) | (refine S3 ?_; intro _ _) | (refine S4 ?_; intro _ _ _) | (refine HO_g 2 rfl ?_; first | apply HO_a1 rfl | apply HO_o1 rfl) | refine S5 ?_ | (intro hb; try replace hb := simB hb; try exact kill hb))
  (refine SR ?_; unfold RetQ; refine ⟨(none, 0), trivial, rfl, Keeps.add (fun w => own_nil w) Keeps.nil⟩)
 ·refine Tri_of (N := Tryz.f270.ntmps) (c := bodyOf Tryz.f270) Tryz.func270 rfl rfl rfl rfl (fun w0 S0 => ?_)
  repeat' (first | refine SW ?_ | refine SD ?_ | exact HO_seg rfl rfl | refine S1 ?_ | (refine S2 ?_; intro _) | (refine S3 ?_; intro _ _) | (refine S4 ?_; intro _ _ _) | (refine HO_g 2 rfl ?_; first | apply HO_a1 rfl | apply HO_o1 rfl) | refine S5 ?_ | (intro hb; try replace hb := simB hb; try exact kill hb))
  rename_i b c hc
  (refine SR ?_; unfold RetQ; refine ⟨(some ⟨b, 0, none⟩, c), trivial, rfl, Keeps.cons (own_take 0 (Nat.zero_le _) (fun x hx => by rw [List.eq_of_mem_replicate hx]; rfl)) Keeps.nil⟩)
structure BS where
 A : Option Addr
 c : Nat
 l : List UInt8
def BS.e (b : BS) : List Value := [.slice b.A b.l.length b.c]
instance : EncOk BS.e 1 := ⟨fun _ => ⟨rfl, rfl⟩⟩
def bsPs (bs : List BS) : List SL := bs.map fun b => arr bE 1 b.A b.l
def cat (bs : List BS) : List UInt8 := bs.flatMap (·.l)
theorem cat_snoc (bs : List BS) (b : BS) : cat (bs ++ [b]) = cat bs ++ b.l := by simp [cat]
theorem bs_mem {bs : List BS} {b : BS} (h : b ∈ bs) : arr bE 1 b.A b.l ∈ bsPs bs := List.mem_map.2 ⟨b, h, rfl⟩
theorem cat_take_le (bs : List BS) (j : Nat) : (cat (bs.take j)).length ≤ (cat bs).length := by
 have : cat bs = cat (bs.take j) ++ cat (bs.drop j) := by unfold cat; rw [← List.flatMap_append, List.take_append_drop]
 rw [this, List.length_append]
 omega
set_option maxHeartbeats 4000000 in
theorem concat_i (A : Option Addr) (n c : Nat) (bs : List BS) (hn : n = bs.length) (hl : bs.length ≤ 1000000) (ht : (cat bs).length ≤ 1000000) :
  Tri Tryz.prog 243 [.slice A n c] [inn (bsPs bs), arr BS.e 1 A bs] [] (fun _ : OA => True) (fun x => .slice x.1 (cat bs).length x.2) (fun x => [ownB x (cat bs)]) := by
 refine Tri_of (N := Tryz.f243.ntmps) (c := bodyOf Tryz.f243) Tryz.func243 rfl rfl rfl rfl (fun w0 S0 => ?_)
 repeat' (first | refine SW ?_ | refine SD ?_ | exact HO_seg rfl rfl | refine S1 ?_ | (refine S2 ?_; intro _) | (refine S3 ?_; intro _ _) | (refine S4 ?_; intro _ _ _) | (refine HO_g 2 rfl ?_; first | apply HO_a1 rfl | apply HO_o1 rfl) | refine S5 ?_ | (intro hb; try replace hb := simB hb; try exact kill hb))
 refine HC_loop (α := Nat) (fun j => j ≤ bs.length) (fun j => [(11, .int .i64 j), (10, .int .i64 n), (9, .slice A n c), (0, .slice A n c), (3, .int .i64 (cat (bs.take j)).length)]) (fun _ => []) (fun j => bs.length - j) rfl 0 (Nat.zero_le _) ⟨rfl, rfl, rfl, rfl, rfl, trivial⟩ rfl ?_
 intro j hj
 have hjt := cat_take_le bs j
 rcases Nat.lt_or_ge j bs.length with hlt | hge
 ·obtain ⟨b, hb0⟩ : ∃ b, bs[j]? = some b := ⟨bs[j], List.getElem?_eq_getElem hlt⟩
  have e1 : bs.take (j + 1) = bs.take j ++ [b] := by rw [List.take_add_one, hb0]; rfl
  have hjt1 := cat_take_le bs (j + 1)
  have e2 : ((cat (bs.take j)).length : Int) + b.l.length = ((cat (bs.take (j + 1))).length : Nat) := by rw [e1, cat_snoc, List.length_append]; omega
  repeat' (first | refine SW ?_ | refine SD ?_ | exact HO_seg rfl rfl | refine S1 ?_ | (refine S2 ?_; intro _) | (refine S3 ?_; intro _ _) | (refine S4 ?_; intro _ _ _) | (refine HO_g 2 rfl ?_; first | apply HO_a1 rfl | apply HO_o1 rfl) | refine S5 ?_ | (intro hb; try replace hb := simB hb; try exact kill hb))
  rw [e2]
  exact HX_at (j + 1) ⟨hlt, by omega⟩ ⟨rfl, rfl, rfl, rfl, rfl, trivial⟩ rfl
 ·obtain rfl : j = bs.length := by omega
  rw [List.take_length]
  repeat' (first | refine SW ?_ | refine SD ?_ | (refine HO_k 12 rfl ?_; refine HO_call rfl rfl rfl rfl (grow_t _ ht) rfl (trivial) rfl rfl soA ?_; intro ⟨gA, gc⟩ hx; dsimp only [lca, lna]) | exact HO_seg rfl rfl | refine S1 ?_ | (refine S2 ?_; intro _) | (refine S3 ?_; intro _ _) | (refine S4 ?_; intro _ _ _) | (refine HO_g 2 rfl ?_; first | apply HO_a1 rfl | apply HO_o1 rfl) | refine S5 ?_ | (intro hb; try replace hb := simB hb; try exact kill hb))
  refine HC_loop (α := Nat × OA) (fun x => x.1 ≤ bs.length) (fun x => [(27, .int .i64 x.1), (26, .int .i64 n), (25, .slice A n c), (6, .slice x.2.1 (cat (bs.take x.1)).length x.2.2)]) (fun x => [ownB x.2 (cat (bs.take x.1))]) (fun x => bs.length - x.1) rfl (0, (gA, gc)) (Nat.zero_le _) ⟨rfl, rfl, rfl, rfl, trivial⟩ rfl ?_
  intro ⟨j, ⟨xA, xc⟩⟩ hj'
  dsimp only at hj' ⊢
  have hjt' := cat_take_le bs j
  rcases Nat.lt_or_ge j bs.length with hlt | hge'
  ·obtain ⟨b, hb0⟩ : ∃ b, bs[j]? = some b := ⟨bs[j], List.getElem?_eq_getElem hlt⟩
   have e1 : bs.take (j + 1) = bs.take j ++ [b] := by rw [List.take_add_one, hb0]; rfl
   have hjt1 := cat_take_le bs (j + 1)
   have e2 : (cat (bs.take j)).length + b.l.length = (cat (bs.take (j + 1))).length := by rw [e1, cat_snoc, List.length_append]
   have e3 : (cat (bs.take j)).map bE ++ b.l.map bE = (cat (bs.take (j + 1))).map bE := by rw [e1, cat_snoc, List.map_append]
   refine HC_see List.mem_cons_self (bs_mem (List.mem_of_getElem? hb0)) ?_
   repeat' (first | refine SW ?_ | refine SD ?_ | exact HO_seg rfl rfl | refine S1 ?_ | (refine S2 ?_; intro _) | (refine S3 ?_; intro _ _) | (refine S4 ?_; intro _ _ _) | (refine HO_g 2 rfl ?_; first | apply HO_a1 rfl | apply HO_o1 rfl) | refine S5 ?_ | (intro hb; try replace hb := simB hb; try exact kill hb))
   rename_i A' c'
   rw [e2, e3]
   refine HX_unsee ?_
   exact HX_at (j + 1, (A', c')) ⟨hlt, by simp only; omega⟩ ⟨rfl, rfl, rfl, rfl, trivial⟩ rfl
  ·obtain rfl : j = bs.length := by omega
   rw [List.take_length]
   repeat' (first | refine SW ?_ | refine SD ?_ | exact HO_seg rfl rfl | refine S1 ?_ | (refine S2 ?_; intro _) | (refine S3 ?_; intro _ _) | (refine S4 ?_; intro _ _ _) | (refine HO_g 2 rfl ?_; first | apply HO_a1 rfl | apply HO_o1 rfl) | refine S5 ?_ | (intro hb; try replace hb := simB hb; try exact kill hb))
   (refine SR ?_; unfold RetQ; refine ⟨(xA, xc), trivial, rfl, Keeps.refl⟩)
theorem concat_t (A : Option Addr) (n c : Nat) (bs : List BS) (hn : n = bs.length) (hl : bs.length ≤ 1000000) (ht : (cat bs).length ≤ 1000000) :
  Tri Tryz.prog 243 [.slice A n c] (bsPs bs ++ [arr BS.e 1 A bs]) [] (fun _ : OA => True) (fun x => .slice x.1 (cat bs).length x.2) (fun x => [ownB x (cat bs)]) :=
 Tri_inn (concat_i A n c bs hn hl ht)
theorem rd1 (k : UInt8) (l : List UInt8) : rdB false (k :: l) 1 = ([k], false, l) := by
 unfold rdB
 rw [if_neg (by simp; omega)]
 rfl
theorem rd0 : rdB false [] 1 = ([], true, []) := by simp [rdB]
theorem nget1 (k : UInt8) : (ngetR [k]).1 = (k.toNat : Int) := by simp [ngetR, ge]
theorem num1_t (b : Nat) (A : Option Addr) (c : Nat) (k : UInt8) (l : List UInt8) (hb : l.length ≤ 100000) (hc : l.length + 1 ≤ c) :
  Tri Tryz.prog 119 [pt b, .int .i64 1] [] (rdP b A c false (k :: l)) (fun x : OA => l.length ≤ x.2) (fun _ => .int .i64 k.toNat) (fun x => rdP b x.1 x.2 false l) := by
 have := nnum_t b A c false (k :: l) 1 (by decide) (by simp; omega) (by simpa using hc)
 rw [rd1, nget1] at this
 exact this
theorem num0_t (b : Nat) (A : Option Addr) (c : Nat) :
  Tri Tryz.prog 119 [pt b, .int .i64 1] [] (rdP b A c false []) (fun x : OA => 0 ≤ x.2) (fun _ => .int .i64 0) (fun x => rdP b x.1 x.2 true []) := by
 have := nnum_t b A c false [] 1 (by decide) (by simp) (by simp)
 rw [rd0] at this
 exact this
theorem rdB_short {l : List UInt8} {q : Nat} (h : l.length < q) : rdB false l (q : Int) = ([], true, l) := by
 unfold rdB
 rw [if_pos (.inr (.inr (by omega)))]
theorem rdB_long {l : List UInt8} {q : Nat} (h : q ≤ l.length) : rdB false l (q : Int) = (l.take q, false, l.drop q) := by
 unfold rdB
 rw [if_neg (by simp; omega), Int.toNat_natCast]
theorem rdB_bad (l : List UInt8) (q : Int) : rdB true l q = ([], true, l) := by
 unfold rdB
 rw [if_pos (.inl rfl)]
theorem bytesB_t (b : Nat) (A : Option Addr) (c : Nat) (l : List UInt8) (n : Int) (hb : l.length ≤ 100000) (hc : l.length ≤ c) :
  Tri Tryz.prog 118 [pt b, .int .i64 n] [] (rdP b A c true l) (fun x : OA × OA => 0 ≤ x.1.2 ∧ l.length ≤ x.2.2) (fun x => .slice x.1.1 0 x.1.2) (fun x => ownB x.1 [] :: rdP b x.2.1 x.2.2 true l) := by
 have := nbytes_t b A c true l n (by omega) hc
 rw [rdB_bad] at this
 exact this
theorem bytesS_t (b : Nat) (A : Option Addr) (c : Nat) (l : List UInt8) (n : Nat) (h : l.length < n) (hb : l.length ≤ 100000) (hc : l.length ≤ c) :
  Tri Tryz.prog 118 [pt b, .int .i64 n] [] (rdP b A c false l) (fun x : OA × OA => 0 ≤ x.1.2 ∧ l.length ≤ x.2.2) (fun x => .slice x.1.1 0 x.1.2) (fun x => ownB x.1 [] :: rdP b x.2.1 x.2.2 true l) := by
 have := nbytes_t b A c false l n (by omega) hc
 rw [rdB_short h] at this
 exact this
theorem bytesL_t (b : Nat) (A : Option Addr) (c : Nat) (l : List UInt8) (n : Nat) (h : n ≤ l.length) (hb : l.length ≤ 100000) (hc : l.length ≤ c) :
  Tri Tryz.prog 118 [pt b, .int .i64 n] [] (rdP b A c false l) (fun x : OA × OA => (l.take n).length ≤ x.1.2 ∧ (l.drop n).length ≤ x.2.2) (fun x => .slice x.1.1 (l.take n).length x.1.2) (fun x => ownB x.1 (l.take n) :: rdP b x.2.1 x.2.2 false (l.drop n)) := by
 have := nbytes_t b A c false l n (by omega) hc
 rw [rdB_long h] at this
 exact this
structure PA where
 org : Int
 path : List (Bool × List Int)
 nxt : Int
 med : Int
 pref : Int
 comms : List Int
def bits (p : PA) : Nat := (((14 ||| if 0 ≤ p.med then 16 else 0) ||| if 0 ≤ p.pref then 32 else 0) ||| if 0 < p.comms.length then 256 else 0)
theorem and_top (a n : Nat) (ha : a < 4294967296) (hn : n ≤ 32) : a &&& ((2 ^ n - 1) * 2 ^ (32 - n)) = a / 2 ^ (32 - n) * 2 ^ (32 - n) := by
 apply Nat.eq_of_testBit_eq
 intro j
 rw [Nat.testBit_and, Nat.testBit_mul_two_pow, Nat.testBit_two_pow_sub_one, Nat.testBit_mul_two_pow, Nat.testBit_div_two_pow]
 by_cases h : 32 - n ≤ j
 ·have e : j - (32 - n) + (32 - n) = j := by omega
  rw [e]
  cases hb : a.testBit j
  ·simp
  ·have : j < 32 := by
    rcases Nat.lt_or_ge j 32 with h | h
    ·exact h
    ·have := Nat.testBit_lt_two_pow (x := a) (i := j) (Nat.lt_of_lt_of_le ha (Nat.pow_le_pow_right (n := 2) (by decide) h))
     rw [this] at hb
     cases hb
   simp [h]
   omega
 ·simp [h]
def topN (a n : Nat) : Nat := a / 2 ^ (32 - n) * 2 ^ (32 - n)
theorem topN_zero (a : Nat) (h : a < 4294967296) : topN a 0 = 0 := by
 unfold topN
 rw [Nat.div_eq_of_lt h, Nat.zero_mul]
theorem topN_step (a i : Nat) (h : i < 32) : topN a (i + 1) = topN a i + a / 2 ^ (31 - i) % 2 * 2 ^ (31 - i) := by
 unfold topN
 have e1 : 32 - (i + 1) = 31 - i := by omega
 have e2 : 32 - i = (31 - i) + 1 := by omega
 rw [e1, e2, Nat.pow_succ, ← Nat.div_div_eq_div_mul]
 generalize a / 2 ^ (31 - i) = q
 generalize 2 ^ (31 - i) = p
 have h1 : q / 2 * (p * 2) = q / 2 * 2 * p := by rw [Nat.mul_comm p 2, Nat.mul_assoc]
 rw [h1, ← Nat.add_mul, Nat.div_add_mod']
theorem topN_le (a n : Nat) : topN a n ≤ a := Nat.div_mul_le_self _ _
def clN (n : Int) : Nat := if n < 0 then 0 else if 32 < n then 32 else n.toNat
theorem clN_le (n : Int) : clN n ≤ 32 := by
 unfold clN
 split
 ·omega
 ·split <;> omega
theorem clN_min (n : Int) : (if (32 : Int) < (if (0 : Int) > n then 0 else n) then (32 : Int) else (if (0 : Int) > n then 0 else n)) = (clN n : Int) := by
 unfold clN
 by_cases h1 : n < 0
 ·rw [if_pos h1, if_pos h1]; decide
 ·rw [if_neg h1, if_neg h1]
  by_cases h2 : 32 < n
  ·rw [if_pos h2, if_pos h2]; rfl
  ·rw [if_neg h2, if_neg h2]; omega
theorem clN_cl (n : Int) : clN (clN n : Int) = clN n := by
 have h := clN_le n
 show (if ((clN n : Nat) : Int) < 0 then 0 else if 32 < ((clN n : Nat) : Int) then 32 else ((clN n : Nat) : Int).toNat) = clN n
 rw [if_neg (by omega), if_neg (by omega)]
 rfl
def mskN (n : Nat) : Nat := (2 ^ n - 1) * 2 ^ (32 - n)
theorem msk_wrap : ∀ k, k < 33 → IntKind.u32.wrap (bShl .u64 18446744073709551615 (32 - k)) = ((mskN k : Nat) : Int) := by decide +kernel
theorem msk_lt : ∀ k, k < 33 → mskN k < 4294967296 := by decide +kernel
theorem and_msk (a k : Nat) (ha : a < 4294967296) (hk : k ≤ 32) : bAnd .u32 (a : Nat) ((mskN k : Nat) : Int) = ((topN a k : Nat) : Int) := by
 have h1 := and_top a k ha hk
 have h2 := msk_lt k (by omega)
 have h3 := topN_le a k
 unfold bAnd
 have e : (BitVec.ofInt IntKind.u32.bits (a : Int) &&& BitVec.ofInt IntKind.u32.bits ((mskN k : Nat) : Int)).toNat = topN a k := by
  rw [BitVec.ofInt_natCast, BitVec.ofInt_natCast, BitVec.toNat_and, BitVec.toNat_ofNat, BitVec.toNat_ofNat, show 2 ^ IntKind.u32.bits = 4294967296 from rfl, Nat.mod_eq_of_lt ha, Nat.mod_eq_of_lt h2]
  exact h1
 rw [e]
 show ((topN a k : Nat) : Int) % 4294967296 = _
 omega
theorem HO_max {m : Md} {P : Program} {N : Nat} {w0 : World} {S0 : Foot} {ops : List Oper} {i : Nat} {lq : List Nat} {env : Env} {ro rw : List SL} {K : Act → World → Prop} {d : Nat} {ty : TypeId} {pos : String} {aft : Array Edge} {g : Option (Nat × Bool)}
  {x y : Operand} {k k' : IntKind} {p q : Int} {tys : Array TypeId} (ho : ops[i]? = some ⟨some d, .call { callee := .builtin .max, args := #[x, y], argTypes := tys }, ty, pos, aft, g⟩)
  (hx : Env.ev env x = some (.int k p)) (hy : Env.ev env y = some (.int k' q)) (hw : wantE ops env g = some true) (hN : Nat.blt d N = true) (hr : rdyB m ops i lq = true)
  (h : HO m P N w0 S0 ops lq ((d, .int k (if q > p then q else p)) :: env) ro rw K) : HO m P N w0 S0 ops (i :: lq) env ro rw K := by
 refine HO_val ho hw rfl hN hr (fun a w ha hf => ?_) h
 simp [execOp, resolve, invoke, builtin, Builtin.max_, Builtin.max2, Sem.run_bind, ha.ev hx, ha.ev hy]
set_option maxHeartbeats 4000000 in
theorem mask_t (n : Int) : Tri Tryz.prog 201 [.int .i64 n] [] [] (fun _ : Unit => True) (fun _ => .int .u32 (mskN (clN n))) (fun _ => []) := by
 have hm := clN_min n
 have hl := clN_le n
 have hs : (32 - ((clN n : Nat) : Int)) = ((32 - clN n : Nat) : Int) := by omega
 have hw := msk_wrap (clN n) (by omega)
 refine Tri_of (N := Tryz.f201.ntmps) (c := bodyOf Tryz.f201) Tryz.func201 rfl rfl rfl rfl (fun w0 S0 => ?_)
 repeat' (first | refine SW ?_ | refine SD ?_ | (refine HO_k 19 rfl ?_; refine HO_max rfl rfl rfl rfl rfl rdA ?_) | (with_reducible refine HO_rw (congrArg (Value.int .i64) hm) ?_) | (with_reducible refine HO_rw (congrArg (Value.int .i64) hs) ?_) | exact HO_seg rfl rfl | refine S1 ?_ | (refine S2 ?_; intro _) | (refine S3 ?_; intro _ _) | (refine S4 ?_; intro _ _ _) | (refine HO_g 2 rfl ?_; first | apply HO_a1 rfl | apply HO_o1 rfl) | refine S5 ?_ | (intro hb; try replace hb := simB hb; try exact kill hb))
 (refine SR ?_; unfold RetQ; refine ⟨(), trivial, ?_, Keeps.nil⟩)
 rw [hw]
 rfl
@[reducible] def pfV (a : Nat) (n : Int) : Value := .agg #[.int .u32 a, .int .i64 n]
set_option maxHeartbeats 4000000 in
theorem amake_t (a : Nat) (ha : a < 4294967296) (n : Int) : Tri Tryz.prog 152 [.int .u32 a, .int .i64 n] [] [] (fun _ : Unit => True) (fun _ => pfV (topN a (clN n)) (clN n)) (fun _ => []) := by
 have hm := clN_min n
 have hl := clN_le n
 have hk := mask_t (clN n)
 rw [clN_cl] at hk
 have hw := and_msk a (clN n) ha hl
 refine Tri_of (N := Tryz.f152.ntmps) (c := bodyOf Tryz.f152) Tryz.func152 rfl rfl rfl rfl (fun w0 S0 => ?_)
 repeat' (first | refine SW ?_ | refine SD ?_ | (refine HO_k 19 rfl ?_; refine HO_max rfl rfl rfl rfl rfl rdA ?_) | (with_reducible refine HO_rw (congrArg (Value.int .i64) hm) ?_) | (with_reducible refine HO_rw (congrArg (Value.int .u32) hw) ?_) | (refine HO_k 12 rfl ?_; refine HO_callq rfl rfl rfl rfl (hk) (fun _ _ => rfl) (trivial) rfl rfl sqA ?_) | exact HO_seg rfl rfl | refine S1 ?_ | (refine S2 ?_; intro _) | (refine S3 ?_; intro _ _) | (refine S4 ?_; intro _ _ _) | (refine HO_g 2 rfl ?_; first | apply HO_a1 rfl | apply HO_o1 rfl) | refine S5 ?_ | (intro hb; try replace hb := simB hb; try exact kill hb))
 (refine SR ?_; unfold RetQ; refine ⟨(), trivial, ?_, Keeps.nil⟩)
 rfl
def okX (a : Nat) (n : Int) : Bool := decide (topN a (clN n) = a ∧ ((clN n : Nat) : Int) = n)
theorem okX_eq (a : Nat) (n : Int) : okX a n = (decide (((topN a (clN n) : Nat) : Int) = (a : Nat)) && decide (((clN n : Nat) : Int) = n)) := by
 unfold okX
 rw [Bool.decide_and]
 congr 1
 exact decide_eq_decide.2 (by omega)
set_option maxHeartbeats 4000000 in
theorem addrCheck_t (a : Nat) (ha : a < 4294967296) (n : Int) : Tri Tryz.prog 97 [pfV a n] [] [] (fun _ : Unit => True) (fun _ => .int .i64 (if okX a n = true then 0 else 20)) (fun _ => []) := by
 have hk := amake_t a ha n
 dsimp only [pfV] at hk
 refine Tri_of (N := Tryz.f97.ntmps) (c := bodyOf Tryz.f97) Tryz.func97 rfl rfl rfl rfl (fun w0 S0 => ?_)
 dsimp only [pfV]
 repeat' (first | refine SW ?_ | refine SD ?_ | (refine HO_k 12 rfl ?_; refine HO_callq rfl rfl rfl rfl (hk) (fun _ _ => rfl) (trivial) rfl rfl sqA ?_) | exact HO_seg rfl rfl | refine S1 ?_ | (refine S2 ?_; intro _) | (refine S3 ?_; intro _ _) | (refine S4 ?_; intro _ _ _) | (refine HO_g 2 rfl ?_; first | apply HO_a1 rfl | apply HO_o1 rfl) | refine S5 ?_ | (intro hb; try replace hb := simB hb; try exact kill hb))
 refine HC_cond rfl rfl (fun hb => ?_) (fun hb => ?_)
 ·have hx : okX a n = false := by rw [okX_eq]; simp only [Bool.not_eq_true'] at hb; exact hb
  rw [hx]
  repeat' (first | refine SW ?_ | exact HO_seg rfl rfl | refine S1 ?_ | (refine S2 ?_; intro _) | (refine S3 ?_; intro _ _) | (refine S4 ?_; intro _ _ _) | (refine HO_g 2 rfl ?_; first | apply HO_a1 rfl | apply HO_o1 rfl) | refine S5 ?_ | (intro hb; try replace hb := simB hb; try exact kill hb))
  (refine SR ?_; unfold RetQ; refine ⟨(), trivial, ?_, Keeps.nil⟩)
  rfl
 ·have hx : okX a n = true := by rw [okX_eq]; simp only [Bool.not_eq_false'] at hb; exact hb
  rw [hx]
  repeat' (first | refine SW ?_ | exact HO_seg rfl rfl | refine S1 ?_ | (refine S2 ?_; intro _) | (refine S3 ?_; intro _ _) | (refine S4 ?_; intro _ _ _) | (refine HO_g 2 rfl ?_; first | apply HO_a1 rfl | apply HO_o1 rfl) | refine S5 ?_ | (intro hb; try replace hb := simB hb; try exact kill hb))
  (refine SR ?_; unfold RetQ; refine ⟨(), trivial, ?_, Keeps.nil⟩)
  rfl
theorem HO_quo {m : Md} {P : Program} {N : Nat} {w0 : World} {S0 : Foot} {ops : List Oper} {i : Nat} {lq : List Nat} {env : Env} {ro rw : List SL} {K : Act → World → Prop} {d : Nat} {ty : TypeId} {pos : String} {aft : Array Edge} {g : Option (Nat × Bool)}
  {T U : Nat} {x y : Operand} {k : IntKind} {p q : Int} (ho : ops[i]? = some ⟨some d, .binOp .quo T x y U, ty, pos, aft, g⟩)
  (hx : Env.ev env x = some (.int k p)) (hy : Env.ev env y = some (.int k q)) (h0 : q ≠ 0) (hw : wantE ops env g = some true) (hN : Nat.blt d N = true) (hr : rdyB m ops i lq = true)
  (h : HO m P N w0 S0 ops lq ((d, .int k (bQuo k p q)) :: env) ro rw K) : HO m P N w0 S0 ops (i :: lq) env ro rw K := by
 refine HO_val ho hw rfl hN hr (fun a w ha hf => ?_) h
 simp [execOp, eqGuard, binOp, Op.intCmp, Op.intArith, Op.intBits, Op.intDiv, bQuo, h0, Sem.run_bind, ha.ev hx, ha.ev hy]
theorem one_shl : ∀ i, i < 32 → bShl .u32 1 (31 - i) = ((2 ^ (31 - i) : Nat) : Int) := by decide +kernel
theorem quo_u32 (a k : Nat) (ha : a < 4294967296) : bQuo .u32 (a : Nat) ((2 ^ k : Nat) : Int) = ((a / 2 ^ k : Nat) : Int) := by
 have h := Nat.div_le_self a (2 ^ k)
 show ((a / 2 ^ k : Nat) : Int) % 4294967296 = _
 generalize a / 2 ^ k = q at h ⊢
 omega
theorem shl_bit : ∀ b, b < 2 → ∀ s, s < 32 → bShl .u32 ((b : Nat) : Int) s = ((b * 2 ^ s : Nat) : Int) := by decide +kernel
theorem rem_two (n : Nat) : bRem ((n : Nat) : Int) 2 = ((n % 2 : Nat) : Int) := by
 unfold bRem
 rw [Int.tmod_eq_emod_of_nonneg (by omega)]
 rfl
set_option maxHeartbeats 4000000 in
theorem rbit_t (a : Nat) (ha : a < 4294967296) (i : Nat) (hi : i < 32) : Tri Tryz.prog 238 [.int .u32 a, .int .i64 i] [] [] (fun _ : Unit => True) (fun _ => .int .u32 ((a / 2 ^ (31 - i) % 2 : Nat) : Int)) (fun _ => []) := by
 have hs : (31 - ((i : Nat) : Int)) = ((31 - i : Nat) : Int) := by omega
 have hl := one_shl i hi
 have hq := quo_u32 a (31 - i) ha
 have hr := rem_two (a / 2 ^ (31 - i))
 have hp : ((2 ^ (31 - i) : Nat) : Int) ≠ 0 := by have := Nat.pow_pos (n := 31 - i) (show 0 < 2 by decide); omega
 refine Tri_of (N := Tryz.f238.ntmps) (c := bodyOf Tryz.f238) Tryz.func238 rfl rfl rfl rfl (fun w0 S0 => ?_)
 repeat' (first | refine SW ?_ | refine SD ?_ | (with_reducible refine HO_rw (congrArg (Value.int .i64) hs) ?_) | (with_reducible refine HO_rw (congrArg (Value.int .u32) hl) ?_) | (with_reducible refine HO_rw (congrArg (Value.int .u32) hq) ?_) | (with_reducible refine HO_rw (congrArg (Value.int .u32) hr) ?_) | (refine HO_k 0 rfl ?_; refine HO_quo rfl rfl rfl hp rfl rfl rdA ?_) | exact HO_seg rfl rfl | refine S1 ?_ | (refine S2 ?_; intro _) | (refine S3 ?_; intro _ _) | (refine S4 ?_; intro _ _ _) | (refine HO_g 2 rfl ?_; first | apply HO_a1 rfl | apply HO_o1 rfl) | refine S5 ?_ | (intro hb; try replace hb := simB hb; try exact kill hb))
 (refine SR ?_; unfold RetQ; refine ⟨(), trivial, ?_, Keeps.nil⟩)
 rfl
set_option maxHeartbeats 4000000 in
theorem rmake_t (a : Nat) (ha : a < 4294967296) (n : Int) : Tri Tryz.prog 196 [.int .u32 a, .int .i64 n] [] [] (fun _ : Unit => True) (fun _ => pfV (topN a (clN n)) (clN n)) (fun _ => []) := by
 have hl := clN_le n
 refine Tri_of (N := Tryz.f196.ntmps) (c := bodyOf Tryz.f196) Tryz.func196 rfl rfl rfl rfl (fun w0 S0 => ?_)
 repeat' (first | refine SW ?_ | exact HO_seg rfl rfl | refine S1 ?_ | (refine S2 ?_; intro _) | (refine S3 ?_; intro _ _) | (refine S4 ?_; intro _ _ _) | (refine HO_g 2 rfl ?_; first | apply HO_a1 rfl | apply HO_o1 rfl) | refine S5 ?_ | (intro hb; try replace hb := simB hb; try exact kill hb))
 rename_i b4
 obtain ⟨n1, hn1⟩ : ∃ n1 : Int, n1 = if n < 0 then 0 else n := ⟨_, rfl⟩
 refine HC_cutP (α := Unit) (fun _ => True) (fun _ => [(4, pt b4), (0, .int .u32 a), (1, .int .i64 n1)]) (fun _ => [cel b4 49 [.int .u32 0, .int .i64 0]]) ?_ ?_
 ·refine HC_cond rfl rfl (fun hb => ?_) (fun hb => ?_)
  ·replace hb := simB hb
   rw [if_pos hb] at hn1
   subst hn1
   repeat' (first | refine SW ?_ | exact HO_seg rfl rfl | refine S1 ?_ | (refine S2 ?_; intro _) | (refine S3 ?_; intro _ _) | (refine S4 ?_; intro _ _ _) | (refine HO_g 2 rfl ?_; first | apply HO_a1 rfl | apply HO_o1 rfl) | refine S5 ?_ | (intro hb; try replace hb := simB hb; try exact kill hb))
   exact HX_at () trivial ⟨rfl, rfl, rfl, trivial⟩ rfl
  ·replace hb := simB hb
   rw [if_neg (by omega)] at hn1
   subst hn1
   repeat' (first | refine SW ?_ | exact HO_seg rfl rfl | refine S1 ?_ | (refine S2 ?_; intro _) | (refine S3 ?_; intro _ _) | (refine S4 ?_; intro _ _ _) | (refine HO_g 2 rfl ?_; first | apply HO_a1 rfl | apply HO_o1 rfl) | refine S5 ?_ | (intro hb; try replace hb := simB hb; try exact kill hb))
   exact HX_at () trivial ⟨rfl, rfl, rfl, trivial⟩ rfl
 intro _ _
 have hn2 : (clN n : Int) = if 32 < n1 then 32 else n1 := by
  rw [hn1]
  unfold clN
  by_cases h1 : n < 0
  ·rw [if_pos h1, if_pos h1]; decide
  ·rw [if_neg h1, if_neg h1]
   by_cases h2 : 32 < n
   ·rw [if_pos h2, if_pos h2]; rfl
   ·rw [if_neg h2, if_neg h2]; omega
 obtain ⟨k, hk⟩ : ∃ k, clN n = k := ⟨_, rfl⟩
 rw [hk] at hl hn2 ⊢
 repeat' (first | refine SW ?_ | exact HO_seg rfl rfl | refine S1 ?_ | (refine S2 ?_; intro _) | (refine S3 ?_; intro _ _) | (refine S4 ?_; intro _ _ _) | (refine HO_g 2 rfl ?_; first | apply HO_a1 rfl | apply HO_o1 rfl) | refine S5 ?_ | (intro hb; try replace hb := simB hb; try exact kill hb))
 refine HC_cutP (α := Unit) (fun _ => True) (fun _ => [(4, pt b4), (0, .int .u32 a), (1, .int .i64 (k : Int))]) (fun _ => [cel b4 49 [.int .u32 0, .int .i64 0]]) ?_ ?_
 ·refine HC_cond rfl rfl (fun hb => ?_) (fun hb => ?_)
  ·replace hb := simB hb
   rw [if_pos (by omega)] at hn2
   rw [hn2]
   repeat' (first | refine SW ?_ | exact HO_seg rfl rfl | refine S1 ?_ | (refine S2 ?_; intro _) | (refine S3 ?_; intro _ _) | (refine S4 ?_; intro _ _ _) | (refine HO_g 2 rfl ?_; first | apply HO_a1 rfl | apply HO_o1 rfl) | refine S5 ?_ | (intro hb; try replace hb := simB hb; try exact kill hb))
   exact HX_at () trivial ⟨rfl, rfl, rfl, trivial⟩ rfl
  ·replace hb := simB hb
   rw [if_neg (by omega)] at hn2
   rw [hn2]
   repeat' (first | refine SW ?_ | exact HO_seg rfl rfl | refine S1 ?_ | (refine S2 ?_; intro _) | (refine S3 ?_; intro _ _) | (refine S4 ?_; intro _ _ _) | (refine HO_g 2 rfl ?_; first | apply HO_a1 rfl | apply HO_o1 rfl) | refine S5 ?_ | (intro hb; try replace hb := simB hb; try exact kill hb))
   exact HX_at () trivial ⟨rfl, rfl, rfl, trivial⟩ rfl
 intro _ _
 repeat' (first | refine SW ?_ | exact HO_seg rfl rfl | refine S1 ?_ | (refine S2 ?_; intro _) | (refine S3 ?_; intro _ _) | (refine S4 ?_; intro _ _ _) | (refine HO_g 2 rfl ?_; first | apply HO_a1 rfl | apply HO_o1 rfl) | refine S5 ?_ | (intro hb; try replace hb := simB hb; try exact kill hb))
 rename_i b5
 refine HC_loop (α := Nat) (fun j => j ≤ k) (fun j => [(6, .int .i64 j), (5, pt b5), (4, pt b4), (0, .int .u32 a), (1, .int .i64 k)]) (fun j => [cel b5 49 [.int .u32 (topN a j), .int .i64 k], cel b4 49 [.int .u32 0, .int .i64 0]]) (fun j => k - j) rfl 0 (Nat.zero_le _) ⟨rfl, rfl, rfl, rfl, rfl, trivial⟩ (by rw [topN_zero a ha]; rfl) ?_
 intro j hj
 rcases Nat.lt_or_ge j k with hlt | hge
 ·have hbt := rbit_t a ha j (by omega)
  have hs : (31 - ((j : Nat) : Int)) = ((31 - j : Nat) : Int) := by omega
  repeat' (first | refine SW ?_ | refine SD ?_ | (refine HO_k 12 rfl ?_; refine HO_callq rfl rfl rfl rfl (hbt) (fun _ _ => rfl) (trivial) rfl rfl sqA ?_) | (with_reducible refine HO_rw (congrArg (Value.int .i64) hs) ?_) | exact HO_seg rfl rfl | refine S1 ?_ | (refine S2 ?_; intro _) | (refine S3 ?_; intro _ _) | (refine S4 ?_; intro _ _ _) | (refine HO_g 2 rfl ?_; first | apply HO_a1 rfl | apply HO_o1 rfl) | refine S5 ?_ | (intro hb; try replace hb := simB hb; try exact kill hb))
  have hsn : (31 - ((j : Nat) : Int)).toNat = 31 - j := by omega
  have ew : IntKind.u32.wrap (((topN a j : Nat) : Int) + bShl IntKind.u32 ((a / 2 ^ (31 - j) % 2 : Nat) : Int) (31 - ((j : Nat) : Int)).toNat) = ((topN a (j + 1) : Nat) : Int) := by
   have h1 := topN_le a (j + 1)
   rw [topN_step a j (by omega)] at h1 ⊢
   rw [hsn, shl_bit _ (Nat.mod_lt _ (by decide)) _ (by omega)]
   show (((topN a j : Nat) : Int) + ((a / 2 ^ (31 - j) % 2 * 2 ^ (31 - j) : Nat) : Int)) % 4294967296 = _
   generalize a / 2 ^ (31 - j) % 2 * 2 ^ (31 - j) = u at h1 ⊢
   omega
  rw [ew]
  exact HX_at (j + 1) ⟨hlt, by omega⟩ ⟨rfl, rfl, rfl, rfl, rfl, trivial⟩ rfl
 ·obtain rfl : j = k := by omega
  repeat' (first | refine SW ?_ | refine SD ?_ | exact HO_seg rfl rfl | refine S1 ?_ | (refine S2 ?_; intro _) | (refine S3 ?_; intro _ _) | (refine S4 ?_; intro _ _ _) | (refine HO_g 2 rfl ?_; first | apply HO_a1 rfl | apply HO_o1 rfl) | refine S5 ?_ | (intro hb; try replace hb := simB hb; try exact kill hb))
  (refine SR ?_; unfold RetQ; refine ⟨(), trivial, ?_, Keeps.nil⟩)
  rfl
theorem okX_clN {a : Nat} {n : Int} : okX a n = (decide (0 ≤ n) && decide (n ≤ 32) && (decide (((topN a (clN n) : Nat) : Int) = (a : Nat)) && decide (((clN n : Nat) : Int) = n))) := by
 rw [okX_eq]
 by_cases h : ((clN n : Nat) : Int) = n
 ·have h1 := clN_le n
  rw [decide_eq_true (show 0 ≤ n by omega), decide_eq_true (show n ≤ 32 by omega), Bool.true_and, Bool.true_and]
 ·rw [decide_eq_false h, Bool.and_false, Bool.and_false]
set_option maxHeartbeats 4000000 in
theorem rchk_t (a : Nat) (ha : a < 4294967296) (n : Int) : Tri Tryz.prog 138 [pfV a n] [] [] (fun _ : Unit => True) (fun _ => .bool (okX a n)) (fun _ => []) := by
 have hk := rmake_t a ha n
 dsimp only [pfV] at hk
 rw [okX_clN]
 by_cases h1 : 0 ≤ n
 ·by_cases h2 : n ≤ 32
  ·rw [decide_eq_true h1, decide_eq_true h2, Bool.true_and, Bool.true_and]
   refine Tri_of (N := Tryz.f138.ntmps) (c := bodyOf Tryz.f138) Tryz.func138 rfl rfl rfl rfl (fun w0 S0 => ?_)
   dsimp only [pfV]
   repeat' (first | refine SW ?_ | refine SD ?_ | (refine HO_k 12 rfl ?_; refine HO_callq rfl rfl rfl rfl (hk) (fun _ _ => rfl) (trivial) rfl rfl sqA ?_) | exact HO_seg rfl rfl | refine S1 ?_ | (refine S2 ?_; intro _) | (refine S3 ?_; intro _ _) | (refine S4 ?_; intro _ _ _) | (refine HO_g 2 rfl ?_; first | apply HO_a1 rfl | apply HO_o1 rfl) | refine S5 ?_ | (intro hb; try replace hb := simB hb; try exact kill hb))
   (refine SR ?_; unfold RetQ; refine ⟨(), trivial, ?_, Keeps.nil⟩)
   rfl
  ·rw [decide_eq_false h2, Bool.and_false, Bool.false_and]
   refine Tri_of (N := Tryz.f138.ntmps) (c := bodyOf Tryz.f138) Tryz.func138 rfl rfl rfl rfl (fun w0 S0 => ?_)
   dsimp only [pfV]
   repeat' (first | refine SW ?_ | refine SD ?_ | exact HO_seg rfl rfl | refine S1 ?_ | (refine S2 ?_; intro _) | (refine S3 ?_; intro _ _) | (refine S4 ?_; intro _ _ _) | (refine HO_g 2 rfl ?_; first | apply HO_a1 rfl | apply HO_o1 rfl) | refine S5 ?_ | (intro hb; try replace hb := simB hb; try exact kill hb))
   (refine SR ?_; unfold RetQ; refine ⟨(), trivial, ?_, Keeps.nil⟩)
   rfl
 ·rw [decide_eq_false h1, Bool.false_and, Bool.false_and]
  refine Tri_of (N := Tryz.f138.ntmps) (c := bodyOf Tryz.f138) Tryz.func138 rfl rfl rfl rfl (fun w0 S0 => ?_)
  dsimp only [pfV]
  repeat' (first | refine SW ?_ | refine SD ?_ | exact HO_seg rfl rfl | refine S1 ?_ | (refine S2 ?_; intro _) | (refine S3 ?_; intro _ _) | (refine S4 ?_; intro _ _ _) | (refine HO_g 2 rfl ?_; first | apply HO_a1 rfl | apply HO_o1 rfl) | refine S5 ?_ | (intro hb; try replace hb := simB hb; try exact kill hb))
  (refine SR ?_; unfold RetQ; refine ⟨(), trivial, ?_, Keeps.nil⟩)
  rfl
theorem Tri_cap1 {P : Program} {g T n : Nat} {args : List Value} {ro rw : List SL} {φ : OA → Prop} {val : OA → Value} {l : List (List Value)} (h : Tri P g args ro rw φ val (fun x => [own idE T 1 x.1 n x.2 l])) :
  Tri P g args ro rw (fun x => n ≤ x.2) val (fun x => [own idE T 1 x.1 n x.2 l]) := by
 unfold Tri at h ⊢
 exact fun w S hf => (h w S hf).mono fun e w' ⟨x, T, hx, he, hfx⟩ => ⟨x, T, own_cap ro.length (by rw [List.getElem?_append_right (Nat.le_refl _), Nat.sub_self]; rfl) hfx.roOk, he, hfx⟩
def pfB (a k : Nat) : List UInt8 := UInt8.ofNat k :: (be 4 a).take ((k + 7) / 8)
theorem okX_len {a : Nat} {n : Int} (h : okX a n = true) : 0 ≤ n ∧ n ≤ 32 := by
 rw [okX_clN] at h
 simp only [Bool.and_eq_true, decide_eq_true_eq] at h
 exact h.1
theorem quo8 : ∀ k, k < 33 → bQuo .i64 ((k : Nat) + 7) 8 = (((k + 7) / 8 : Nat) : Int) := by decide +kernel
set_option maxHeartbeats 4000000 in
theorem psize_t (k : Nat) (hk : k ≤ 32) : Tri Tryz.prog 244 [.int .i64 k] [] [] (fun _ : Unit => True) (fun _ => .int .i64 ((k + 7) / 8 : Nat)) (fun _ => []) := by
 have h8 := quo8 k (by omega)
 refine Tri_of (N := Tryz.f244.ntmps) (c := bodyOf Tryz.f244) Tryz.func244 rfl rfl rfl rfl (fun w0 S0 => ?_)
 repeat' (first | refine SW ?_ | refine SD ?_ | (with_reducible refine HO_rw (congrArg (Value.int .i64) h8) ?_) | exact HO_seg rfl rfl | refine S1 ?_ | (refine S2 ?_; intro _) | (refine S3 ?_; intro _ _) | (refine S4 ?_; intro _ _ _) | (refine HO_g 2 rfl ?_; first | apply HO_a1 rfl | apply HO_o1 rfl) | refine S5 ?_ | (intro hb; try replace hb := simB hb; try exact kill hb))
 (refine SR ?_; unfold RetQ; refine ⟨(), trivial, ?_, Keeps.nil⟩)
 rfl
set_option maxHeartbeats 8000000 in
theorem pput_t (a : Nat) (ha : a < 4294967296) (k : Nat) (hx : okX a k = true) : Tri Tryz.prog 206 [pfV a k] [] [] (fun _ : OA => True) (fun x => .tuple #[.slice x.1 (pfB a k).length x.2, .int .i64 0]) (fun x => [ownB x (pfB a k)]) := by
 have hc := addrCheck_t a ha k
 rw [hx] at hc
 dsimp only [pfV] at hc
 have hk : k ≤ 32 := by have := (okX_len hx).2; omega
 have hp := Tri_cap1 (nput_ok 4 a (by decide) (by decide) ha)
 have hs := psize_t k (by omega)
 refine Tri_of (N := Tryz.f206.ntmps) (c := bodyOf Tryz.f206) Tryz.func206 rfl rfl rfl rfl (fun w0 S0 => ?_)
 dsimp only [pfV]
 repeat' (first | refine SW ?_ | refine SD ?_ | (refine HO_k 12 rfl ?_; refine HO_callq rfl rfl rfl rfl (hc) (fun _ _ => rfl) (trivial) rfl rfl sqA ?_) | (refine HO_k 12 rfl ?_; refine HO_callq rfl rfl rfl rfl (hs) (fun _ _ => rfl) (trivial) rfl rfl sqA ?_) | (with_reducible refine HO_u8n ?_) | (refine HO_k 12 rfl ?_; refine HO_call rfl rfl rfl rfl (hp) rfl (trivial) rfl rfl soA ?_; intro ⟨x1, c1⟩ h1; have h2 : 4 ≤ c1 := h1; dsimp only [lca, lna]) | exact HO_seg rfl rfl | refine S1 ?_ | (refine S2 ?_; intro _) | (refine S3 ?_; intro _ _) | (refine S4 ?_; intro _ _ _) | (refine HO_g 2 rfl ?_; first | apply HO_a1 rfl | apply HO_o1 rfl) | refine S5 ?_ | (intro hb; try replace hb := simB hb; try exact kill hb))
 have hb4 := be_length 4 a
 have hq : (((k + 7) / 8 : Nat) : Int).toNat = ((be 4 a).take ((k + 7) / 8)).length := by rw [List.length_take, hb4]; omega
 have eU : [[Value.int .u8 (k : Int)]] = List.map bE [UInt8.ofNat k] := by simp [bE]; omega
 refine HO_two (i := 3) (j := 7) (l1 := [7, 8, 9, 10, 11, 12]) (l2 := [8, 3, 9, 10, 11, 12]) (by decide +kernel) rfl ⟨by decide +kernel, rfl, rfl⟩ ⟨by decide +kernel, rfl, rfl⟩ ?_ ?_
 ·repeat' (first | refine SW ?_ | refine SD ?_ | (refine HO_k 12 rfl ?_; refine HO_callq rfl rfl rfl rfl (hs) (fun _ _ => rfl) (trivial) rfl rfl sqA ?_) | exact HO_seg rfl rfl | refine S1 ?_ | (refine S2 ?_; intro _) | (refine S3 ?_; intro _ _) | (refine S4 ?_; intro _ _ _) | (refine HO_g 2 rfl ?_; first | apply HO_a1 rfl | apply HO_o1 rfl) | refine S5 ?_ | (intro hb; try replace hb := simB hb; try exact kill hb))
  rw [hq, eU]
  rename_i b4 b1 b3
  (refine HO_k 12 rfl ?_; refine HO_call rfl rfl rfl rfl (concat_t (some ⟨b3, 0, none⟩) 2 2 [⟨some ⟨b1, 0, none⟩, 1, [UInt8.ofNat k]⟩, ⟨x1, c1, (be 4 a).take ((k + 7) / 8)⟩] rfl (by simp) (by simp [cat]; omega)) rfl (AllSrc.own 2 rfl rfl (AllSrc.via 3 rfl (fun S w h => arr_take _ S w (own_e S w h)) (AllSrc.own 1 rfl rfl trivial))) rfl rfl soA ?_; intro ⟨yA, yc⟩ hy; dsimp only [lca, lna])
  repeat' (first | refine SW ?_ | exact HO_seg rfl rfl | refine S1 ?_ | (refine S2 ?_; intro _) | (refine S3 ?_; intro _ _) | (refine S4 ?_; intro _ _ _) | (refine HO_g 2 rfl ?_; first | apply HO_a1 rfl | apply HO_o1 rfl) | refine S5 ?_ | (intro hb; try replace hb := simB hb; try exact kill hb))
  have e : cat [⟨some ⟨b1, 0, none⟩, 1, [UInt8.ofNat k]⟩, ⟨x1, c1, (be 4 a).take ((k + 7) / 8)⟩] = pfB a k := by simp [cat, pfB]
  rw [e]
  (refine SR ?_; unfold RetQ; refine ⟨(yA, yc), trivial, rfl, Keeps.skip (Keeps.cons Ent.rfl_ Keeps.nil)⟩)
 ·repeat' (first | refine SW ?_ | refine SD ?_ | (refine HO_k 12 rfl ?_; refine HO_callq rfl rfl rfl rfl (hs) (fun _ _ => rfl) (trivial) rfl rfl sqA ?_) | exact HO_seg rfl rfl | refine S1 ?_ | (refine S2 ?_; intro _) | (refine S3 ?_; intro _ _) | (refine S4 ?_; intro _ _ _) | (refine HO_g 2 rfl ?_; first | apply HO_a1 rfl | apply HO_o1 rfl) | refine S5 ?_ | (intro hb; try replace hb := simB hb; try exact kill hb))
  rw [hq, eU]
  rename_i b4 b1 b3
  (refine HO_k 12 rfl ?_; refine HO_call rfl rfl rfl rfl (concat_t (some ⟨b3, 0, none⟩) 2 2 [⟨some ⟨b1, 0, none⟩, 1, [UInt8.ofNat k]⟩, ⟨x1, c1, (be 4 a).take ((k + 7) / 8)⟩] rfl (by simp) (by simp [cat]; omega)) rfl (AllSrc.own 2 rfl rfl (AllSrc.via 3 rfl (fun S w h => arr_take _ S w (own_e S w h)) (AllSrc.own 1 rfl rfl trivial))) rfl rfl soA ?_; intro ⟨yA, yc⟩ hy; dsimp only [lca, lna])
  repeat' (first | refine SW ?_ | exact HO_seg rfl rfl | refine S1 ?_ | (refine S2 ?_; intro _) | (refine S3 ?_; intro _ _) | (refine S4 ?_; intro _ _ _) | (refine HO_g 2 rfl ?_; first | apply HO_a1 rfl | apply HO_o1 rfl) | refine S5 ?_ | (intro hb; try replace hb := simB hb; try exact kill hb))
  have e : cat [⟨some ⟨b1, 0, none⟩, 1, [UInt8.ofNat k]⟩, ⟨x1, c1, (be 4 a).take ((k + 7) / 8)⟩] = pfB a k := by simp [cat, pfB]
  rw [e]
  (refine SR ?_; unfold RetQ; refine ⟨(yA, yc), trivial, rfl, Keeps.skip (Keeps.cons Ent.rfl_ Keeps.nil)⟩)
set_option maxHeartbeats 8000000 in
theorem rpput_t (a : Nat) (ha : a < 4294967296) (k : Nat) (hk : k ≤ 32) : Tri Tryz.prog 182 [pfV a k] [] [] (fun _ : OA => True) (fun x => .slice x.1 (pfB a k).length x.2) (fun x => [ownB x (pfB a k)]) := by
 have hp := Tri_cap1 (rput_t 4 a (by decide) (by omega))
 have h8 := quo8 k (by omega)
 refine Tri_of (N := Tryz.f182.ntmps) (c := bodyOf Tryz.f182) Tryz.func182 rfl rfl rfl rfl (fun w0 S0 => ?_)
 dsimp only [pfV]
 repeat' (first | refine SW ?_ | refine SD ?_ | (with_reducible refine HO_rw (congrArg (Value.int .i64) h8) ?_) | (with_reducible refine HO_u8n ?_) | (refine HO_k 12 rfl ?_; refine HO_call rfl rfl rfl rfl (hp) rfl (trivial) rfl rfl soA ?_; intro ⟨x1, c1⟩ h1; have h2 : 4 ≤ c1 := h1; dsimp only [lca, lna]) | exact HO_seg rfl rfl | refine S1 ?_ | (refine S2 ?_; intro _) | (refine S3 ?_; intro _ _) | (refine S4 ?_; intro _ _ _) | (refine HO_g 2 rfl ?_; first | apply HO_a1 rfl | apply HO_o1 rfl) | refine S5 ?_ | (intro hb; try replace hb := simB hb; try exact kill hb))
 have hb4 := be_length 4 a
 have hq : (((k + 7) / 8 : Nat) : Int).toNat = ((be 4 a).take ((k + 7) / 8)).length := by rw [List.length_take, hb4]; omega
 rw [hq]
 refine HO_k 11 rfl ?_
 refine HO_app (k := 0) (k2 := 2) (l2 := ((be 4 a).take ((k + 7) / 8)).map bE) rfl rfl rfl rfl rfl rfl rfl rfl ⟨_, rfl, fun _ S w h => arr_raw S w (arr_take _ S w (own_e S w h))⟩ (by simp) WfL.map rfl rfl (by simp; omega) (by simp; omega) rfl rfl rfl soA ?_
 intro A' c'
 repeat' (first | refine SW ?_ | exact HO_seg rfl rfl | refine S1 ?_ | (refine S2 ?_; intro _) | (refine S3 ?_; intro _ _) | (refine S4 ?_; intro _ _ _) | (refine HO_g 2 rfl ?_; first | apply HO_a1 rfl | apply HO_o1 rfl) | refine S5 ?_ | (intro hb; try replace hb := simB hb; try exact kill hb))
 have eL : 1 + (List.take ((k + 7) / 8) (be 4 a)).length = (pfB a k).length := by unfold pfB; rw [List.length_cons]; omega
 have eM : [[Value.int .u8 (k : Int)]] ++ List.map bE (List.take ((k + 7) / 8) (be 4 a)) = List.map bE (pfB a k) := by unfold pfB; simp [bE]; omega
 rw [eL, eM]
 (refine SR ?_; unfold RetQ; refine ⟨(A', c'), trivial, rfl, Keeps.skip (Keeps.cons Ent.rfl_ Keeps.nil)⟩)
def adG (l : List UInt8) : Nat := ge (l ++ List.replicate (4 - l.length) 0)
def pfG : List UInt8 → Option (Nat × Nat)
 | [] => none
 | c :: r => if c.toNat ≤ 32 ∧ (c.toNat + 7) / 8 ≤ r.length then some (topN (adG (r.take ((c.toNat + 7) / 8))) c.toNat, c.toNat) else none
theorem ge_zeros (l : List UInt8) : ∀ m : Nat, ge (l ++ List.replicate m 0) = ge l * 256 ^ m := by
 intro m
 induction m with
 | zero => simp
 | succ m ih =>
  rw [List.replicate_succ', ← List.append_assoc, ge_snoc, ih, Nat.pow_succ]
  show ge l * 256 ^ m * 256 + 0 = _
  rw [Nat.add_zero, Nat.mul_assoc]
theorem be_take (a s : Nat) (hs : s ≤ 4) : (be 4 a).take s = be s (a / 256 ^ (4 - s)) := by
 apply List.ext_getElem?
 intro j
 rcases Nat.lt_or_ge j s with h | h
 ·rw [List.getElem?_take_of_lt h, be_get 4 a j (by omega), be_get s _ j h, Nat.div_div_eq_div_mul, ← Nat.pow_add]
  congr 4
  omega
 ·rw [List.getElem?_eq_none (by rw [List.length_take, be_length]; omega), List.getElem?_eq_none (by rw [be_length]; omega)]
theorem adG_be (a k : Nat) (ha : a < 4294967296) (hk : k ≤ 32) (ht : topN a k = a) : adG ((be 4 a).take ((k + 7) / 8)) = a := by
 have hs : (k + 7) / 8 ≤ 4 := by omega
 unfold adG
 have hl : ((be 4 a).take ((k + 7) / 8)).length = (k + 7) / 8 := by rw [List.length_take, be_length]; omega
 rw [hl, ge_zeros, be_take a _ hs, ge_be]
 have hlt : a / 256 ^ (4 - (k + 7) / 8) < 256 ^ ((k + 7) / 8) := by
  rw [Nat.div_lt_iff_lt_mul (Nat.pow_pos (by decide)), ← Nat.pow_add, show (k + 7) / 8 + (4 - (k + 7) / 8) = 4 by omega]
  exact ha
 rw [Nat.mod_eq_of_lt hlt]
 refine Nat.div_mul_cancel ?_
 have hd : 2 ^ (32 - k) ∣ a := ⟨a / 2 ^ (32 - k), by rw [Nat.mul_comm]; exact ht.symm⟩
 refine Nat.dvd_trans ?_ hd
 rw [show (256 : Nat) = 2 ^ 8 from rfl, ← Nat.pow_mul]
 exact Nat.pow_dvd_pow 2 (by omega)
theorem okX_top {a k : Nat} (h : okX a k = true) : topN a k = a ∧ k ≤ 32 := by
 have h2 := okX_len h
 unfold okX at h
 have h := of_decide_eq_true h
 have e : clN (k : Int) = k := by omega
 rw [e] at h
 exact ⟨h.1, by omega⟩
theorem pfG_pfB (a k : Nat) (ha : a < 4294967296) (h : okX a k = true) (r : List UInt8) : pfG (pfB a k ++ r) = some (a, k) ∧ (pfB a k ++ r).drop (1 + (k + 7) / 8) = r := by
 obtain ⟨ht, hk⟩ := okX_top h
 have hl : ((be 4 a).take ((k + 7) / 8)).length = (k + 7) / 8 := by rw [List.length_take, be_length]; omega
 have e1 : (UInt8.ofNat k).toNat = k := by simp; omega
 unfold pfB
 rw [List.cons_append]
 constructor
 ·simp only [pfG, e1]
  rw [if_pos ⟨hk, by rw [List.length_append, hl]; omega⟩, List.take_left' hl, adG_be a k ha hk ht, ht]
 ·rw [Nat.add_comm, List.drop_succ_cons, List.drop_left' hl]
section
variable {m : Md} {P : Program} {N : Nat} {w0 : World} {S0 : Foot} {ops : List Oper} {i : Nat} {lq : List Nat} {env : Env} {ro rw : List SL} {K : Act → World → Prop} {d : Nat} {op : Op} {ty : TypeId} {pos : String} {aft : Array Edge} {g : Option (Nat × Bool)}
theorem HO_sla {T e sz by_ nn b : Nat} {x : Operand} (hT : P.underlying T = some (.array nn e)) [hI : TyInfo P e sz by_]
  (ho : ops[i]? = some ⟨some d, .slice T x none none none, ty, pos, aft, g⟩) (hx : Env.ev env x = some (.pointer (some ⟨b, 0, none⟩))) (hw : wantE ops env g = some true) (hN : Nat.blt d N = true) (hr : rdyB m ops i lq = true)
  (h : HO m P N w0 S0 ops lq ((d, .slice (some ⟨b, 0, none⟩) nn nn) :: env) ro rw K) : HO m P N w0 S0 ops (i :: lq) env ro rw K := by
 refine HO_val ho hw rfl hN hr (fun a w ha hf => ?_) h
 have hI := hI.h
 cases hin : P.info? e with
 | none => simp [hin] at hI
 | some inf =>
  have hsz := run_sizeOf w hin
  have hx' := ha.ev hx
  simp [execOp, Sem.run_bind, Instr.sliceAt, run_underlying hT, hx', Instr.sureAddr, Instr.sliceBounds, hsz, addr_add]
theorem HO_copy {T U e by_ n c n2 c2 b V : Nat} (k k2 : Nat) {A2 : Option Addr} {l2 : List (List Value)} {cs : List Value} {x y : Operand} {rw' : List SL} [hT : TySlice P T e] [hI : TyInfo P e 1 by_]
  (ho : ops[i]? = some ⟨some d, .call { callee := .builtin .copy, args := #[x, y], argTypes := #[T, U] }, ty, pos, aft, g⟩) (hx : Env.ev env x = some (.slice (some ⟨b, 0, none⟩) n c)) (hy : Env.ev env y = some (.slice A2 n2 c2))
  (hk : rw[k]? = some (cel b V cs)) (hn : n = cs.length) (hk2 : ∃ e, (ro ++ rw)[k2]? = some e ∧ (WfL 1 l2 → Ent e (arr idE 1 A2 l2))) (hn2 : n2 = l2.length) (hwf : WfL 1 l2) (hle : n2 ≤ n)
  (hrw : setO rw k (cel b V (l2.flatten ++ cs.drop n2)) = some rw') (hw : wantE ops env g = some true) (hN : Nat.blt d N = true) (hs : soleB m ops i lq = true)
  (h : HO (nmM m) P N w0 S0 ops lq ((d, .int .i64 (n2 : Int)) :: env) ro rw' K) : HO m P N w0 S0 ops (i :: lq) env ro rw K := by
 have hrw := setO_eq hrw
 subst hrw
 refine HO_do (α := Unit) (φ := fun _ => True) (val := fun _ => goInt n2) (rw' := fun _ => rw.set k (cel b V (l2.flatten ++ cs.drop n2))) ho hw hs (by simp only [dOk]; exact hN) (fun w1 S1 a S w nx ha hf hnx => ?_) (fun x hx => h)
 obtain ⟨e0, he0, hent⟩ := hk2
 obtain ⟨F, _, hp0⟩ := hf.see (List.mem_of_getElem? he0)
 have hsrc := hent hwf _ _ hp0
 obtain ⟨A, hA, hp, hss⟩ := set_get hk (cel b V (l2.flatten ++ cs.drop n2)) hf.star
 have hI := hI.h
 have hfl : l2.flatten.length = n2 := by
  rw [← flatMap_idE, flatMap_len (enc := idE) (sz := 1) l2 (fun x hx => (hwf x hx).1), Nat.mul_one, hn2]
 have hmin : Nat.min n2 n = n2 := Nat.min_eq_left hle
 have hone : ∀ v ∈ l2.flatten, v.oneCell' = true := fun v hv => by
  obtain ⟨x, hx, hv⟩ := List.mem_flatten.1 hv
  exact List.all_eq_true.1 (hwf x hx).2 v hv
 have hlast : l2.flatten ++ cs.drop n2 = (([] : List Value) ++ l2.flatten ++ cs.drop (0 + l2.flatten.length)) := by rw [List.nil_append, Nat.zero_add, hfl]
 obtain ⟨w', hrun, h2, h3, h4, h5, h6, h7⟩ : ∃ w', (Builtin.copy_ #[T, U] ty #[.slice (some ⟨b, 0, none⟩) n c, .slice A2 n2 c2]).run P w = .ok (goInt n2) w' ∧ w'.heap[b]? = some (.cells (l2.flatten ++ cs.drop n2).toArray V (0, 0)) ∧ (∀ k, k ≠ b → w'.heap[k]? = w.heap[k]?) ∧ w'.heap.size = w.heap.size ∧ w'.os = w.os ∧ w'.tape = w.tape ∧ w'.output = w.output := by
  cases hin : P.info? e with
  | none => simp [hin] at hI
  | some inf =>
   simp [hin] at hI
   have hsz := run_sizeOf w hin
   by_cases h0 : l2 = []
   ·subst h0
    have hz : n2 = 0 := by simpa using hn2
    subst hz
    refine ⟨w, ?_, ?_, fun _ _ => rfl, rfl, rfl, rfl, rfl⟩
    ·cases A2 <;> simp [Builtin.copy_, Sem.run_bind, run_underlying hT.h, Builtin.lenOf, Builtin.firstCells, hsz, loadCells, loadCellsFrom, storeCells]
    ·simpa using hp.2
   ·obtain ⟨ad, hA2, _, hc⟩ := hsrc h0
    subst hA2
    have hfit : 0 + l2.flatten.length ≤ cs.toArray.size := by rw [hfl, Nat.zero_add, List.size_toArray]; omega
    have hr := run_copy_row P w T U ty e b 0 n c ad n2 c2 cs.toArray V l2.flatten hT.h (by simp [hin, hI.1]) hp.2 (by rw [hfl, hmin]) (fun j v hj => by
     have hjl : j < l2.length := by
      have := (List.getElem?_eq_some_iff.1 hj).1
      omega
     obtain ⟨xr, hxr⟩ : ∃ xr, l2[j]? = some xr := ⟨l2[j], List.getElem?_eq_getElem hjl⟩
     have hxw := hwf xr (List.mem_of_getElem? hxr)
     match xr, hxr, hxw with
     | [u], hxr, hxw =>
      have h1 := hc j [u] hxr 0 u rfl
      have h9 := flatMap_at (enc := idE) (sz := 1) l2 (fun x hx => (hwf x hx).1) j [u] hxr 0 u rfl
      rw [flatMap_idE] at h9
      simp only [Nat.mul_one, Nat.add_zero] at h9 h1
      rw [hj] at h9
      injection h9 with h9
      rw [h9]
      exact h1
     | [], _, hxw => simp at hxw
     | _ :: _ :: _, _, hxw => simp at hxw) hfit hone
    rw [hfl] at hr
    refine ⟨_, hr, ?_, fun c hc => setRow_other w b c _ hc, ?_, rfl, rfl, rfl⟩
    ·rw [setRow_heap w b cs.toArray _ V (0, 0) hp.2]
     simp
    ·simp [World.setRow]
 have hst : Star (rw.set k (cel b V (l2.flatten ++ cs.drop n2))) S w' := hss w' (fun c hc hn' => by
   by_cases hcb : c = b
   ·subst hcb; exact absurd hp.1 hn'
   ·exact h3 c hcb) ⟨hp.1, h2⟩
 unfold Oper.wp
 rw [show (execOp a.eval ⟨some d, .call { callee := .builtin .copy, args := #[x, y], argTypes := #[T, U] }, ty, pos, aft, g⟩).run P w = .ok (.value (goInt n2)) w' by
  simp [execOp, resolve, invoke, builtin, Sem.run_bind, ha.ev hx, ha.ev hy, hrun], Oper.upon_value]
 refine hnx () S w' trivial ⟨⟨h5.trans hf.fr.os, h6.trans hf.fr.tape, h7.trans hf.fr.output, by have := hf.fr.size; omega, fun c hc hn' => ?_⟩, fun c hc => by have := hf.lt c hc; omega, hf.sub, hst, fun e he => ?_⟩
 ·by_cases hcb : c = b
  ·subst hcb
   exact absurd ((hf.sub c (hA c hp.1)).resolve_left hn') (by omega)
  ·exact (h3 c hcb).trans (hf.fr.block c hc hn')
 ·obtain ⟨F, hF, hpe⟩ := hf.ros e he
  refine ⟨F, fun c hc => ⟨by have := (hF c hc).1; omega, (hF c hc).2⟩, e.st F w w' (fun c hc => ?_) hpe⟩
  by_cases hcb : c = b
  ·subst hcb; exact absurd (hA c hp.1) (hF c hc).2
  ·exact h3 c hcb
theorem cel_row {b V : Nat} {l : List UInt8} {cs : List Value} (h : cs = l.flatMap bE) : Ent (cel b V cs) (arr bE 1 (some ⟨b, 0, none⟩) l) := fun S w hp hl => by
 refine ⟨⟨b, 0, none⟩, rfl, hp.1, fun q x hq k u hk => ?_⟩
 rw [addr_add, Nat.zero_add, cel_cell hp, h]
 exact flatMap_at (enc := bE) (sz := 1) l (fun _ _ => rfl) q x hq k u hk
end
theorem und199 : Tryz.prog.underlying 336 = some (.array 4 5) := by kernel_rfl
theorem zeros_drop : ∀ n, n ≤ 4 → List.drop n [Value.int .u8 0, Value.int .u8 0, Value.int .u8 0, Value.int .u8 0] = (List.replicate (4 - n) (0 : UInt8)).flatMap bE := by
 intro n h
 match n, h with
 | 0, _ => rfl
 | 1, _ => rfl
 | 2, _ => rfl
 | 3, _ => rfl
 | 4, _ => rfl
theorem four_cells (l : List UInt8) (h : l.length ≤ 4) : (l.map bE).flatten ++ List.drop l.length [Value.int .u8 0, Value.int .u8 0, Value.int .u8 0, Value.int .u8 0] = (l ++ List.replicate (4 - l.length) (0 : UInt8)).flatMap bE := by
 rw [zeros_drop _ h, List.flatMap_append]
 rfl
theorem adG_lt (l : List UInt8) (h : l.length ≤ 4) : adG l < 4294967296 := by
 have h1 := ge_lt (l ++ List.replicate (4 - l.length) 0)
 have h2 : (l ++ List.replicate (4 - l.length) (0 : UInt8)).length = 4 := by simp; omega
 rw [h2] at h1
 exact h1
theorem four_get (l : List UInt8) (h : l.length ≤ 4) : ngetR (l ++ List.replicate (4 - l.length) 0) = (((adG l : Nat) : Int), 0) := by
 have hl : (l ++ List.replicate (4 - l.length) (0 : UInt8)).length = 4 := by rw [List.length_append, List.length_replicate]; omega
 unfold ngetR adG
 rw [if_neg (by rw [hl]; omega)]
theorem clN_nat (k : Nat) (h : k ≤ 32) : clN (k : Int) = k := by
 unfold clN
 rw [if_neg (by omega), if_neg (by omega)]
 rfl
set_option maxHeartbeats 8000000 in
theorem pget_bad (A : Option Addr) (c : Nat) (l : List UInt8) (hb : l.length ≤ 100000) (h : pfG l = none) :
  Tri Tryz.prog 247 [.slice A l.length c] [arr bE 1 A l] [] (fun _ : Unit => True) (fun _ => .tuple #[pfV 0 0, .int .i64 0, .int .i64 20]) (fun _ => []) := by
 have hfrom := nfrom_t A l.length c l rfl (by omega)
 rcases l with _ | ⟨k, r⟩
 ·have hs := psize_t 0 (by decide)
  refine Tri_of (N := Tryz.f247.ntmps) (c := bodyOf Tryz.f247) Tryz.func247 rfl rfl rfl rfl (fun w0 S0 => ?_)
  repeat' (first | refine SW ?_ | refine SD ?_ | (refine HO_k 13 rfl ?_; refine HO_sla und199 rfl rfl rfl rfl rdA ?_) | (refine HO_k 12 rfl ?_; refine HO_call rfl rfl rfl rfl (hfrom) rfl (srcsA) rfl rfl soA ?_; intro ⟨rb, ⟨rA, rc⟩⟩ hr; dsimp only [rdP, pt, lca, lna]) | (refine HO_k 12 rfl ?_; refine HO_call rfl rfl rfl rfl (num0_t rb rA rc) rfl (trivial) rfl rfl soA ?_; intro ⟨xA, xc⟩ hx1; dsimp only [rdP, pt, lca, lna]) | (refine HO_k 12 rfl ?_; refine HO_callq rfl rfl rfl rfl (hs) (fun _ _ => rfl) (trivial) rfl rfl sqA ?_) | (refine HO_k 12 rfl ?_; refine HO_mv 2 rfl rfl ?_; refine HO_mv 2 rfl rfl ?_; refine HO_call rfl rfl rfl rfl (bytesB_t rb xA xc [] 0 (by simp) hx1) rfl (trivial) rfl rfl soA ?_; intro ⟨⟨uA, uc⟩, ⟨vA, vc⟩⟩ hu1; dsimp only [rdP, pt, lca, lna]) | (refine HO_k 19 rfl ?_; refine HO_copy 3 1 rfl rfl rfl rfl rfl (src_right (k := 0) rfl) rfl WfL.nil (by decide) rfl rfl rfl soA ?_) | (refine HO_k 12 rfl ?_; refine HO_callq rfl rfl rfl rfl (nbad_t _ _ _ _ _) (fun _ _ => rfl) (srcsA) rfl rfl sqA ?_) | exact HO_seg rfl rfl | refine S1 ?_ | (refine S2 ?_; intro _) | (refine S3 ?_; intro _ _) | (refine S4 ?_; intro _ _ _) | (refine HO_g 2 rfl ?_; first | apply HO_a1 rfl | apply HO_o1 rfl) | refine S5 ?_ | (intro hb; try replace hb := simB hb; try exact kill hb))
  (refine SR ?_; unfold RetQ; refine ⟨(), trivial, ?_, Keeps.nil⟩)
  rfl
 have hk := k.toNat_lt
 simp only [List.length_cons] at hb
 by_cases h32 : 32 < k.toNat
 ·refine Tri_of (N := Tryz.f247.ntmps) (c := bodyOf Tryz.f247) Tryz.func247 rfl rfl rfl rfl (fun w0 S0 => ?_)
  repeat' (first | refine SW ?_ | refine SD ?_ | (refine HO_k 12 rfl ?_; refine HO_call rfl rfl rfl rfl (hfrom) rfl (srcsA) rfl rfl soA ?_; intro ⟨rb, ⟨rA, rc⟩⟩ hr; dsimp only [rdP, pt, lca, lna]) | (refine HO_k 12 rfl ?_; refine HO_call rfl rfl rfl rfl (num1_t rb rA rc k r (by omega) (by simpa using hr)) rfl (trivial) rfl rfl soA ?_; intro ⟨xA, xc⟩ hx1; dsimp only [rdP, pt, lca, lna]) | exact HO_seg rfl rfl | refine S1 ?_ | (refine S2 ?_; intro _) | (refine S3 ?_; intro _ _) | (refine S4 ?_; intro _ _ _) | (refine HO_g 2 rfl ?_; first | apply HO_a1 rfl | apply HO_o1 rfl) | refine S5 ?_ | (intro hb; try replace hb := simB hb; try exact kill hb))
  (refine SR ?_; unfold RetQ; refine ⟨(), trivial, ?_, Keeps.nil⟩)
  rfl
 have hs := psize_t k.toNat (by omega)
 have hsh : r.length < (k.toNat + 7) / 8 := by
  simp only [pfG] at h
  split at h
  ·cases h
  ·rename_i hn
   exact Nat.lt_of_not_le fun hle => hn ⟨by omega, hle⟩
 refine Tri_of (N := Tryz.f247.ntmps) (c := bodyOf Tryz.f247) Tryz.func247 rfl rfl rfl rfl (fun w0 S0 => ?_)
 repeat' (first | refine SW ?_ | refine SD ?_ | (refine HO_k 13 rfl ?_; refine HO_sla und199 rfl rfl rfl rfl rdA ?_) | (refine HO_k 12 rfl ?_; refine HO_call rfl rfl rfl rfl (hfrom) rfl (srcsA) rfl rfl soA ?_; intro ⟨rb, ⟨rA, rc⟩⟩ hr; dsimp only [rdP, pt, lca, lna]) | (refine HO_k 12 rfl ?_; refine HO_call rfl rfl rfl rfl (num1_t rb rA rc k r (by omega) (by simpa using hr)) rfl (trivial) rfl rfl soA ?_; intro ⟨xA, xc⟩ hx1; dsimp only [rdP, pt, lca, lna]) | (refine HO_k 12 rfl ?_; refine HO_callq rfl rfl rfl rfl (hs) (fun _ _ => rfl) (trivial) rfl rfl sqA ?_) | (refine HO_k 12 rfl ?_; refine HO_mv 2 rfl rfl ?_; refine HO_mv 2 rfl rfl ?_; refine HO_call rfl rfl rfl rfl (bytesS_t rb xA xc r _ hsh (by omega) hx1) rfl (trivial) rfl rfl soA ?_; intro ⟨⟨uA, uc⟩, ⟨vA, vc⟩⟩ hu1; dsimp only [rdP, pt, lca, lna]) | (refine HO_k 19 rfl ?_; refine HO_copy 3 1 rfl rfl rfl rfl rfl (src_right (k := 0) rfl) rfl WfL.nil (by decide) rfl rfl rfl soA ?_) | (refine HO_k 12 rfl ?_; refine HO_callq rfl rfl rfl rfl (nbad_t _ _ _ _ _) (fun _ _ => rfl) (srcsA) rfl rfl sqA ?_) | exact HO_seg rfl rfl | refine S1 ?_ | (refine S2 ?_; intro _) | (refine S3 ?_; intro _ _) | (refine S4 ?_; intro _ _ _) | (refine HO_g 2 rfl ?_; first | apply HO_a1 rfl | apply HO_o1 rfl) | refine S5 ?_ | (intro hb; try replace hb := simB hb; try exact kill hb))
 (refine SR ?_; unfold RetQ; refine ⟨(), trivial, ?_, Keeps.nil⟩)
 rfl
set_option maxHeartbeats 8000000 in
theorem pget_t (A : Option Addr) (c : Nat) (l : List UInt8) (hb : l.length ≤ 100000) (a q : Nat) (h : pfG l = some (a, q)) :
  Tri Tryz.prog 247 [.slice A l.length c] [arr bE 1 A l] [] (fun _ : Unit => True) (fun _ => .tuple #[pfV a q, .int .i64 ((1 + (q + 7) / 8 : Nat)), .int .i64 0]) (fun _ => []) := by
 have hfrom := nfrom_t A l.length c l rfl (by omega)
 rcases l with _ | ⟨k, r⟩
 ·cases h
 have hk := k.toNat_lt
 simp only [List.length_cons] at hb
 simp only [pfG] at h
 split at h
 rotate_left
 ·cases h
 rename_i hc
 injection h with h
 injection h with h1 h2
 subst h1 h2
 obtain ⟨h32, hsl⟩ := hc
 have hs := psize_t k.toNat h32
 obtain ⟨s, hs0⟩ : ∃ s, (k.toNat + 7) / 8 = s := ⟨_, rfl⟩
 have hs4 : s ≤ 4 := by omega
 rw [hs0] at hsl hs ⊢
 have hts : (r.take s).length = s := by rw [List.length_take]; omega
 obtain ⟨t, ht⟩ : ∃ t, r.take s = t := ⟨_, rfl⟩
 have htl : t.length = s := by rw [← ht]; exact hts
 have ht4 : t.length ≤ 4 := by omega
 have hby := fun b B cc hcc => bytesL_t b B cc r s hsl (by omega) hcc
 rw [ht] at hby ⊢
 have hcell := four_cells t ht4
 have hlt := adG_lt t ht4
 have hg := fun B c => nget_t B 4 c (t ++ List.replicate (4 - t.length) 0) (by simp; omega)
 rw [four_get t ht4] at hg
 have hmk := amake_t (adG t) hlt k.toNat
 rw [clN_nat _ h32] at hmk
 dsimp only [pfV] at hmk ⊢
 refine Tri_of (N := Tryz.f247.ntmps) (c := bodyOf Tryz.f247) Tryz.func247 rfl rfl rfl rfl (fun w0 S0 => ?_)
 repeat' (first | refine SW ?_ | refine SD ?_ | (refine HO_k 13 rfl ?_; refine HO_sla und199 rfl rfl rfl rfl rdA ?_) | (refine HO_k 12 rfl ?_; refine HO_call rfl rfl rfl rfl (hfrom) rfl (srcsA) rfl rfl soA ?_; intro ⟨rb, ⟨rA, rc⟩⟩ hr; dsimp only [rdP, pt, lca, lna]) | (refine HO_k 12 rfl ?_; refine HO_call rfl rfl rfl rfl (num1_t rb rA rc k r (by omega) (by simpa using hr)) rfl (trivial) rfl rfl soA ?_; intro ⟨xA, xc⟩ hx1; dsimp only [rdP, pt, lca, lna]) | (refine HO_k 12 rfl ?_; refine HO_callq rfl rfl rfl rfl (hs) (fun _ _ => rfl) (trivial) rfl rfl sqA ?_) | (refine HO_k 12 rfl ?_; refine HO_mv 2 rfl rfl ?_; refine HO_mv 2 rfl rfl ?_; refine HO_call rfl rfl rfl rfl (hby rb xA xc hx1) rfl (trivial) rfl rfl soA ?_; intro ⟨⟨uA, uc⟩, ⟨vA, vc⟩⟩ hu1; dsimp only [rdP, pt, lca, lna]) | (refine HO_k 19 rfl ?_; refine HO_copy 3 1 rfl rfl rfl rfl rfl (src_right (k := 0) rfl) (by simp) WfL.map (by omega) rfl rfl rfl soA ?_) | (refine HO_k 12 rfl ?_; refine HO_callq rfl rfl rfl rfl (nbad_t _ _ _ _ _) (fun _ _ => rfl) (srcsA) rfl rfl sqA ?_) | (refine HO_k 12 rfl ?_; refine HO_callq rfl rfl rfl rfl (hg _ _) (fun _ _ => rfl) (by first | exact AllSrc.via 1 rfl (cel_row hcell) trivial | exact AllSrc.via 2 rfl (cel_row hcell) trivial | exact AllSrc.via 3 rfl (cel_row hcell) trivial | exact AllSrc.via 4 rfl (cel_row hcell) trivial | exact AllSrc.via 5 rfl (cel_row hcell) trivial) rfl rfl sqA ?_) | (refine HO_k 12 rfl ?_; refine HO_callq rfl rfl rfl rfl (hmk) (fun _ _ => rfl) (trivial) rfl rfl sqA ?_) | exact HO_seg rfl rfl | refine S1 ?_ | (refine S2 ?_; intro _) | (refine S3 ?_; intro _ _) | (refine S4 ?_; intro _ _ _) | (refine HO_g 2 rfl ?_; first | apply HO_a1 rfl | apply HO_o1 rfl) | refine S5 ?_ | (intro hb; try replace hb := simB hb; try exact kill hb))
 (refine SR ?_; unfold RetQ; refine ⟨(), trivial, ?_, Keeps.nil⟩)
 rfl
theorem S5n {p q : Prop} (hq : q) (h : q → p := by
 intro hq
 first
 | exact HX_then hq
 | exact HC_seq rfl hq
 | exact HC_ord rfl rfl rfl rfl hq
 | exact HC_block rfl hq
 | exact HC_scope rfl hq
 | exact HC_skip rfl hq
 | exact HC_label rfl hq
 | exact HC_exit rfl hq
 | exact HC_ret rfl hq
 | exact HC_condT rfl rfl hq
 | exact HC_condF rfl rfl hq
 | exact HX_block_normal hq
 | exact HX_block_ret hq
 | exact HX_then_ret hq
 | exact HX_then_exit hq
 | exact HX_block_hit rfl hq
 | exact HX_block_miss rfl hq
 | exact HX_scope_normal hq
 | exact HX_scope_ret hq
 | exact HX_scope_exit hq) : p := h hq
def pgV : Option (Nat × Nat) → Value
 | none => .tuple #[pfV 0 0, .int .i64 0, .bool false]
 | some (a, q) => .tuple #[pfV a q, .int .i64 ((1 + (q + 7) / 8 : Nat)), .bool true]
theorem pad4 (t : List UInt8) (h : t.length ≤ 4) : (t ++ [0, 0, 0, 0]).take 4 = t ++ List.replicate (4 - t.length) 0 := by
 rw [List.take_append, List.take_of_length_le h]
 have hn : 4 - t.length = 0 ∨ 4 - t.length = 1 ∨ 4 - t.length = 2 ∨ 4 - t.length = 3 ∨ 4 - t.length = 4 := by omega
 rcases hn with e | e | e | e | e <;> rw [e] <;> rfl
theorem HC_knowH {P : Program} {N : Nat} {w0 : World} {S0 : Foot} {c : Code} {env : Env} {ro rw : List SL} {C : Prop} {Q : Exit → Act → World → Prop} (hC : ∀ w, RoOk (ro ++ rw) w → C) (h : C → HC P N w0 S0 c env ro rw Q) : HC P N w0 S0 c env ro rw Q := by
 unfold HC at h ⊢
 exact fun a S w ha hf => h (hC w hf.roOk) a S w ha hf
set_option maxHeartbeats 16000000 in
theorem rpget_t (A : Option Addr) (c : Nat) (l : List UInt8) (hb : l.length ≤ 1000000000) (hc : l.length ≤ c) :
  Tri Tryz.prog 184 [.slice A l.length c] [arr bE 1 A l] [] (fun _ : Unit => True) (fun _ => pgV (pfG l)) (fun _ => []) := by
 rcases l with _ | ⟨k, r⟩
 ·refine Tri_of (N := Tryz.f184.ntmps) (c := bodyOf Tryz.f184) Tryz.func184 rfl rfl rfl rfl (fun w0 S0 => ?_)
  repeat' (first | refine SW ?_ | refine SD ?_ | exact HO_seg rfl rfl | refine S1 ?_ | (refine S2 ?_; intro _) | (refine S3 ?_; intro _ _) | (refine S4 ?_; intro _ _ _) | (refine HO_g 2 rfl ?_; first | apply HO_a1 rfl | apply HO_o1 rfl) | refine S5 ?_ | (intro hb; try replace hb := simB hb; try exact kill hb))
  (refine SR ?_; unfold RetQ; refine ⟨(), trivial, ?_, Keeps.nil⟩)
  rfl
 have hk := k.toNat_lt
 simp only [List.length_cons] at hb hc
 have hkr : (k :: r).length = r.length + 1 := rfl
 by_cases h32 : 32 < k.toNat
 ·rw [show pfG (k :: r) = none from if_neg (fun h => by omega)]
  refine Tri_of (N := Tryz.f184.ntmps) (c := bodyOf Tryz.f184) Tryz.func184 rfl rfl rfl rfl (fun w0 S0 => ?_)
  repeat' (first | refine SW ?_ | refine SD ?_ | exact HO_seg rfl rfl | refine S1 ?_ | (refine S2 ?_; intro _) | (refine S3 ?_; intro _ _) | (refine S4 ?_; intro _ _ _) | (refine HO_g 2 rfl ?_; first | apply HO_a1 rfl | apply HO_o1 rfl) | refine S5 ?_ | (intro hb; try replace hb := simB hb; try exact kill hb))
  (refine SR ?_; unfold RetQ; refine ⟨(), trivial, ?_, Keeps.nil⟩)
  rfl
 have h8 := quo8 k.toNat (by omega)
 by_cases hsh : r.length < (k.toNat + 7) / 8
 ·rw [show pfG (k :: r) = none from if_neg (fun h => by omega)]
  refine Tri_of (N := Tryz.f184.ntmps) (c := bodyOf Tryz.f184) Tryz.func184 rfl rfl rfl rfl (fun w0 S0 => ?_)
  repeat' (first | refine SW ?_ | refine SD ?_ | (with_reducible refine HO_rw (congrArg (Value.int .i64) h8) ?_) | exact HO_seg rfl rfl | refine S1 ?_ | (refine S2 ?_; intro _) | (refine S3 ?_; intro _ _) | (refine S4 ?_; intro _ _ _) | (refine HO_g 2 rfl ?_; first | apply HO_a1 rfl | apply HO_o1 rfl) | refine S5 ?_ | (intro hb; try replace hb := simB hb; try exact kill hb))
  (refine SR ?_; unfold RetQ; refine ⟨(), trivial, ?_, Keeps.nil⟩)
  rfl
 rw [show pfG (k :: r) = some (topN (adG (r.take ((k.toNat + 7) / 8))) k.toNat, k.toNat) from if_pos ⟨by omega, by omega⟩]
 dsimp only [pgV, pfV]
 obtain ⟨s, hs0⟩ : ∃ s, (k.toNat + 7) / 8 = s := ⟨_, rfl⟩
 have hs4 : s ≤ 4 := by omega
 rw [hs0] at hsh h8 ⊢
 obtain ⟨t, ht⟩ : ∃ t, r.take s = t := ⟨_, rfl⟩
 have htl : t.length = s := by rw [← ht, List.length_take]; omega
 have ht4 : t.length ≤ 4 := by omega
 rw [ht]
 have hlt := adG_lt t ht4
 have h1s : (1 : Int) + ((s : Nat) : Int) = ((1 + s : Nat) : Int) := by omega
 have hg := fun B cc => rget_t B 4 cc ((t ++ [0, 0, 0, 0]).take 4) (by rw [pad4 t ht4]; simp; omega) (by rw [pad4 t ht4]; simp; omega)
 have hgv : ge ((t ++ [0, 0, 0, 0]).take 4) = adG t := by rw [pad4 t ht4]; rfl
 rw [hgv] at hg
 have hmk := rmake_t (adG t) hlt k.toNat
 rw [clN_nat _ (by omega)] at hmk
 dsimp only [pfV] at hmk
 refine Tri_of (N := Tryz.f184.ntmps) (c := bodyOf Tryz.f184) Tryz.func184 rfl rfl rfl rfl (fun w0 S0 => ?_)
 repeat' (first | refine SW ?_ | refine SD ?_ | (with_reducible refine HO_rw (congrArg (Value.int .i64) h8) ?_) | (with_reducible refine HO_rw (congrArg (Value.int .i64) h1s) ?_) | exact HO_seg rfl rfl | refine S1 ?_ | (refine S2 ?_; intro _) | (refine S3 ?_; intro _ _) | (refine S4 ?_; intro _ _ _) | (refine HO_g 2 rfl ?_; first | apply HO_a1 rfl | apply HO_o1 rfl) | refine S5n ?_ | (intro hb; try replace hb := simB hb; try exact kill hb))
 have hq : (((1 + s : Nat) : Int)).toNat - Int.toNat 1 = t.length := by rw [htl]; omega
 rw [hq]
 refine HO_k 11 rfl ?_
 refine HO_app (k := 0) (k2 := 0) (l2 := t.map bE) rfl rfl rfl rfl rfl rfl rfl rfl ⟨_, rfl, fun _ S w h => arr_raw S w (by rw [← ht]; exact arr_cut c 1 s (fun e => by omega) S w h)⟩ (by simp) WfL.map rfl rfl (by simp; omega) (by simp; omega) rfl rfl rfl soA ?_
 intro A1 c1
 repeat' (first | refine SW ?_ | refine SD ?_ | exact HO_seg rfl rfl | refine S1 ?_ | (refine S2 ?_; intro _) | (refine S3 ?_; intro _ _) | (refine S4 ?_; intro _ _ _) | (refine HO_g 2 rfl ?_; first | apply HO_a1 rfl | apply HO_o1 rfl) | refine S5n ?_ | (intro hb; try replace hb := simB hb; try exact kill hb))
 rename_i b0 b1 b2 A2 c2
 have eM : [] ++ List.map bE t ++ [[Value.int .u8 0], [Value.int .u8 0], [Value.int .u8 0], [Value.int .u8 0]] = List.map bE (t ++ [0, 0, 0, 0]) := by rw [List.map_append]; rfl
 have eL : 0 + t.length + 4 = (t ++ [0, 0, 0, 0]).length := by rw [List.length_append]; simp
 rw [eM, eL]
 refine HC_knowH (C := (t ++ [0, 0, 0, 0]).length ≤ c2) (fun w h => own_cap 1 rfl h) (fun hc2 => ?_)
 rw [← eL] at hc2
 have h4c : 4 ≤ c2 := by omega
 repeat' (first | refine SW ?_ | refine SD ?_ | (with_reducible refine HO_rw (congrArg (Value.int .i64) h1s) ?_) | (refine HO_k 12 rfl ?_; refine HO_callq rfl rfl rfl rfl (hg _ _) (fun _ _ => rfl) (AllSrc.via 1 rfl (fun S w h => arr_take 4 S w (own_e S w h)) trivial) rfl rfl sqA ?_) | (refine HO_k 12 rfl ?_; refine HO_callq rfl rfl rfl rfl (hmk) (fun _ _ => rfl) (trivial) rfl rfl sqA ?_) | exact HO_seg rfl rfl | refine S1 ?_ | (refine S2 ?_; intro _) | (refine S3 ?_; intro _ _) | (refine S4 ?_; intro _ _ _) | (refine HO_g 2 rfl ?_; first | apply HO_a1 rfl | apply HO_o1 rfl) | refine S5 ?_ | (intro hb; try replace hb := simB hb; try exact kill hb))
 (refine SR ?_; unfold RetQ; refine ⟨(), trivial, ?_, Keeps.nil⟩)
 rfl
end Go.Proofs.YtbhiojedmkcfoaaGreatDoor
