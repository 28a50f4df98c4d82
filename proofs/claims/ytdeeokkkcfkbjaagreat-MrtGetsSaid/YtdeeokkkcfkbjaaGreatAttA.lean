/- num's functions on bytes: what each computes. -/
import Derived.Test.YtdeeokkkcfkbjaaGreatAtt0
namespace Go.Proofs.YtdeeokkkcfkbjaaGreat
set_option linter.unusedVariables false
set_option linter.unusedSimpArgs false
open Go.RowKit
attribute [local irreducible] HC HX HO Tri eP adr

theorem put_row (w k j : Nat) (hj : j ≤ w) : w = (((be w k).take j ++ List.replicate (w - j) 0).map bE).length := by
  simp [be_length]; omega
theorem put_at (w k j : Nat) (hj : j < w) : (((be w k).take j ++ List.replicate (w - j) (0 : UInt8)).map bE)[j]? = some (bE 0) := by
  have hl : ((be w k).take j).length = j := by simp [be_length]; omega
  rw [List.getElem?_map, List.getElem?_append_right (by omega), hl, Nat.sub_self, List.getElem?_replicate, if_pos (by omega)]
  rfl
theorem put_step (w k j : Nat) (hj : j < w) (h4 : w ≤ 4) (v : List Value) (hv : v = bE (UInt8.ofNat (k / 256 ^ (w - 1 - j)))) :
    (((be w k).take j ++ List.replicate (w - j) (0 : UInt8)).map bE).set j v = ((be w k).take (j + 1) ++ List.replicate (w - (j + 1)) 0).map bE := by
  have hl : ((be w k).take j).length = j := by simp [be_length]; omega
  have h1 : (be w k).take (j + 1) = (be w k).take j ++ [UInt8.ofNat (k / 256 ^ (w - 1 - j))] := by
    rw [List.take_add_one, be_get w k j hj]; rfl
  have h2 : List.replicate (w - j) (0 : UInt8) = 0 :: List.replicate (w - (j + 1)) 0 := by
    rw [show w - j = (w - (j + 1)) + 1 by omega, List.replicate_succ]
  rw [h1, h2, List.map_append, List.map_append, List.map_append, List.set_append_right _ _ (by rw [List.length_map, hl]; exact Nat.le_refl _), List.length_map, hl, Nat.sub_self, hv]
  simp
theorem shr_byte (w k j : Nat) (hj : j < w) (h4 : w ≤ 4) : [Value.int .u8 (IntKind.u8.wrap (bShr .i64 (k : Int) (8 * ((w : Int) - 1 - j)).toNat))] = bE (UInt8.ofNat (k / 256 ^ (w - 1 - j))) := by
  rw [shr_nat _ _ (by omega), u8_wrap _ (Int.natCast_nonneg _), Int.toNat_natCast]
  have : (8 * ((w : Int) - 1 - j)).toNat = 8 * (w - 1 - j) := by omega
  rw [this, Nat.pow_mul]
  rfl

/-- num.Put -/
theorem nput_ok (w k : Nat) (h1 : 1 ≤ w) (h4 : w ≤ 4) (hk : k < 256 ^ w) :
    Tri Tryz.prog 75 [.int .i64 k, .int .i64 w] [] [] (fun _ : OA => True) (fun x => .tuple #[.slice x.1 w x.2, .int .i64 0]) (fun x => [own idE 5 1 x.1 w x.2 ((be w k).map bE)]) := by
  have hsh : bShr .i64 (k : Int) (8 * w) = 0 := by
    rw [shr_nat _ _ (by omega)]
    have : (256 : Nat) ^ w = 2 ^ (8 * w) := by rw [show (256 : Nat) = 2 ^ 8 from rfl, ← Nat.pow_mul]
    rw [this] at hk
    simp [Nat.div_eq_of_lt hk]
  refine Tri_of (N := Tryz.f75.ntmps) (c := bodyOf Tryz.f75) Tryz.func75 rfl rfl rfl rfl (fun w0 S0 => ?_)
  repeat' (first | refine SW ?_ | refine SD ?_ | exact HO_seg rfl rfl | refine S1 ?_ | (refine S2 ?_; intro _) | (refine S3 ?_; intro _ _) | (refine S4 ?_; intro _ _ _) | (refine HO_g 2 rfl ?_; (first | apply HO_and rfl rfl rfl rfl rfl rfl rfl rfl rfl | apply HO_or rfl rfl rfl rfl rfl rfl rfl rfl rfl)) | refine S5 ?_ | (intro hb; try replace hb := simB hb; try exact kill hb))
  rename_i b
  refine HC_loop (α := Nat) (fun j => j ≤ w) (fun j => [(27, .int .i64 j), (26, .int .i64 w), (6, .slice (some ⟨b, 0, none⟩) w w), (5, .int .i64 0), (0, .int .i64 k), (1, .int .i64 w)])
    (fun j => [own idE 5 1 (some ⟨b, 0, none⟩) w w (((be w k).take j ++ List.replicate (w - j) 0).map bE)]) (fun j => w - j) rfl 0 (Nat.zero_le _) ⟨rfl, rfl, rfl, rfl, rfl, rfl, trivial⟩ (by simp [bE]) ?_
  intro j hj
  rcases Nat.lt_or_ge j w with hlt | hge
  · have hrow := put_row w k j hj
    have hat := put_at w k j hlt
    repeat' (first | refine SW ?_ | refine SD ?_ | exact HO_seg rfl rfl | refine S1 ?_ | (refine S2 ?_; intro _) | (refine S3 ?_; intro _ _) | (refine S4 ?_; intro _ _ _) | (refine HO_g 2 rfl ?_; (first | apply HO_and rfl rfl rfl rfl rfl rfl rfl rfl rfl | apply HO_or rfl rfl rfl rfl rfl rfl rfl rfl rfl)) | refine S5 ?_ | (intro hb; try replace hb := simB hb; try exact kill hb))
    refine HX_keeps (rw' := [own idE 5 1 (some ⟨b, 0, none⟩) w w (((be w k).take (j + 1) ++ List.replicate (w - (j + 1)) 0).map bE)]) (Keeps.own_cons Keeps.nil rfl (by exact put_step w k j hlt h4 _ (shr_byte w k j hlt h4))) ?_
    exact HX_at (j + 1) ⟨hlt, by omega⟩ ⟨rfl, rfl, rfl, rfl, rfl, rfl, trivial⟩ rfl
  · obtain rfl : j = w := by omega
    repeat' (first | refine SW ?_ | refine SD ?_ | exact HO_seg rfl rfl | refine S1 ?_ | (refine S2 ?_; intro _) | (refine S3 ?_; intro _ _) | (refine S4 ?_; intro _ _ _) | (refine HO_g 2 rfl ?_; (first | apply HO_and rfl rfl rfl rfl rfl rfl rfl rfl rfl | apply HO_or rfl rfl rfl rfl rfl rfl rfl rfl rfl)) | refine S5 ?_ | (intro hb; try replace hb := simB hb; try exact kill hb))
    ((first | apply HX_ret | apply HX_retn); (repeat (first | exact Res_nil | apply Res_tmp rfl | apply Res_ce rfl rfl rfl)); unfold RetQ; apply Exists.intro (Prod.mk _ _); refine ⟨trivial, ?_, ?_⟩; rotate_left 1; (repeat (first | exact Keeps.nil | refine Keeps.own_cons ?_ ?_ ?_ | refine Keeps.arr_cons ?_ ?_ | refine Keeps.cons Ent.rfl_ ?_ | refine Keeps.skip ?_ | refine Keeps.own_none ?_ ?_ ?_ | refine Keeps.arr_none ?_ ?_)))
    all_goals first | rfl | simp [be_length, List.take_of_length_le]

def nputR (n w : Int) : List UInt8 × Int := if w < 1 ∨ 4 < w then ([], 1) else if n < 0 ∨ (256 ^ w.toNat : Nat) ≤ n then ([], 10) else (be w.toNat n.toNat, 0)
theorem nput_t (n w : Int) : Tri Tryz.prog 75 [.int .i64 n, .int .i64 w] [] [] (fun _ : OA => True) (fun x => .tuple #[.slice x.1 (nputR n w).1.length x.2, .int .i64 (nputR n w).2]) (fun x => [ownB x (nputR n w).1]) := by
  by_cases hw : w < 1 ∨ 4 < w
  · have e : nputR n w = ([], 1) := if_pos hw
    rw [e]
    rcases hw with hw | hw
    all_goals refine Tri_of (N := Tryz.f75.ntmps) (c := bodyOf Tryz.f75) Tryz.func75 rfl rfl rfl rfl (fun w0 S0 => ?_)
    all_goals repeat' (first | refine SW ?_ | refine SD ?_ | exact HO_seg rfl rfl | refine S1 ?_ | (refine S2 ?_; intro _) | (refine S3 ?_; intro _ _) | (refine S4 ?_; intro _ _ _) | (refine HO_g 2 rfl ?_; (first | apply HO_and rfl rfl rfl rfl rfl rfl rfl rfl rfl | apply HO_or rfl rfl rfl rfl rfl rfl rfl rfl rfl)) | refine S5 ?_ | (intro hb; try replace hb := simB hb; try exact kill hb) | refine HC_cond rfl rfl ?_ ?_)
    all_goals ((first | apply HX_ret | apply HX_retn); (repeat (first | exact Res_nil | apply Res_tmp rfl | apply Res_ce rfl rfl rfl)); unfold RetQ; apply Exists.intro (Prod.mk none 0); refine ⟨trivial, ?_, ?_⟩; rotate_left 1; (repeat (first | exact Keeps.nil | refine Keeps.own_cons ?_ ?_ ?_ | refine Keeps.arr_cons ?_ ?_ | refine Keeps.cons Ent.rfl_ ?_ | refine Keeps.skip ?_ | refine Keeps.own_none ?_ ?_ ?_ | refine Keeps.arr_none ?_ ?_)))
    all_goals rfl
  · obtain ⟨q, rfl⟩ : ∃ q : Nat, w = q := ⟨w.toNat, by omega⟩
    by_cases hn : n < 0 ∨ (256 ^ q : Nat) ≤ n
    · have e : nputR n q = ([], 10) := by unfold nputR; rw [if_neg hw, Int.toNat_natCast, if_pos hn]
      rw [e]
      have hq : 1 ≤ q ∧ q ≤ 4 := by omega
      by_cases h0 : n < 0
      · refine Tri_of (N := Tryz.f75.ntmps) (c := bodyOf Tryz.f75) Tryz.func75 rfl rfl rfl rfl (fun w0 S0 => ?_)
        repeat' (first | refine SW ?_ | refine SD ?_ | exact HO_seg rfl rfl | refine S1 ?_ | (refine S2 ?_; intro _) | (refine S3 ?_; intro _ _) | (refine S4 ?_; intro _ _ _) | (refine HO_g 2 rfl ?_; (first | apply HO_and rfl rfl rfl rfl rfl rfl rfl rfl rfl | apply HO_or rfl rfl rfl rfl rfl rfl rfl rfl rfl)) | refine S5 ?_ | (intro hb; try replace hb := simB hb; try exact kill hb) | refine HC_cond rfl rfl ?_ ?_)
        all_goals ((first | apply HX_ret | apply HX_retn); (repeat (first | exact Res_nil | apply Res_tmp rfl | apply Res_ce rfl rfl rfl)); unfold RetQ; apply Exists.intro (Prod.mk none 0); refine ⟨trivial, ?_, ?_⟩; rotate_left 1; (repeat (first | exact Keeps.nil | refine Keeps.own_cons ?_ ?_ ?_ | refine Keeps.arr_cons ?_ ?_ | refine Keeps.cons Ent.rfl_ ?_ | refine Keeps.skip ?_ | refine Keeps.own_none ?_ ?_ ?_ | refine Keeps.arr_none ?_ ?_)))
        all_goals rfl
      · obtain ⟨k, rfl⟩ : ∃ k : Nat, n = k := ⟨n.toNat, by omega⟩
        have hsh : ¬ bShr .i64 (k : Int) (8 * q) = 0 := by
          rw [shr_nat _ _ (by omega)]
          have : (256 : Nat) ^ q = 2 ^ (8 * q) := by rw [show (256 : Nat) = 2 ^ 8 from rfl, ← Nat.pow_mul]
          rw [this] at hn
          have : 0 < k / 2 ^ (8 * q) := Nat.div_pos (by omega) (Nat.pow_pos (by decide))
          omega
        refine Tri_of (N := Tryz.f75.ntmps) (c := bodyOf Tryz.f75) Tryz.func75 rfl rfl rfl rfl (fun w0 S0 => ?_)
        repeat' (first | refine SW ?_ | refine SD ?_ | exact HO_seg rfl rfl | refine S1 ?_ | (refine S2 ?_; intro _) | (refine S3 ?_; intro _ _) | (refine S4 ?_; intro _ _ _) | (refine HO_g 2 rfl ?_; (first | apply HO_and rfl rfl rfl rfl rfl rfl rfl rfl rfl | apply HO_or rfl rfl rfl rfl rfl rfl rfl rfl rfl)) | refine S5 ?_ | (intro hb; try replace hb := simB hb; try exact kill hb) | refine HC_cond rfl rfl ?_ ?_)
        all_goals ((first | apply HX_ret | apply HX_retn); (repeat (first | exact Res_nil | apply Res_tmp rfl | apply Res_ce rfl rfl rfl)); unfold RetQ; apply Exists.intro (Prod.mk none 0); refine ⟨trivial, ?_, ?_⟩; rotate_left 1; (repeat (first | exact Keeps.nil | refine Keeps.own_cons ?_ ?_ ?_ | refine Keeps.arr_cons ?_ ?_ | refine Keeps.cons Ent.rfl_ ?_ | refine Keeps.skip ?_ | refine Keeps.own_none ?_ ?_ ?_ | refine Keeps.arr_none ?_ ?_)))
        all_goals rfl
    · obtain ⟨k, rfl⟩ : ∃ k : Nat, n = k := ⟨n.toNat, by omega⟩
      have e : nputR k q = (be q k, 0) := by unfold nputR; rw [if_neg hw, Int.toNat_natCast, if_neg hn]; rfl
      rw [e]
      have := nput_ok q k (by omega) (by omega) (by omega)
      simp only [ownB, be_length]
      exact this

/-- num.Get -/
def ngetR (l : List UInt8) : Int × Int := if l.length < 1 ∨ 4 < l.length then (0, 10) else (ge l, 0)
theorem or_byte (l : List UInt8) (b : UInt8) (hl : l.length < 4) : bOr .u32 (bShl .u32 (ge l : Int) 8) (IntKind.u32.wrap (b.toNat : Int)) = ((ge (l ++ [b]) : Nat) : Int) := by
  have h1 := ge_lt l
  have h2 : ge l < 256 ^ 3 := Nat.lt_of_lt_of_le h1 (Nat.pow_le_pow_right (by decide) (by omega))
  have hb := b.toNat_lt
  have e1 : bShl .u32 (ge l : Int) 8 = ((ge l * 256 : Nat) : Int) := by
    unfold bShl
    simp [IntKind.bits, IntKind.wrap, IntKind.signed]
    omega
  have e2 : IntKind.u32.wrap (b.toNat : Int) = (b.toNat : Int) := by simp [IntKind.bits, IntKind.wrap, IntKind.signed]; omega
  have e3 : bOr .u32 ((ge l * 256 : Nat) : Int) (b.toNat : Int) = ((ge l * 256 ||| b.toNat : Nat) : Int) := by
    have hx : ge l * 256 ||| b.toNat < 2 ^ 32 := Nat.or_lt_two_pow (by omega) (by omega)
    unfold bOr
    rw [BitVec.ofInt_natCast, BitVec.ofInt_natCast, BitVec.toNat_or, BitVec.toNat_ofNat, BitVec.toNat_ofNat]
    rw [Nat.mod_eq_of_lt (show ge l * 256 < 2 ^ IntKind.u32.bits by simp [IntKind.bits]; omega), Nat.mod_eq_of_lt (show b.toNat < 2 ^ IntKind.u32.bits by simp [IntKind.bits]; omega)]
    simp [IntKind.bits, IntKind.wrap, IntKind.signed]
    omega
  rw [e1, e2, e3, ge_snoc]
  congr 1
  have := Nat.shiftLeft_add_eq_or_of_lt (show b.toNat < 2 ^ 8 from hb) (ge l)
  rw [Nat.shiftLeft_eq] at this
  exact this.symm
theorem nget_t (A : Option Addr) (n c : Nat) (l : List UInt8) (hn : n = l.length) :
    Tri Tryz.prog 74 [.slice A n c] [arr bE 1 A l] [] (fun _ : Unit => True) (fun _ => .tuple #[.int .i64 (ngetR l).1, .int .i64 (ngetR l).2]) (fun _ => []) := by
  by_cases hl : l.length < 1 ∨ 4 < l.length
  · rw [show ngetR l = (0, 10) from if_pos hl]
    refine Tri_of (N := Tryz.f74.ntmps) (c := bodyOf Tryz.f74) Tryz.func74 rfl rfl rfl rfl (fun w0 S0 => ?_)
    repeat' (first | refine SW ?_ | refine SD ?_ | exact HO_seg rfl rfl | refine S1 ?_ | (refine S2 ?_; intro _) | (refine S3 ?_; intro _ _) | (refine S4 ?_; intro _ _ _) | (refine HO_g 2 rfl ?_; (first | apply HO_and rfl rfl rfl rfl rfl rfl rfl rfl rfl | apply HO_or rfl rfl rfl rfl rfl rfl rfl rfl rfl)) | refine S5 ?_ | (intro hb; try replace hb := simB hb; try exact kill hb) | refine HC_cond rfl rfl ?_ ?_)
    all_goals ((first | apply HX_ret | apply HX_retn); (repeat (first | exact Res_nil | apply Res_tmp rfl | apply Res_ce rfl rfl rfl)); unfold RetQ; refine ⟨(), trivial, ?_, Keeps.nil⟩)
    all_goals rfl
  · rw [show ngetR l = ((ge l : Int), 0) from if_neg hl]
    refine Tri_of (N := Tryz.f74.ntmps) (c := bodyOf Tryz.f74) Tryz.func74 rfl rfl rfl rfl (fun w0 S0 => ?_)
    repeat' (first | refine SW ?_ | refine SD ?_ | exact HO_seg rfl rfl | refine S1 ?_ | (refine S2 ?_; intro _) | (refine S3 ?_; intro _ _) | (refine S4 ?_; intro _ _ _) | (refine HO_g 2 rfl ?_; (first | apply HO_and rfl rfl rfl rfl rfl rfl rfl rfl rfl | apply HO_or rfl rfl rfl rfl rfl rfl rfl rfl rfl)) | refine S5 ?_ | (intro hb; try replace hb := simB hb; try exact kill hb))
    refine HC_loop (α := Nat) (fun j => j ≤ l.length) (fun j => [(17, .int .i64 j), (16, .int .i64 n), (15, .slice A n c), (4, .int .u32 (ge (l.take j))), (3, .int .i64 0)]) (fun _ => []) (fun j => l.length - j) rfl 0 (Nat.zero_le _) ⟨rfl, rfl, rfl, rfl, rfl, trivial⟩ rfl ?_
    intro j hj
    rcases Nat.lt_or_ge j l.length with hlt | hge
    · obtain ⟨b, hb0⟩ : ∃ b, l[j]? = some b := ⟨l[j], List.getElem?_eq_getElem hlt⟩
      repeat' (first | refine SW ?_ | refine SD ?_ | exact HO_seg rfl rfl | refine S1 ?_ | (refine S2 ?_; intro _) | (refine S3 ?_; intro _ _) | (refine S4 ?_; intro _ _ _) | (refine HO_g 2 rfl ?_; (first | apply HO_and rfl rfl rfl rfl rfl rfl rfl rfl rfl | apply HO_or rfl rfl rfl rfl rfl rfl rfl rfl rfl)) | refine S5 ?_ | (intro hb; try replace hb := simB hb; try exact kill hb))
      have e1 : l.take (j + 1) = l.take j ++ [b] := by rw [List.take_add_one, hb0]; rfl
      have e2 := or_byte (l.take j) b (by simp; omega)
      rw [← e1] at e2
      rw [e2]
      exact HX_at (j + 1) ⟨hlt, by omega⟩ ⟨rfl, rfl, rfl, rfl, rfl, trivial⟩ rfl
    · obtain rfl : j = l.length := by omega
      rw [List.take_length]
      have hg := ge_lt l
      have hg4 : ge l < 256 ^ 4 := Nat.lt_of_lt_of_le hg (Nat.pow_le_pow_right (by decide) (by omega))
      clear hg
      repeat' (first | refine SW ?_ | refine SD ?_ | exact HO_seg rfl rfl | refine S1 ?_ | (refine S2 ?_; intro _) | (refine S3 ?_; intro _ _) | (refine S4 ?_; intro _ _ _) | (refine HO_g 2 rfl ?_; (first | apply HO_and rfl rfl rfl rfl rfl rfl rfl rfl rfl | apply HO_or rfl rfl rfl rfl rfl rfl rfl rfl rfl)) | refine S5 ?_ | (intro hb; try replace hb := simB hb; try exact kill hb))
      ((first | apply HX_ret | apply HX_retn); (repeat (first | exact Res_nil | apply Res_tmp rfl | apply Res_ce rfl rfl rfl)); unfold RetQ; refine ⟨(), trivial, ?_, Keeps.nil⟩)
      rfl

/-- slices.Clone of bytes -/
theorem nclone_t (A : Option Addr) (n c : Nat) (l : List UInt8) (hn : n = l.length) (hb : l.length ≤ 1000000000) :
    Tri Tryz.prog 65 [.slice A n c] [arr bE 1 A l] [] (fun x : OA => l.length ≤ x.2) (fun x => .slice x.1 l.length x.2) (fun x => [ownB x l]) := by
  refine Tri_know (C := A = none → l = []) (fun w h => arr_some 0 rfl h) (fun hA => ?_)
  cases A with
  | none =>
    obtain rfl := hA rfl
    refine Tri_of (N := Tryz.f65.ntmps) (c := bodyOf Tryz.f65) Tryz.func65 rfl rfl rfl rfl (fun w0 S0 => ?_)
    repeat' (first | refine SW ?_ | refine SD ?_ | exact HO_seg rfl rfl | refine S1 ?_ | (refine S2 ?_; intro _) | (refine S3 ?_; intro _ _) | (refine S4 ?_; intro _ _ _) | (refine HO_g 2 rfl ?_; (first | apply HO_and rfl rfl rfl rfl rfl rfl rfl rfl rfl | apply HO_or rfl rfl rfl rfl rfl rfl rfl rfl rfl)) | refine S5 ?_ | (intro hb; try replace hb := simB hb; try exact kill hb))
    ((first | apply HX_ret | apply HX_retn); (repeat (first | exact Res_nil | apply Res_tmp rfl | apply Res_ce rfl rfl rfl)); unfold RetQ; apply Exists.intro (Prod.mk none 0); refine ⟨Nat.le_refl _, ?_, ?_⟩; rotate_left 1; (repeat (first | exact Keeps.nil | refine Keeps.own_cons ?_ ?_ ?_ | refine Keeps.arr_cons ?_ ?_ | refine Keeps.cons Ent.rfl_ ?_ | refine Keeps.skip ?_ | refine Keeps.own_none ?_ ?_ ?_ | refine Keeps.arr_none ?_ ?_)))
    all_goals rfl
  | some ad =>
    clear hA
    refine Tri_of (N := Tryz.f65.ntmps) (c := bodyOf Tryz.f65) Tryz.func65 rfl rfl rfl rfl (fun w0 S0 => ?_)
    repeat' (first | refine SW ?_ | refine SD ?_ | exact HO_seg rfl rfl | refine S1 ?_ | (refine S2 ?_; intro _) | (refine S3 ?_; intro _ _) | (refine S4 ?_; intro _ _ _) | (refine HO_g 2 rfl ?_; (first | apply HO_and rfl rfl rfl rfl rfl rfl rfl rfl rfl | apply HO_or rfl rfl rfl rfl rfl rfl rfl rfl rfl)) | refine S5 ?_ | (intro hb; try replace hb := simB hb; try exact kill hb))
    rename_i A' c'
    refine HX_know (C := 0 + n ≤ c') (fun w h => own_cap 1 rfl h) (fun hc => ?_)
    ((first | apply HX_ret | apply HX_retn); (repeat (first | exact Res_nil | apply Res_tmp rfl | apply Res_ce rfl rfl rfl)); unfold RetQ; apply Exists.intro (Prod.mk A' c'); refine ⟨(show l.length ≤ c' by omega), ?_, ?_⟩; rotate_left 1; (repeat (first | exact Keeps.nil | refine Keeps.own_cons ?_ ?_ ?_ | refine Keeps.arr_cons ?_ ?_ | refine Keeps.cons Ent.rfl_ ?_ | refine Keeps.skip ?_ | refine Keeps.own_none ?_ ?_ ?_ | refine Keeps.arr_none ?_ ?_)))
    all_goals first | rfl | simp [tupV, hn]
end Go.Proofs.YtdeeokkkcfkbjaaGreat
