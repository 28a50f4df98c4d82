/- attr's bytes of numbers; slices.Grow, slices.Concat of bytes. -/
import Derived.Test.YtdeeokkkcfkbjaaGreatAttE
namespace Go.Proofs.YtdeeokkkcfkbjaaGreat
set_option linter.unusedVariables false
set_option linter.unusedSimpArgs false
open Go.RowKit
attribute [local irreducible] HC HX HO Tri eP adr

/-- numbers' bytes, w of each -/
def nb (w : Nat) (l : List Int) : List UInt8 := l.flatMap fun n => be w n.toNat
theorem nb_length (w : Nat) (l : List Int) : (nb w l).length = l.length * w := by
  induction l with
  | nil => simp [nb]
  | cons n l ih =>
    have : nb w (n :: l) = be w n.toNat ++ nb w l := rfl
    rw [this, List.length_append, be_length, ih, List.length_cons, Nat.add_mul]
    omega
theorem nb_snoc (w : Nat) (l : List Int) (n : Int) : nb w (l ++ [n]) = nb w l ++ be w n.toNat := by simp [nb]
theorem fitsB_nat {w : Nat} {n : Int} (h : fitsB w n = true) : ∃ k : Nat, n = k ∧ k < 256 ^ w := by
  simp only [fitsB, Bool.and_eq_true, decide_eq_true_eq] at h
  exact ⟨n.toNat, by omega, by omega⟩

set_option maxHeartbeats 4000000 in
theorem bytes_t (w : Nat) (h1 : 1 ≤ w) (h4 : w ≤ 4) (A : Option Addr) (n c : Nat) (l : List Int) (hn : n = l.length) (hl : l.length ≤ 1000000) (hf : ∀ n ∈ l, fitsB w n = true) :
    Tri Tryz.prog 100 [.int .i64 w, .slice A n c] [arr iE 1 A l] [] (fun _ : OA => True) (fun x => .slice x.1 (nb w l).length x.2) (fun x => [ownB x (nb w l)]) := by
  refine Tri_of (N := Tryz.f100.ntmps) (c := bodyOf Tryz.f100) Tryz.func100 rfl rfl rfl rfl (fun w0 S0 => ?_)
  repeat' (first | refine SW ?_ | refine SD ?_ | exact HO_seg rfl rfl | refine S1 ?_ | (refine S2 ?_; intro _) | (refine S3 ?_; intro _ _) | (refine S4 ?_; intro _ _ _) | (refine HO_g 2 rfl ?_; (first | apply HO_and rfl rfl rfl rfl rfl rfl rfl rfl rfl | apply HO_or rfl rfl rfl rfl rfl rfl rfl rfl rfl)) | refine S5 ?_ | (intro hb; try replace hb := simB hb; try exact kill hb))
  refine HC_add (e := ownB (none, 0) []) (fun w => own_nil w) ?_
  refine HC_loop (α := Nat × OA) (fun x => x.1 ≤ l.length) (fun x => [(12, .int .i64 x.1), (11, .int .i64 n), (10, .slice A n c), (0, .int .i64 w), (5, .slice x.2.1 (nb w (l.take x.1)).length x.2.2)]) (fun x => [ownB x.2 (nb w (l.take x.1))]) (fun x => l.length - x.1) rfl (0, (none, 0)) (Nat.zero_le _) ⟨rfl, rfl, rfl, rfl, rfl, trivial⟩ rfl ?_
  intro ⟨j, ⟨xA, xc⟩⟩ hj
  dsimp only at hj ⊢
  rcases Nat.lt_or_ge j l.length with hlt | hge
  · obtain ⟨m, hm⟩ : ∃ m, l[j]? = some m := ⟨l[j], List.getElem?_eq_getElem hlt⟩
    obtain ⟨k, rfl, hk⟩ := fitsB_nat (hf m (List.mem_of_getElem? hm))
    have e1 : l.take (j + 1) = l.take j ++ [(k : Int)] := by rw [List.take_add_one, hm]; rfl
    have hlen := nb_length w (l.take j)
    have hb : (nb w (l.take j)).length ≤ 4000000 := by
      rw [hlen]
      have : (l.take j).length ≤ 1000000 := by simp; omega
      calc _ ≤ 1000000 * 4 := Nat.mul_le_mul this h4
        _ = _ := rfl
    have hbe := be_length w k
    repeat' (first | refine SW ?_ | refine SD ?_ | (refine HO_k 12 rfl ?_; refine HO_call rfl rfl rfl rfl (nput_ok w k h1 h4 hk) rfl (trivial) rfl rfl soA ?_; intro ⟨yA, yc⟩ hx; dsimp only [List.cons_append, List.nil_append]) | exact HO_seg rfl rfl | refine S1 ?_ | (refine S2 ?_; intro _) | (refine S3 ?_; intro _ _) | (refine S4 ?_; intro _ _ _) | (refine HO_g 2 rfl ?_; (first | apply HO_and rfl rfl rfl rfl rfl rfl rfl rfl rfl | apply HO_or rfl rfl rfl rfl rfl rfl rfl rfl rfl)) | refine S5 ?_ | (intro hb; try replace hb := simB hb; try exact kill hb))
    rename_i A' c'
    have e2 : (nb w (l.take j)).length + w = (nb w (l.take (j + 1))).length := by rw [e1, nb_snoc, List.length_append, Int.toNat_natCast, be_length]
    have e3 : (nb w (l.take j)).map bE ++ (be w k).map bE = (nb w (l.take (j + 1))).map bE := by rw [e1, nb_snoc, List.map_append, Int.toNat_natCast]
    rw [e2, e3]
    refine HX_keeps (Keeps.cons Ent.rfl_ Keeps.nil) ?_
    exact HX_at (j + 1, (A', c')) ⟨hlt, by simp only; omega⟩ ⟨rfl, rfl, rfl, rfl, rfl, trivial⟩ rfl
  · obtain rfl : j = l.length := by omega
    rw [List.take_length]
    repeat' (first | refine SW ?_ | refine SD ?_ | exact HO_seg rfl rfl | refine S1 ?_ | (refine S2 ?_; intro _) | (refine S3 ?_; intro _ _) | (refine S4 ?_; intro _ _ _) | (refine HO_g 2 rfl ?_; (first | apply HO_and rfl rfl rfl rfl rfl rfl rfl rfl rfl | apply HO_or rfl rfl rfl rfl rfl rfl rfl rfl rfl)) | refine S5 ?_ | (intro hb; try replace hb := simB hb; try exact kill hb))
    ((first | apply HX_ret | apply HX_retn); (repeat (first | exact Res_nil | apply Res_tmp rfl | apply Res_ce rfl rfl rfl)); unfold RetQ; refine ⟨(xA, xc), trivial, rfl, Keeps.refl⟩)

/-- slices.Grow of nil: a row with room -/
theorem grow_t (n : Nat) (hn : n ≤ 1000000) :
    Tri Tryz.prog 97 [.slice none 0 0, .int .i64 n] [] [] (fun _ : OA => True) (fun x => .slice x.1 0 x.2) (fun x => [ownB x []]) := by
  rcases Nat.eq_zero_or_pos n with h0 | h0
  · subst h0
    refine Tri_of (N := Tryz.f97.ntmps) (c := bodyOf Tryz.f97) Tryz.func97 rfl rfl rfl rfl (fun w0 S0 => ?_)
    repeat' (first | refine SW ?_ | refine SD ?_ | exact HO_seg rfl rfl | refine S1 ?_ | (refine S2 ?_; intro _) | (refine S3 ?_; intro _ _) | (refine S4 ?_; intro _ _ _) | (refine HO_g 2 rfl ?_; (first | apply HO_and rfl rfl rfl rfl rfl rfl rfl rfl rfl | apply HO_or rfl rfl rfl rfl rfl rfl rfl rfl rfl)) | refine S5 ?_ | (intro hb; try replace hb := simB hb; try exact kill hb))
    ((first | apply HX_ret | apply HX_retn); (repeat (first | exact Res_nil | apply Res_tmp rfl | apply Res_ce rfl rfl rfl)); unfold RetQ; refine ⟨(none, 0), trivial, rfl, Keeps.add (fun w => own_nil w) Keeps.nil⟩)
  · refine Tri_of (N := Tryz.f97.ntmps) (c := bodyOf Tryz.f97) Tryz.func97 rfl rfl rfl rfl (fun w0 S0 => ?_)
    repeat' (first | refine SW ?_ | refine SD ?_ | exact HO_seg rfl rfl | refine S1 ?_ | (refine S2 ?_; intro _) | (refine S3 ?_; intro _ _) | (refine S4 ?_; intro _ _ _) | (refine HO_g 2 rfl ?_; (first | apply HO_and rfl rfl rfl rfl rfl rfl rfl rfl rfl | apply HO_or rfl rfl rfl rfl rfl rfl rfl rfl rfl)) | refine S5 ?_ | (intro hb; try replace hb := simB hb; try exact kill hb))
    rename_i b c hc
    ((first | apply HX_ret | apply HX_retn); (repeat (first | exact Res_nil | apply Res_tmp rfl | apply Res_ce rfl rfl rfl)); unfold RetQ; refine ⟨(some ⟨b, 0, none⟩, c), trivial, rfl, Keeps.cons (own_take 0 (Nat.zero_le _) (fun x hx => by rw [List.eq_of_mem_replicate hx]; rfl)) Keeps.nil⟩)

/-- a slice of bytes among others -/
structure BS where
  A : Option Addr
  c : Nat
  l : List UInt8
def BS.e (b : BS) : List Value := [.slice b.A b.l.length b.c]
instance : EncOk BS.e 1 := ⟨fun _ => ⟨rfl, rfl⟩⟩
def bsPs (bs : List BS) : List SL := bs.map fun b => arr bE 1 b.A b.l
def cat (bs : List BS) : List UInt8 := bs.flatMap (·.l)
theorem cat_snoc (bs : List BS) (b : BS) : cat (bs ++ [b]) = cat bs ++ b.l := by simp [cat]
theorem bs_mem {bs : List BS} {b : BS} (h : b ∈ bs) : arr bE 1 b.A b.l ∈ bsPs bs := List.mem_map.2 ⟨b, h, rfl⟩
theorem cat_take_le (bs : List BS) (j : Nat) : (cat (bs.take j)).length ≤ (cat bs).length := by
  have : cat bs = cat (bs.take j) ++ cat (bs.drop j) := by unfold cat; rw [← List.flatMap_append, List.take_append_drop]
  rw [this, List.length_append]
  omega

set_option maxHeartbeats 4000000 in
theorem concat_i (A : Option Addr) (n c : Nat) (bs : List BS) (hn : n = bs.length) (hl : bs.length ≤ 1000000) (ht : (cat bs).length ≤ 1000000) :
    Tri Tryz.prog 77 [.slice A n c] [inn (bsPs bs), arr BS.e 1 A bs] [] (fun _ : OA => True) (fun x => .slice x.1 (cat bs).length x.2) (fun x => [ownB x (cat bs)]) := by
  refine Tri_of (N := Tryz.f77.ntmps) (c := bodyOf Tryz.f77) Tryz.func77 rfl rfl rfl rfl (fun w0 S0 => ?_)
  repeat' (first | refine SW ?_ | refine SD ?_ | exact HO_seg rfl rfl | refine S1 ?_ | (refine S2 ?_; intro _) | (refine S3 ?_; intro _ _) | (refine S4 ?_; intro _ _ _) | (refine HO_g 2 rfl ?_; (first | apply HO_and rfl rfl rfl rfl rfl rfl rfl rfl rfl | apply HO_or rfl rfl rfl rfl rfl rfl rfl rfl rfl)) | refine S5 ?_ | (intro hb; try replace hb := simB hb; try exact kill hb))
  refine HC_loop (α := Nat) (fun j => j ≤ bs.length) (fun j => [(11, .int .i64 j), (10, .int .i64 n), (9, .slice A n c), (0, .slice A n c), (3, .int .i64 (cat (bs.take j)).length)]) (fun _ => []) (fun j => bs.length - j) rfl 0 (Nat.zero_le _) ⟨rfl, rfl, rfl, rfl, rfl, trivial⟩ rfl ?_
  intro j hj
  have hjt := cat_take_le bs j
  rcases Nat.lt_or_ge j bs.length with hlt | hge
  · obtain ⟨b, hb0⟩ : ∃ b, bs[j]? = some b := ⟨bs[j], List.getElem?_eq_getElem hlt⟩
    have e1 : bs.take (j + 1) = bs.take j ++ [b] := by rw [List.take_add_one, hb0]; rfl
    have hjt1 := cat_take_le bs (j + 1)
    have e2 : ((cat (bs.take j)).length : Int) + b.l.length = ((cat (bs.take (j + 1))).length : Nat) := by rw [e1, cat_snoc, List.length_append]; omega
    repeat' (first | refine SW ?_ | refine SD ?_ | exact HO_seg rfl rfl | refine S1 ?_ | (refine S2 ?_; intro _) | (refine S3 ?_; intro _ _) | (refine S4 ?_; intro _ _ _) | (refine HO_g 2 rfl ?_; (first | apply HO_and rfl rfl rfl rfl rfl rfl rfl rfl rfl | apply HO_or rfl rfl rfl rfl rfl rfl rfl rfl rfl)) | refine S5 ?_ | (intro hb; try replace hb := simB hb; try exact kill hb))
    rw [e2]
    exact HX_at (j + 1) ⟨hlt, by omega⟩ ⟨rfl, rfl, rfl, rfl, rfl, trivial⟩ rfl
  · obtain rfl : j = bs.length := by omega
    rw [List.take_length]
    repeat' (first | refine SW ?_ | refine SD ?_ | (refine HO_k 12 rfl ?_; refine HO_call rfl rfl rfl rfl (grow_t _ ht) rfl (trivial) rfl rfl soA ?_; intro ⟨gA, gc⟩ hx; dsimp only [List.cons_append, List.nil_append]) | exact HO_seg rfl rfl | refine S1 ?_ | (refine S2 ?_; intro _) | (refine S3 ?_; intro _ _) | (refine S4 ?_; intro _ _ _) | (refine HO_g 2 rfl ?_; (first | apply HO_and rfl rfl rfl rfl rfl rfl rfl rfl rfl | apply HO_or rfl rfl rfl rfl rfl rfl rfl rfl rfl)) | refine S5 ?_ | (intro hb; try replace hb := simB hb; try exact kill hb))
    refine HC_loop (α := Nat × OA) (fun x => x.1 ≤ bs.length) (fun x => [(27, .int .i64 x.1), (26, .int .i64 n), (25, .slice A n c), (6, .slice x.2.1 (cat (bs.take x.1)).length x.2.2)]) (fun x => [ownB x.2 (cat (bs.take x.1))]) (fun x => bs.length - x.1) rfl (0, (gA, gc)) (Nat.zero_le _) ⟨rfl, rfl, rfl, rfl, trivial⟩ rfl ?_
    intro ⟨j, ⟨xA, xc⟩⟩ hj'
    dsimp only at hj' ⊢
    have hjt' := cat_take_le bs j
    rcases Nat.lt_or_ge j bs.length with hlt | hge'
    · obtain ⟨b, hb0⟩ : ∃ b, bs[j]? = some b := ⟨bs[j], List.getElem?_eq_getElem hlt⟩
      have e1 : bs.take (j + 1) = bs.take j ++ [b] := by rw [List.take_add_one, hb0]; rfl
      have hjt1 := cat_take_le bs (j + 1)
      have e2 : (cat (bs.take j)).length + b.l.length = (cat (bs.take (j + 1))).length := by rw [e1, cat_snoc, List.length_append]
      have e3 : (cat (bs.take j)).map bE ++ b.l.map bE = (cat (bs.take (j + 1))).map bE := by rw [e1, cat_snoc, List.map_append]
      refine HC_see List.mem_cons_self (bs_mem (List.mem_of_getElem? hb0)) ?_
      repeat' (first | refine SW ?_ | refine SD ?_ | exact HO_seg rfl rfl | refine S1 ?_ | (refine S2 ?_; intro _) | (refine S3 ?_; intro _ _) | (refine S4 ?_; intro _ _ _) | (refine HO_g 2 rfl ?_; (first | apply HO_and rfl rfl rfl rfl rfl rfl rfl rfl rfl | apply HO_or rfl rfl rfl rfl rfl rfl rfl rfl rfl)) | refine S5 ?_ | (intro hb; try replace hb := simB hb; try exact kill hb))
      rename_i A' c'
      rw [e2, e3]
      refine HX_unsee ?_
      exact HX_at (j + 1, (A', c')) ⟨hlt, by simp only; omega⟩ ⟨rfl, rfl, rfl, rfl, trivial⟩ rfl
    · obtain rfl : j = bs.length := by omega
      rw [List.take_length]
      repeat' (first | refine SW ?_ | refine SD ?_ | exact HO_seg rfl rfl | refine S1 ?_ | (refine S2 ?_; intro _) | (refine S3 ?_; intro _ _) | (refine S4 ?_; intro _ _ _) | (refine HO_g 2 rfl ?_; (first | apply HO_and rfl rfl rfl rfl rfl rfl rfl rfl rfl | apply HO_or rfl rfl rfl rfl rfl rfl rfl rfl rfl)) | refine S5 ?_ | (intro hb; try replace hb := simB hb; try exact kill hb))
      ((first | apply HX_ret | apply HX_retn); (repeat (first | exact Res_nil | apply Res_tmp rfl | apply Res_ce rfl rfl rfl)); unfold RetQ; refine ⟨(xA, xc), trivial, rfl, Keeps.refl⟩)
theorem concat_t (A : Option Addr) (n c : Nat) (bs : List BS) (hn : n = bs.length) (hl : bs.length ≤ 1000000) (ht : (cat bs).length ≤ 1000000) :
    Tri Tryz.prog 77 [.slice A n c] (bsPs bs ++ [arr BS.e 1 A bs]) [] (fun _ : OA => True) (fun x => .slice x.1 (cat bs).length x.2) (fun x => [ownB x (cat bs)]) :=
  Tri_inn (concat_i A n c bs hn hl ht)
end Go.Proofs.YtdeeokkkcfkbjaaGreat
