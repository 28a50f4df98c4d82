/- Part of a proof of many texts: what the theorem at its end leans on. -/
import Derived.Test.YteeogabkkblkgaaGreatDoorVAttC
import Derived.Test.YteeogabkkblkgaaGreatDoorVKb
import Derived.LoopIn
import Derived.LoopNIn
import Derived.TacticsInMore
import Derived.RegionIn
import Derived.Shelf.Abstract
namespace Go.Proofs.YteeogabkkblkgaaGreatDoor
set_option maxHeartbeats 1000000000
set_option linter.unusedVariables false
set_option linter.unusedSimpArgs false
open Go.RowKit
attribute [local irreducible] HC HX HO Tri eP adr
set_option maxRecDepth 100000 in
theorem rcheck_t (a : AttS) (four : Bool) (h1 : a.path.length ≤ 1000000) (h2 : a.comms.length ≤ 1000000) (h3 : ∀ s ∈ a.path, s.ns.length ≤ 1000000) :
  Tri Tryz.prog 117 [.agg a.e.toArray, .bool four] a.ro [] (fun _ : Unit => True) (fun _ => .bool (attOk four a)) (fun _ => []) := by
 have hz := szF_bd four
 refine Tri_in Tryz.func117 rfl (fun w0 S0 => ?_)
 dsimp only [AttS.ro]
 repeat' (first | refine SW ?_ | exact HO_seg rfl rfl | refine S1 ?_ | (refine S2 ?_; intro _) | (refine HO_g 2 rfl ?_; apply HO_o1 rfl) | refine S5 ?_ | (intro hb; try replace hb := simB hb; try exact kill hb))
 refine HC_cond rfl rfl (fun hb => ?_) (fun hb => ?_)
 ·replace hb := simB hb
  repeat' (first | refine SW ?_ | exact HO_seg rfl rfl | refine S1 ?_ | (refine S2 ?_; intro _) | (refine HO_g 2 rfl ?_; apply HO_o1 rfl) | refine S5 ?_ | (intro hb; try replace hb := simB hb; try exact kill hb))
  (refine SRt ?_; refine RU ?_)
  refine congrArg Value.bool (Eq.symm ?_)
  rw [attOk, decide_eq_false (by omega)]
  simp
 replace hb := simB hb
 repeat' (first | refine SW ?_ | exact HO_seg rfl rfl | refine S1 ?_ | (refine S2 ?_; intro _) | (refine HO_g 2 rfl ?_; apply HO_o1 rfl) | refine S5 ?_ | (intro hb; try replace hb := simB hb; try exact kill hb))
 rename_i b2
 refine HC_loop (α := Nat) (fun j => j ≤ a.path.length ∧ ∀ s ∈ a.path.take j, sgOk four s = true) (fun j => [(5, .int .i64 j), (2, pt b2), (1, .bool four)]) (fun j => [cel b2 53 a.e]) (fun j => a.path.length - j) rfl 0 ⟨Nat.zero_le _, fun s hs => by simp at hs⟩ ⟨rfl, rfl, rfl, trivial⟩ rfl ?_
 intro j ⟨hj, hno⟩
 rcases Nat.lt_or_ge j a.path.length with hlt | hge
 ·obtain ⟨s, hs⟩ : ∃ s, a.path[j]? = some s := ⟨a.path[j], List.getElem?_eq_getElem hlt⟩
  have hsm := List.mem_of_getElem? hs
  dsimp only [pt]
  have hseg : sgOk four s = (decide (1 ≤ s.ns.length ∧ s.ns.length ≤ 64) && !s.ns.any (fun n => !fitsB (szF four) n)) := rfl
  repeat' (first | refine SX ?_ | exact HO_seg rfl rfl | refine S1 ?_ | (refine S2 ?_; intro _) | (refine HO_g 2 rfl ?_; apply HO_o1 rfl) | refine S5 ?_ | (intro hb; try replace hb := simB hb; try exact kill hb))
  refine HC_cond rfl rfl (fun hb => ?_) (fun hb => ?_)
  ·replace hb := simB hb
   repeat' (first | refine SW ?_ | exact HO_seg rfl rfl | refine S1 ?_ | (refine S2 ?_; intro _) | (refine HO_g 2 rfl ?_; apply HO_o1 rfl) | refine S5 ?_ | (intro hb; try replace hb := simB hb; try exact kill hb))
   (refine SRt ?_; refine RU ?_)
   refine congrArg Value.bool (Eq.symm ?_)
   have : sgOk four s = false := by rw [hseg, decide_eq_false (by omega)]; rfl
   rw [attOk, List.any_eq_true.2 ⟨s, hsm, by rw [this]; rfl⟩]
   simp
  replace hb := simB hb
  repeat' (first | refine SW ?_ | exact HO_seg rfl rfl | refine S1 ?_ | (refine S2 ?_; intro _) | (refine HO_g 2 rfl ?_; apply HO_o1 rfl) | refine S5 ?_ | (intro hb; try replace hb := simB hb; try exact kill hb))
  refine HC_see List.mem_cons_self (seg_mem hsm) ?_
  refine HC_loop (α := Nat) (fun k => k ≤ s.ns.length ∧ ∀ n ∈ s.ns.take k, fitsB (szF four) n = true) (fun k => [(7, .int .i64 k), (6, .slice s.A s.ns.length s.c), (5, .int .i64 j), (2, pt b2), (1, .bool four)]) (fun k => [cel b2 53 a.e]) (fun k => s.ns.length - k) rfl 0 ⟨Nat.zero_le _, fun s hs => by simp at hs⟩ ⟨rfl, rfl, rfl, rfl, rfl, trivial⟩ rfl ?_
  intro k ⟨hk, hnk⟩
  dsimp only [pt]
  rcases Nat.lt_or_ge k s.ns.length with hklt | hkge
  ·obtain ⟨n, hn⟩ : ∃ n, s.ns[k]? = some n := ⟨s.ns[k], List.getElem?_eq_getElem hklt⟩
   have hfl : fitsB (szF four) n = (decide (0 ≤ n) && decide (n < (256 ^ szF four : Nat))) := rfl
   repeat' (first | refine SX ?_ | (refine KC ?_; refine HO_callq rfl rfl rfl rfl (rsize_t four) (fun _ _ => rfl) (trivial) rfl rfl sqA ?_) | (refine KC ?_; refine HO_callq rfl rfl rfl rfl (fits_t n (szF four) hz.1 hz.2) (fun _ _ => rfl) (trivial) rfl rfl sqA ?_) | exact HO_seg rfl rfl | refine S1 ?_ | (refine S2 ?_; intro _) | (refine HO_g 2 rfl ?_; apply HO_o1 rfl) | refine S5 ?_ | (intro hb; try replace hb := simB hb; try exact kill hb))
   refine HC_cond rfl rfl (fun hb => ?_) (fun hb => ?_)
   ·repeat' (first | refine SW ?_ | exact HO_seg rfl rfl | refine S1 ?_ | (refine S2 ?_; intro _) | (refine HO_g 2 rfl ?_; apply HO_o1 rfl) | refine S5 ?_ | (intro hb; try replace hb := simB hb; try exact kill hb))
    refine HX_unsee ?_
    (refine SRt ?_; refine RU ?_)
    refine congrArg Value.bool (Eq.symm ?_)
    rw [← hfl, Bool.not_eq_true'] at hb
    have : sgOk four s = false := by rw [hseg, List.any_eq_true.2 ⟨n, List.mem_of_getElem? hn, by rw [hb]; rfl⟩]; simp
    rw [attOk, List.any_eq_true.2 ⟨s, hsm, by rw [this]; rfl⟩]
    simp
   ·rw [← hfl, Bool.not_eq_false'] at hb
    repeat' (first | refine SX ?_ | exact HO_seg rfl rfl | refine S1 ?_ | (refine S2 ?_; intro _) | (refine HO_g 2 rfl ?_; apply HO_o1 rfl) | refine S5 ?_ | (intro hb; try replace hb := simB hb; try exact kill hb))
    exact HX_at (k + 1) ⟨⟨hklt, fun m hm => by
     rw [List.take_add_one, hn, List.mem_append] at hm
     rcases hm with hm | hm
     ·exact hnk m hm
     ·simp at hm; rw [hm]; exact hb⟩, by omega⟩ ⟨rfl, rfl, rfl, rfl, rfl, trivial⟩ rfl
  ·obtain rfl : k = s.ns.length := by omega
   rw [List.take_length] at hnk
   repeat' (first | refine SX ?_ | exact HO_seg rfl rfl | refine S1 ?_ | (refine S2 ?_; intro _) | (refine HO_g 2 rfl ?_; apply HO_o1 rfl) | refine S5 ?_ | (intro hb; try replace hb := simB hb; try exact kill hb))
   refine HX_unsee ?_
   have hok : sgOk four s = true := by
    rw [hseg, decide_eq_true (by omega)]
    have : s.ns.any (fun n => !fitsB (szF four) n) = false := List.any_eq_false.2 fun n hn => by rw [hnk n hn]; decide
    rw [this]
    rfl
   exact HX_at (j + 1) ⟨⟨hlt, fun m hm => by
    rw [List.take_add_one, hs, List.mem_append] at hm
    rcases hm with hm | hm
    ·exact hno m hm
    ·simp at hm; rw [hm]; exact hok⟩, by omega⟩ ⟨rfl, rfl, rfl, trivial⟩ rfl
 ·obtain rfl : j = a.path.length := by omega
  dsimp only [pt]
  repeat' (first | refine SX ?_ | exact HO_seg rfl rfl | refine S1 ?_ | (refine S2 ?_; intro _) | (refine HO_g 2 rfl ?_; apply HO_o1 rfl) | refine S5 ?_ | (intro hb; try replace hb := simB hb; try exact kill hb))
  rw [List.take_length] at hno
  have hpath : a.path.any (fun s => !sgOk four s) = false := List.any_eq_false.2 fun s hs => by rw [hno s hs]; decide
  refine HC_loop (α := Nat) (fun k => k ≤ a.comms.length ∧ ∀ n ∈ a.comms.take k, fitsB 4 n = true) (fun k => [(8, .int .i64 k), (2, pt b2)]) (fun k => [cel b2 53 a.e]) (fun k => a.comms.length - k) rfl 0 ⟨Nat.zero_le _, fun s hs => by simp at hs⟩ ⟨rfl, rfl, trivial⟩ rfl ?_
  intro k ⟨hk, hnk⟩
  dsimp only [pt]
  rcases Nat.lt_or_ge k a.comms.length with hklt | hkge
  ·obtain ⟨n, hn⟩ : ∃ n, a.comms[k]? = some n := ⟨a.comms[k], List.getElem?_eq_getElem hklt⟩
   have hfl : fitsB 4 n = (decide (0 ≤ n) && decide (n < (256 ^ 4 : Nat))) := rfl
   have hft := fits_t n 4 (by decide) (by decide)
   rw [← hfl] at hft
   repeat' (first | refine SX ?_ | (refine KC ?_; refine HO_callq rfl rfl rfl rfl (hft) (fun _ _ => rfl) (trivial) rfl rfl sqA ?_) | exact HO_seg rfl rfl | refine S1 ?_ | (refine S2 ?_; intro _) | (refine HO_g 2 rfl ?_; apply HO_o1 rfl) | refine S5 ?_ | (intro hb; try replace hb := simB hb; try exact kill hb))
   refine HC_cond rfl rfl (fun hb => ?_) (fun hb => ?_)
   ·rw [Bool.not_eq_true'] at hb
    repeat' (first | refine SW ?_ | exact HO_seg rfl rfl | refine S1 ?_ | (refine S2 ?_; intro _) | (refine HO_g 2 rfl ?_; apply HO_o1 rfl) | refine S5 ?_ | (intro hb; try replace hb := simB hb; try exact kill hb))
    (refine SRt ?_; refine RU ?_)
    refine congrArg Value.bool (Eq.symm ?_)
    rw [attOk, show a.comms.any (fun n => !fitsB 4 n) = true from List.any_eq_true.2 ⟨n, List.mem_of_getElem? hn, by rw [hb]; rfl⟩]
    simp
   ·rw [Bool.not_eq_false'] at hb
    repeat' (first | refine SX ?_ | exact HO_seg rfl rfl | refine S1 ?_ | (refine S2 ?_; intro _) | (refine HO_g 2 rfl ?_; apply HO_o1 rfl) | refine S5 ?_ | (intro hb; try replace hb := simB hb; try exact kill hb))
    exact HX_at (k + 1) ⟨⟨hklt, fun m hm => by
     rw [List.take_add_one, hn, List.mem_append] at hm
     rcases hm with hm | hm
     ·exact hnk m hm
     ·simp at hm; rw [hm]; exact hb⟩, by omega⟩ ⟨rfl, rfl, trivial⟩ rfl
  ·obtain rfl : k = a.comms.length := by omega
   rw [List.take_length] at hnk
   have hcom : a.comms.any (fun n => !fitsB 4 n) = false := List.any_eq_false.2 fun n hn => by rw [hnk n hn]; decide
   repeat' (first | refine SX ?_ | exact HO_seg rfl rfl | refine S1 ?_ | (refine S2 ?_; intro _) | (refine HO_g 2 rfl ?_; apply HO_o1 rfl) | refine S5 ?_ | (intro hb; try replace hb := simB hb; try exact kill hb))
   (refine SRt ?_; refine RU ?_)
   refine congrArg Value.bool (Eq.symm ?_)
   rw [attOk, hpath, hcom, decide_eq_true (by omega)]
   rfl
def nb (w : Nat) (l : List Int) : List UInt8 := l.flatMap fun n => be w n.toNat
theorem nb_length (w : Nat) (l : List Int) : (nb w l).length = l.length * w := by
 induction l with
 | nil => simp [nb]
 | cons n l ih =>
  have : nb w (n :: l) = be w n.toNat ++ nb w l := rfl
  rw [this, List.length_append, be_length, ih, List.length_cons, Nat.add_mul]
  omega
theorem nb_snoc (w : Nat) (l : List Int) (n : Int) : nb w (l ++ [n]) = nb w l ++ be w n.toNat := by simp [nb]
theorem fitsB_nat {w : Nat} {n : Int} (h : fitsB w n = true) : ∃ k : Nat, n = k ∧ k < 256 ^ w := by
 simp only [fitsB, Bool.and_eq_true, decide_eq_true_eq] at h
 exact ⟨n.toNat, by omega, by omega⟩
theorem bytes_t (w : Nat) (h1 : 1 ≤ w) (h4 : w ≤ 4) (A : Option Addr) (n c : Nat) (l : List Int) (hn : n = l.length) (hl : l.length ≤ 1000000) (hf : ∀ n ∈ l, fitsB w n = true) :
  Tri Tryz.prog 193 [.int .i64 w, .slice A n c] [arr iE 1 A l] [] (fun _ : OA => True) (fun x => .slice x.1 (nb w l).length x.2) (fun x => [ownB x (nb w l)]) := by
 refine Tri_in Tryz.func193 rfl (fun w0 S0 => ?_)
 repeat' (first | refine SX ?_ | refine SB ?_ | (refine S3 ?_; intro _ _) | fail)
 refine HC_add (e := ownB (none, 0) []) (fun w => own_nil w) ?_
 refine HC_loop (α := Nat × OA) (fun x => x.1 ≤ l.length) (fun x => [(12, .int .i64 x.1), (11, .int .i64 n), (10, .slice A n c), (0, .int .i64 w), (5, .slice x.2.1 (nb w (l.take x.1)).length x.2.2)]) (fun x => [ownB x.2 (nb w (l.take x.1))]) (fun x => l.length - x.1) rfl (0, (none, 0)) (Nat.zero_le _) ⟨rfl, rfl, rfl, rfl, rfl, trivial⟩ rfl ?_
 intro ⟨j, ⟨xA, xc⟩⟩ hj
 dsimp only at hj ⊢
 rcases Nat.lt_or_ge j l.length with hlt | hge
 ·obtain ⟨m, hm⟩ : ∃ m, l[j]? = some m := ⟨l[j], List.getElem?_eq_getElem hlt⟩
  obtain ⟨k, rfl, hk⟩ := fitsB_nat (hf m (List.mem_of_getElem? hm))
  have e1 : l.take (j + 1) = l.take j ++ [(k : Int)] := by rw [List.take_add_one, hm]; rfl
  have hlen := nb_length w (l.take j)
  have hb : (nb w (l.take j)).length ≤ 4000000 := by
   rw [hlen]
   have : (l.take j).length ≤ 1000000 := by simp; omega
   calc _ ≤ 1000000 * 4 := Nat.mul_le_mul this h4
    _ = _ := rfl
  have hbe := be_length w k
  repeat' (first | refine SX ?_ | (refine KC ?_; refine HO_call rfl rfl rfl rfl (nput_ok w k h1 h4 hk) rfl (trivial) rfl rfl soA ?_; intro ⟨yA, yc⟩ hx; dsimp only [lca, lna]) | refine SB ?_ | (refine S3 ?_; intro _ _) | fail)
  rename_i A' c'
  have e2 : (nb w (l.take j)).length + w = (nb w (l.take (j + 1))).length := by rw [e1, nb_snoc, List.length_append, Int.toNat_natCast, be_length]
  have e3 : (nb w (l.take j)).map bE ++ (be w k).map bE = (nb w (l.take (j + 1))).map bE := by rw [e1, nb_snoc, List.map_append, Int.toNat_natCast]
  rw [e2, e3]
  refine HX_keeps (Keeps.cons Ent.rfl_ Keeps.nil) ?_
  exact HX_at (j + 1, (A', c')) ⟨hlt, by simp only; omega⟩ ⟨rfl, rfl, rfl, rfl, rfl, trivial⟩ rfl
 ·obtain rfl : j = l.length := by omega
  rw [List.take_length]
  repeat' (first | refine SX ?_ | refine SB ?_ | (refine S3 ?_; intro _ _) | fail)
  (refine SRt ?_; unfold RetQ; refine ⟨(xA, xc), trivial, rfl, Keeps.refl⟩)
theorem grow_t (n : Nat) (hn : n ≤ 1000000) :
  Tri Tryz.prog 149 [.slice none 0 0, .int .i64 n] [] [] (fun _ : OA => True) (fun x => .slice x.1 0 x.2) (fun x => [ownB x []]) := by
 rcases Nat.eq_zero_or_pos n with h0 | h0
 ·subst h0
  refine Tri_in Tryz.func149 rfl (fun w0 S0 => ?_)
  repeat' (first | refine SX ?_ | refine S1 ?_ | (refine S4 ?_; intro _ _ _) | refine S5 ?_ | fail)
  (refine SRt ?_; unfold RetQ; refine ⟨(none, 0), trivial, rfl, Keeps.add (fun w => own_nil w) Keeps.nil⟩)
 ·refine Tri_in Tryz.func149 rfl (fun w0 S0 => ?_)
  repeat' (first | refine SX ?_ | refine S1 ?_ | (refine S4 ?_; intro _ _ _) | refine S5 ?_ | fail)
  rename_i b c hc
  (refine SRt ?_; unfold RetQ; refine ⟨(some ⟨b, 0, none⟩, c), trivial, rfl, Keeps.cons (own_take 0 (Nat.zero_le _) (fun x hx => by rw [List.eq_of_mem_replicate hx]; rfl)) Keeps.nil⟩)
structure BS where
 A : Option Addr
 c : Nat
 l : List UInt8
def BS.e (b : BS) : List Value := [.slice b.A b.l.length b.c]
instance : EncOk BS.e 1 := ⟨fun _ => ⟨rfl, rfl⟩⟩
def bsPs (bs : List BS) : List SL := bs.map fun b => arr bE 1 b.A b.l
def cat (bs : List BS) : List UInt8 := bs.flatMap (·.l)
theorem cat_snoc (bs : List BS) (b : BS) : cat (bs ++ [b]) = cat bs ++ b.l := by simp [cat]
theorem bs_mem {bs : List BS} {b : BS} (h : b ∈ bs) : arr bE 1 b.A b.l ∈ bsPs bs := List.mem_map.2 ⟨b, h, rfl⟩
theorem cat_take_le (bs : List BS) (j : Nat) : (cat (bs.take j)).length ≤ (cat bs).length := by
 have : cat bs = cat (bs.take j) ++ cat (bs.drop j) := by unfold cat; rw [← List.flatMap_append, List.take_append_drop]
 rw [this, List.length_append]
 omega
theorem concat_i (A : Option Addr) (n c : Nat) (bs : List BS) (hn : n = bs.length) (hl : bs.length ≤ 1000000) (ht : (cat bs).length ≤ 1000000) :
  Tri Tryz.prog 103 [.slice A n c] [inn (bsPs bs), arr BS.e 1 A bs] [] (fun _ : OA => True) (fun x => .slice x.1 (cat bs).length x.2) (fun x => [ownB x (cat bs)]) := by
 refine Tri_in Tryz.func103 rfl (fun w0 S0 => ?_)
 repeat' (first | refine SX ?_ | refine SB ?_ | (refine S3 ?_; intro _ _) | fail)
 refine HC_loop (α := Nat) (fun j => j ≤ bs.length) (fun j => [(11, .int .i64 j), (10, .int .i64 n), (9, .slice A n c), (0, .slice A n c), (3, .int .i64 (cat (bs.take j)).length)]) (fun _ => []) (fun j => bs.length - j) rfl 0 (Nat.zero_le _) ⟨rfl, rfl, rfl, rfl, rfl, trivial⟩ rfl ?_
 intro j hj
 have hjt := cat_take_le bs j
 rcases Nat.lt_or_ge j bs.length with hlt | hge
 ·obtain ⟨b, hb0⟩ : ∃ b, bs[j]? = some b := ⟨bs[j], List.getElem?_eq_getElem hlt⟩
  have e1 : bs.take (j + 1) = bs.take j ++ [b] := by rw [List.take_add_one, hb0]; rfl
  have hjt1 := cat_take_le bs (j + 1)
  have e2 : ((cat (bs.take j)).length : Int) + b.l.length = ((cat (bs.take (j + 1))).length : Nat) := by rw [e1, cat_snoc, List.length_append]; omega
  repeat' (first | refine SX ?_ | refine SB ?_ | (refine S3 ?_; intro _ _) | fail)
  rw [e2]
  exact HX_at (j + 1) ⟨hlt, by omega⟩ ⟨rfl, rfl, rfl, rfl, rfl, trivial⟩ rfl
 ·obtain rfl : j = bs.length := by omega
  rw [List.take_length]
  repeat' (first | refine SX ?_ | (refine KC ?_; refine HO_call rfl rfl rfl rfl (grow_t _ ht) rfl (trivial) rfl rfl soA ?_; intro ⟨gA, gc⟩ hx; dsimp only [lca, lna]) | refine SB ?_ | (refine S3 ?_; intro _ _) | fail)
  refine HC_loop (α := Nat × OA) (fun x => x.1 ≤ bs.length) (fun x => [(27, .int .i64 x.1), (26, .int .i64 n), (25, .slice A n c), (6, .slice x.2.1 (cat (bs.take x.1)).length x.2.2)]) (fun x => [ownB x.2 (cat (bs.take x.1))]) (fun x => bs.length - x.1) rfl (0, (gA, gc)) (Nat.zero_le _) ⟨rfl, rfl, rfl, rfl, trivial⟩ rfl ?_
  intro ⟨j, ⟨xA, xc⟩⟩ hj'
  dsimp only at hj' ⊢
  have hjt' := cat_take_le bs j
  rcases Nat.lt_or_ge j bs.length with hlt | hge'
  ·obtain ⟨b, hb0⟩ : ∃ b, bs[j]? = some b := ⟨bs[j], List.getElem?_eq_getElem hlt⟩
   have e1 : bs.take (j + 1) = bs.take j ++ [b] := by rw [List.take_add_one, hb0]; rfl
   have hjt1 := cat_take_le bs (j + 1)
   have e2 : (cat (bs.take j)).length + b.l.length = (cat (bs.take (j + 1))).length := by rw [e1, cat_snoc, List.length_append]
   have e3 : (cat (bs.take j)).map bE ++ b.l.map bE = (cat (bs.take (j + 1))).map bE := by rw [e1, cat_snoc, List.map_append]
   refine HC_see List.mem_cons_self (bs_mem (List.mem_of_getElem? hb0)) ?_
   repeat' (first | refine SX ?_ | refine SB ?_ | (refine S3 ?_; intro _ _) | fail)
   rename_i A' c'
   rw [e2, e3]
   refine HX_unsee ?_
   exact HX_at (j + 1, (A', c')) ⟨hlt, by simp only; omega⟩ ⟨rfl, rfl, rfl, rfl, trivial⟩ rfl
  ·obtain rfl : j = bs.length := by omega
   rw [List.take_length]
   repeat' (first | refine SX ?_ | refine SB ?_ | (refine S3 ?_; intro _ _) | fail)
   (refine SRt ?_; unfold RetQ; refine ⟨(xA, xc), trivial, rfl, Keeps.refl⟩)
theorem concat_t (A : Option Addr) (n c : Nat) (bs : List BS) (hn : n = bs.length) (hl : bs.length ≤ 1000000) (ht : (cat bs).length ≤ 1000000) :
  Tri Tryz.prog 103 [.slice A n c] (bsPs bs ++ [arr BS.e 1 A bs]) [] (fun _ : OA => True) (fun x => .slice x.1 (cat bs).length x.2) (fun x => [ownB x (cat bs)]) :=
 Tri_inn (concat_i A n c bs hn hl ht)
structure PA where
 org : Int
 path : List (Bool × List Int)
 nxt : Int
 med : Int
 pref : Int
 comms : List Int
def segB (w : Nat) (s : Bool × List Int) : List UInt8 := (if s.1 = true then 1 else 2) :: UInt8.ofNat s.2.length :: nb w s.2
def pathB (w : Nat) (l : List (Bool × List Int)) : List UInt8 := l.flatMap (segB w)
def attB (f k : Nat) (d : List UInt8) : List UInt8 := if 255 < d.length then UInt8.ofNat (f + 16) :: UInt8.ofNat k :: (be 2 d.length ++ d) else UInt8.ofNat f :: UInt8.ofNat k :: (be 1 d.length ++ d)
def medB (n : Int) : List UInt8 := if 0 ≤ n then attB 128 4 (be 4 n.toNat) else []
def prefB (n : Int) : List UInt8 := if 0 ≤ n then attB 64 5 (be 4 n.toNat) else []
def commB (l : List Int) : List UInt8 := if 0 < l.length then attB 192 8 (nb 4 l) else []
def putB (w : Nat) (p : PA) : List UInt8 :=
 attB 64 1 [UInt8.ofNat p.org.toNat] ++ attB 64 2 (pathB w p.path) ++ attB 64 3 (be 4 p.nxt.toNat) ++ medB p.med ++ prefB p.pref ++ commB p.comms
def numsG (w n : Nat) (l : List UInt8) : List Int := (List.range n).map fun i => (ge ((l.drop (i * w)).take w) : Int)
def segsG (w : Nat) : Nat → List (Bool × List Int) → List UInt8 → Option (List (Bool × List Int))
 | 0, _, _ => none
 | _ + 1, acc, [] => some acc
 | _ + 1, _, [_] => none
 | fuel + 1, acc, k :: n :: l => if (k.toNat = 1 ∨ k.toNat = 2) ∧ 1 ≤ n.toNat ∧ n.toNat ≤ 64 ∧ acc.length < 8 ∧ n.toNat * w ≤ l.length then
    segsG w fuel (acc ++ [(decide (k.toNat = 1), numsG w n.toNat l)]) (l.drop (n.toNat * w)) else none
def setG (w : Nat) (a : PA) (k : Nat) (d : List UInt8) : Option PA :=
 if k = 1 then if d.length ≠ 1 ∨ 2 < ge d then none else some { a with org := ge d }
 else if k = 2 then match segsG w (d.length + 1) [] d with
  | none => none
  | some p => some { a with path := p }
 else if k = 8 then if d.length = 0 ∨ d.length % 4 ≠ 0 ∨ 128 < d.length then none else some { a with comms := numsG 4 (d.length / 4) d }
 else if d.length ≠ 4 then none
 else if k = 3 then if ge d = 0 then none else some { a with nxt := ge d }
 else if k = 4 then some { a with med := ge d }
 else some { a with pref := ge d }
def flagsI (k : Nat) : Int := if k = 1 ∨ k = 2 ∨ k = 3 ∨ k = 5 then 64 else if k = 4 then 128 else if k = 8 then 192 else -1
structure GS where
 a : PA
 seen : Nat
def takeG (w f k : Nat) (d : List UInt8) (s : GS) : Option GS :=
 if flagsI k < 0 then if 128 ≤ f then some s else none
 else if s.seen.testBit k = true then some s
 else if ((f / 32 * 32 : Nat) : Int) = flagsI k then match setG w s.a k d with
  | none => none
  | some a => some ⟨a, s.seen ||| 2 ^ k⟩
 else none
def hdG : List UInt8 → Option (Nat × Nat × List UInt8 × List UInt8)
 | f :: k :: r => let w := 1 + f.toNat / 16 % 2
  let n := ge (r.take w)
  if w ≤ r.length ∧ n ≤ r.length - w then some (f.toNat, k.toNat, (r.drop w).take n, (r.drop w).drop n) else none
 | _ => none
def allG (w : Nat) : Nat → GS → List UInt8 → Option GS
 | 0, _, _ => none
 | fuel + 1, s, l => match l with
  | [] => some s
  | b :: l' => match hdG (b :: l') with
   | none => none
   | some (f, k, d, r) => match takeG w f k d s with
    | none => none
    | some s' => allG w fuel s' r
def pz : PA := ⟨0, [], 0, 0, 0, []⟩
def p0 : PA := ⟨0, [], 0, -1, -1, []⟩
def mustB (n : Nat) : Bool := n.testBit 1 && n.testBit 2 && n.testBit 3
def getG (w : Nat) (l : List UInt8) : PA × Int := match allG w (l.length + 1) ⟨p0, 0⟩ l with
 | none => (pz, 3)
 | some s => if mustB s.seen = true then (s.a, 1) else (pz, 2)
theorem hdG_len {l : List UInt8} {f k : Nat} {d r : List UInt8} (h : hdG l = some (f, k, d, r)) : r.length < l.length ∧ d.length ≤ l.length ∧ f < 256 ∧ k < 256 := by
 match l, h with
 | f' :: k' :: q, h =>
  simp only [hdG] at h
  split at h
  ·rename_i hc
   injection h with h
   injection h with h1 h
   injection h with h2 h
   injection h with h3 h4
   subst h1 h2 h3 h4
   have := f'.toNat_lt
   have := k'.toNat_lt
   refine ⟨?_, ?_, by assumption, by assumption⟩
   ·simp only [List.length_drop, List.length_cons]; omega
   ·simp only [List.length_take, List.length_drop, List.length_cons]; omega
  ·cases h
theorem allG_fuel (w : Nat) : ∀ (n m : Nat) (s : GS) (l : List UInt8), l.length < n → l.length < m → allG w n s l = allG w m s l := by
 intro n
 induction n with
 | zero => intro m s l h; omega
 | succ n ih =>
  intro m s l h1 h2
  cases m with
  | zero => omega
  | succ m =>
   cases l with
   | nil => rfl
   | cons b l =>
    simp only [allG]
    split
    ·rfl
    ·rename_i hh
     have hl := (hdG_len hh).1
     split
     ·rfl
     ·exact ih m _ _ (by omega) (by omega)
def allR (w : Nat) (s : GS) (l : List UInt8) : Option GS := allG w (l.length + 1) s l
theorem allR_nil (w : Nat) (s : GS) : allR w s [] = some s := rfl
theorem allR_cons (w : Nat) (s : GS) (l : List UInt8) (hl : l ≠ []) : allR w s l = match hdG l with
  | none => none
  | some (f, k, d, r) => match takeG w f k d s with
   | none => none
   | some s' => allR w s' r := by
 cases l with
 | nil => exact absurd rfl hl
 | cons b l =>
  unfold allR
  conv => lhs; simp only [allG]
  split
  ·rfl
  ·rename_i hh
   have hl := (hdG_len hh).1
   split
   ·rfl
   ·exact allG_fuel w _ _ _ _ (by omega) (by omega)
theorem segsG_fuel (w : Nat) : ∀ (n m : Nat) (acc : List (Bool × List Int)) (l : List UInt8), l.length < n → l.length < m → segsG w n acc l = segsG w m acc l := by
 intro n
 induction n with
 | zero => intro m acc l h; omega
 | succ n ih =>
  intro m acc l h1 h2
  cases m with
  | zero => omega
  | succ m =>
   match l with
   | [] => rfl
   | [_] => rfl
   | k :: q :: l =>
    simp only [segsG]
    split
    ·simp only [List.length_cons] at h1 h2
     exact ih m _ _ (by simp only [List.length_drop]; omega) (by simp only [List.length_drop]; omega)
    ·rfl
def segsR (w : Nat) (acc : List (Bool × List Int)) (l : List UInt8) : Option (List (Bool × List Int)) := segsG w (l.length + 1) acc l
theorem segsR_cons (w : Nat) (acc : List (Bool × List Int)) (k n : UInt8) (l : List UInt8) : segsR w acc (k :: n :: l) = if (k.toNat = 1 ∨ k.toNat = 2) ∧ 1 ≤ n.toNat ∧ n.toNat ≤ 64 ∧ acc.length < 8 ∧ n.toNat * w ≤ l.length then
   segsR w (acc ++ [(decide (k.toNat = 1), numsG w n.toNat l)]) (l.drop (n.toNat * w)) else none := by
 unfold segsR
 conv => lhs; simp only [segsG]
 split
 ·exact segsG_fuel w _ _ _ _ (by simp only [List.length_drop, List.length_cons]; omega) (by omega)
 ·rfl
theorem numsG_length (w n : Nat) (l : List UInt8) : (numsG w n l).length = n := by simp [numsG]
theorem numsG_snoc (w n : Nat) (l : List UInt8) : numsG w (n + 1) l = numsG w n l ++ [(ge ((l.drop (n * w)).take w) : Int)] := by simp [numsG, List.range_succ]
def okSeg (w : Nat) (s : Bool × List Int) : Bool := decide (1 ≤ s.2.length ∧ s.2.length ≤ 64) && !s.2.any (fun n => !fitsB w n)
theorem any_not {α : Type} {p : α → Bool} {l : List α} (h : (!l.any fun n => !p n) = true) : ∀ n ∈ l, p n = true := by
 intro n hn
 cases hp : p n with
 | true => rfl
 | false =>
  rw [List.any_eq_true.2 ⟨n, hn, by rw [hp]; rfl⟩] at h
  cases h
theorem pathB_len (w : Nat) (h4 : w ≤ 4) : ∀ (l : List (Bool × List Int)), (∀ s ∈ l, okSeg w s = true) → (pathB w l).length ≤ l.length * 258 := by
 intro l
 induction l with
 | nil => intro _; simp [pathB]
 | cons s l ih =>
  intro h
  have h1 := ih fun t ht => h t (by simp [ht])
  have h2 := h s (by simp)
  simp only [okSeg, Bool.and_eq_true, decide_eq_true_eq] at h2
  have h3 : s.2.length * w ≤ 64 * 4 := Nat.mul_le_mul h2.1.2 h4
  rw [show pathB w (s :: l) = segB w s ++ pathB w l from rfl, List.length_append, segB, List.length_cons, List.length_cons, nb_length, List.length_cons]
  omega
def okP (w : Nat) (p : PA) : Bool := decide (0 ≤ p.org ∧ p.org ≤ 2 ∧ p.nxt ≠ 0 ∧ -1 ≤ p.med ∧ p.med ≤ 4294967295 ∧ -1 ≤ p.pref ∧ p.pref ≤ 4294967295 ∧ p.path.length ≤ 8 ∧ p.comms.length ≤ 32) &&
 !p.path.any (fun s => !okSeg w s) && !p.comms.any (fun n => !fitsB 4 n)
structure OkP (w : Nat) (p : PA) : Prop where
 o : 0 ≤ p.org ∧ p.org ≤ 2
 n : 0 < p.nxt ∧ p.nxt ≤ 4294967295
 m : -1 ≤ p.med ∧ p.med ≤ 4294967295
 f : -1 ≤ p.pref ∧ p.pref ≤ 4294967295
 l : p.path.length ≤ 8
 c : p.comms.length ≤ 32
 s : ∀ s ∈ p.path, okSeg w s = true
 cs : ∀ n ∈ p.comms, fitsB 4 n = true
theorem okP_of {w : Nat} {p : PA} (hn : 0 ≤ p.nxt ∧ p.nxt ≤ 4294967295) (h : okP w p = true) : OkP w p := by
 simp only [okP, Bool.and_eq_true, decide_eq_true_eq] at h
 obtain ⟨⟨h1, h2⟩, h3⟩ := h
 exact ⟨by omega, by omega, by omega, by omega, by omega, by omega, any_not h2, any_not h3⟩
theorem any_not' {α : Type} {p : α → Bool} {l : List α} (h : ∀ n ∈ l, p n = true) : (!l.any fun n => !p n) = true := by
 rw [List.any_eq_false.2 fun n hn => by rw [h n hn]; decide]
 rfl
theorem bt {a b j : Nat} (c : Prop) [Decidable c] (ha : a.testBit j = false) (hb : b.testBit j = false) : (a ||| if c then b else 0).testBit j = false := by
 by_cases h : c
 ·rw [if_pos h, Nat.testBit_or, ha, hb]; rfl
 ·rw [if_neg h, Nat.or_zero, ha]
def bits (p : PA) : Nat := (((14 ||| if 0 ≤ p.med then 16 else 0) ||| if 0 ≤ p.pref then 32 else 0) ||| if 0 < p.comms.length then 256 else 0)
theorem numsG_fits (w : Nat) (n : Nat) (l : List UInt8) : ∀ x ∈ numsG w n l, fitsB w x = true := by
 intro x hx
 obtain ⟨i, _, rfl⟩ := List.mem_map.1 hx
 have h1 := ge_lt ((l.drop (i * w)).take w)
 have h2 : ((l.drop (i * w)).take w).length ≤ w := by simp; omega
 have h3 := Nat.pow_le_pow_right (show 0 < 256 by decide) h2
 simp only [fitsB, Bool.and_eq_true, decide_eq_true_eq]
 omega
theorem segsR_ok (w : Nat) : ∀ (n : Nat) (acc : List (Bool × List Int)) (l : List UInt8) (p : List (Bool × List Int)), segsG w n acc l = some p → acc.length ≤ 8 → (∀ s ∈ acc, okSeg w s = true) → p.length ≤ 8 ∧ ∀ s ∈ p, okSeg w s = true := by
 intro n
 induction n with
 | zero => intro acc l p h; cases h
 | succ n ih =>
  intro acc l p h h1 h2
  match l, h with
  | [], h => cases h; exact ⟨h1, h2⟩
  | k :: q :: l, h =>
   simp only [segsG] at h
   split at h
   ·rename_i hc
    refine ih _ _ _ h (by simp; omega) fun s hs => ?_
    rcases List.mem_append.1 hs with hs | hs
    ·exact h2 s hs
    ·simp at hs
     subst hs
     simp only [okSeg, numsG_length]
     rw [any_not' (numsG_fits w _ _), decide_eq_true (by omega)]
     rfl
   ·cases h
structure OkS (w : Nat) (s : GS) : Prop where
 o : 0 ≤ s.a.org ∧ s.a.org ≤ 2
 n : 0 ≤ s.a.nxt ∧ s.a.nxt ≤ 4294967295
 n3 : s.seen.testBit 3 = true → s.a.nxt ≠ 0
 m : -1 ≤ s.a.med ∧ s.a.med ≤ 4294967295
 f : -1 ≤ s.a.pref ∧ s.a.pref ≤ 4294967295
 l : s.a.path.length ≤ 8
 c : s.a.comms.length ≤ 32
 sg : ∀ t ∈ s.a.path, okSeg w t = true
 cs : ∀ n ∈ s.a.comms, fitsB 4 n = true
 b2 : s.seen.testBit 2 = false → s.a.path = []
 b8 : s.seen.testBit 8 = false → s.a.comms = []
 sl : s.seen < 512
theorem okS_p0 (w : Nat) : OkS w ⟨p0, 0⟩ := ⟨by decide, by decide, by decide, by decide, by decide, by decide, by decide, fun t h => (by cases h), fun t h => (by cases h), fun _ => rfl, fun _ => rfl, by decide⟩
theorem ge_four {d : List UInt8} (h : d.length = 4) : (ge d : Int) ≤ 4294967295 := by
 have := ge_lt d
 rw [h] at this
 omega
theorem or_lt512 {s k : Nat} (hs : s < 512) (hk : k ≤ 8) : s ||| 2 ^ k < 512 := Nat.or_lt_two_pow (n := 9) hs (by have := Nat.pow_lt_pow_right (a := 2) (by decide) (show k < 9 by omega); omega)
theorem flags_le {k : Nat} (h : ¬ flagsI k < 0) : k = 1 ∨ k = 2 ∨ k = 3 ∨ k = 4 ∨ k = 5 ∨ k = 8 := by
 unfold flagsI at h
 split at h
 ·omega
 ·split at h
  ·omega
  ·split at h
   ·omega
   ·omega
theorem takeG_ok {w f k : Nat} {d : List UInt8} {s s' : GS} (h : takeG w f k d s = some s') (hs : OkS w s) : OkS w s' := by
 unfold takeG at h
 split at h
 ·split at h
  ·cases h; exact hs
  ·cases h
 rename_i hk
 have hk := flags_le hk
 split at h
 ·cases h; exact hs
 split at h
 rotate_left
 ·cases h
 split at h
 ·cases h
 rename_i hbit _ a ha
 cases h
 have hsl := or_lt512 hs.sl (show k ≤ 8 by omega)
 have hb : ∀ j, j ≠ k → (s.seen ||| 2 ^ k).testBit j = s.seen.testBit j := fun j hj => by
  rw [Nat.testBit_or, Nat.testBit_two_pow_of_ne (Ne.symm hj), Bool.or_false]
 have hb1 : (s.seen ||| 2 ^ k).testBit k = true := by rw [Nat.testBit_or, Nat.testBit_two_pow_self, Bool.or_true]
 unfold setG at ha
 rcases hk with rfl | rfl | rfl | rfl | rfl | rfl
 ·rw [if_pos rfl] at ha
  split at ha
  ·cases ha
  ·cases ha
   exact ⟨by simp only; omega, hs.n, by rw [hb 3 (by decide)]; exact hs.n3, hs.m, hs.f, hs.l, hs.c, hs.sg, hs.cs, by rw [hb 2 (by decide)]; exact hs.b2, by rw [hb 8 (by decide)]; exact hs.b8, hsl⟩
 ·rw [if_neg (by decide), if_pos rfl] at ha
  split at ha
  ·cases ha
  ·rename_i p hp
   cases ha
   have h1 := segsR_ok w _ _ _ _ hp (by decide) (fun s h => by cases h)
   exact ⟨hs.o, hs.n, by rw [hb 3 (by decide)]; exact hs.n3, hs.m, hs.f, h1.1, hs.c, h1.2, hs.cs, (by rw [hb1]; intro h; cases h), by rw [hb 8 (by decide)]; exact hs.b8, hsl⟩
 ·rw [if_neg (by decide), if_neg (by decide), if_neg (by decide)] at ha
  split at ha
  ·cases ha
  rw [if_pos rfl] at ha
  split at ha
  ·cases ha
  ·cases ha
   have h4 := ge_four (d := d) (by omega)
   exact ⟨hs.o, ⟨by simp only; omega, h4⟩, fun _ => by simp only; omega, hs.m, hs.f, hs.l, hs.c, hs.sg, hs.cs, by rw [hb 2 (by decide)]; exact hs.b2, by rw [hb 8 (by decide)]; exact hs.b8, hsl⟩
 ·rw [if_neg (by decide), if_neg (by decide), if_neg (by decide)] at ha
  split at ha
  ·cases ha
  rw [if_neg (by decide), if_pos rfl] at ha
  cases ha
  have h4 := ge_four (d := d) (by omega)
  exact ⟨hs.o, hs.n, by rw [hb 3 (by decide)]; exact hs.n3, ⟨by simp only; omega, h4⟩, hs.f, hs.l, hs.c, hs.sg, hs.cs, by rw [hb 2 (by decide)]; exact hs.b2, by rw [hb 8 (by decide)]; exact hs.b8, hsl⟩
 ·rw [if_neg (by decide), if_neg (by decide), if_neg (by decide)] at ha
  split at ha
  ·cases ha
  rw [if_neg (by decide), if_neg (by decide)] at ha
  cases ha
  have h4 := ge_four (d := d) (by omega)
  exact ⟨hs.o, hs.n, by rw [hb 3 (by decide)]; exact hs.n3, hs.m, ⟨by simp only; omega, h4⟩, hs.l, hs.c, hs.sg, hs.cs, by rw [hb 2 (by decide)]; exact hs.b2, by rw [hb 8 (by decide)]; exact hs.b8, hsl⟩
 ·rw [if_neg (by decide), if_neg (by decide), if_pos rfl] at ha
  split at ha
  ·cases ha
  ·cases ha
   exact ⟨hs.o, hs.n, by rw [hb 3 (by decide)]; exact hs.n3, hs.m, hs.f, hs.l, by simp only [numsG_length]; omega, hs.sg, numsG_fits 4 _ _, by rw [hb 2 (by decide)]; exact hs.b2, (by rw [hb1]; intro h; cases h), hsl⟩
theorem allG_ok (w : Nat) : ∀ (n : Nat) (s : GS) (l : List UInt8) (s' : GS), allG w n s l = some s' → OkS w s → OkS w s' := by
 intro n
 induction n with
 | zero => intro s l s' h; cases h
 | succ n ih =>
  intro s l s' h hs
  cases l with
  | nil => cases h; exact hs
  | cons b l =>
   simp only [allG] at h
   split at h
   ·cases h
   ·split at h
    ·cases h
    ·rename_i ht
     exact ih _ _ _ h (takeG_ok ht hs)
theorem get_ok {w : Nat} {l : List UInt8} {p : PA} (h : getG w l = (p, 1)) : OkP w p := by
 unfold getG at h
 split at h
 ·injection h with _ h; exact absurd h (by decide)
 ·rename_i s hs
  split at h
  ·rename_i hm
   injection h with h _
   subst h
   have := allG_ok w _ _ _ _ hs (okS_p0 w)
   have h3 : s.seen.testBit 3 = true := by
    unfold mustB at hm
    simp only [Bool.and_eq_true] at hm
    exact hm.2
   have hn := this.n3 h3
   exact ⟨this.o, by have := this.n; omega, this.m, this.f, this.l, this.c, this.sg, this.cs⟩
  ·injection h with _ h; exact absurd h (by decide)
attribute [local go_sem] Oper.semAt_some
def chkV (A : Option Addr) (c k : Nat) : Value := .slice (cutA A 1 c (4 * k)) 4 4
set_option maxRecDepth 100000 in
theorem chunk_in (l b1 b2 T1 T2 : Nat) (A : Option Addr) (c m : Nat) (hm : 4 * m ≤ 1000000) (hc : 4 * m ≤ c) (J Jx : List (Fin m) → World → Prop)
  (hJ : ∀ s (W : World), J s W → J s W.drew)
  (hY : ∀ pre x W, J pre W → pre.length < m → YieldAt Fence.wide 1 Tryz.prog l #[chkV A c x.val] W fun e W' =>
   (e = .returned (.bool true) ∧ J (pre ++ [x]) W' ∧ KpB b1 b2 W W') ∨ (e = .returned (.bool false) ∧ Jx (pre ++ [x]) W'))
  (W : World) (h1 : W.heap[b1]? = some (.cells #[.slice A (4 * m) c] T1 (0, 0))) (h2 : W.heap[b2]? = some (.cells #[.int .i64 4] T2 (0, 0))) (h0 : J [] W) :
  CallsIn Fence.wide 2 Tryz.prog 229 #[.func (.yield l) #[] #[], .pointer (some ⟨b1, 0, none⟩), .pointer (some ⟨b2, 0, none⟩)] W fun e W' => (∃ v, e = .returned v) ∧
   ((∃ ys, ys = List.finRange m ∧ J ys W') ∨ (∃ pre, pre <+: List.finRange m ∧ Jx pre W')) := by
 refine callsIn_of_wp Tryz.func229 rfl trivial ?_ rfl
 simp only [Tryz.ntmps229, List.size_toArray, List.length_cons, List.length_nil, Nat.reduceAdd, Nat.reduceSub, Array.replicate_succ, Array.replicate_zero, List.push_toArray, List.append_toArray, List.nil_append, List.cons_append]
 gi_wp2
 gi_loopw [4] (fun p wr => ∃ (pre rest : List (Fin m)), p = .int .i64 (4 * pre.length : Nat) ∧ List.finRange m = pre ++ rest ∧ wr.heap[b1]? = some (.cells #[.slice A (4 * m) c] T1 (0, 0)) ∧ wr.heap[b2]? = some (.cells #[.int .i64 4] T2 (0, 0)) ∧ J pre wr)
  (fun p _ => match p with
   | .int _ q => 4 * m - q.toNat
   | _ => 0)
 case atStart =>
  exact ⟨[], List.finRange m, rfl, rfl, h1, h2, h0⟩
 case round =>
  obtain ⟨pre, rest, rfl, hx, hc1, hc2, hJs⟩ := hrel
  have hv1 : wr.cell? ⟨b1, 0, none⟩ = some (.slice A (4 * m) c) := by simp [World.cell?, hc1]
  have hv2 : wr.cell? ⟨b2, 0, none⟩ = some (.int .i64 4) := by simp [World.cell?, hc2]
  have hlen : pre.length + rest.length = m := by
   have := congrArg List.length hx
   simpa using this.symm
  cases rest with
  | nil =>
   simp at hlen
   gi_wp2
   go_end0
   exact ⟨⟨_, rfl⟩, .inl ⟨pre, by simp [hx], hJs⟩⟩
  | cons x rest =>
   simp at hlen
   have hxv : x.val = pre.length := by
    have h3 : (List.finRange m)[pre.length]? = some x := by rw [hx]; simp
    have h4 := (List.getElem?_eq_some_iff.1 h3).2
    simp at h4
    rw [← h4]
   obtain ⟨fn, tmps, assign, body, hy, hR⟩ := hY pre x wr.drew (hJ _ _ hJs) (by omega)
   have hcv : chkV A c x.val = .slice (A.map (fun y => y.add (4 * pre.length))) 4 4 := by
    unfold chkV cutA
    rw [hxv, if_neg (by omega), Nat.mul_one]
   rw [hcv] at hy
   gi_wp2
   gi_region
   have hd1 : wr.drew.cell? ⟨b1, 0, none⟩ = some (.slice A (4 * m) c) := hv1
   gi_wp2
   refine hR.mono ?_
   rintro e W3 (⟨rfl, hJ3, hk3⟩ | ⟨rfl, hJx3⟩)
   ·have hw1 : W3.heap[b1]? = some (.cells #[.slice A (4 * m) c] T1 (0, 0)) := hk3.1.trans hc1
    have hw2 : W3.heap[b2]? = some (.cells #[.int .i64 4] T2 (0, 0)) := hk3.2.trans hc2
    have hv1' : W3.cell? ⟨b1, 0, none⟩ = some (.slice A (4 * m) c) := by simp [World.cell?, hw1]
    have hv2' : W3.cell? ⟨b2, 0, none⟩ = some (.int .i64 4) := by simp [World.cell?, hw2]
    gi_wp2
    go_roundw
    case rel => exact ⟨pre ++ [x], rest, by simp; omega, by simp [hx], hw1, hw2, hJ3⟩
    case measure => simp; omega
   ·gi_wp2
    refine bodyPost_ret (results_none rfl _ _ _) rfl ?_
    exact ⟨⟨_, rfl⟩, .inr ⟨pre ++ [x], ⟨rest, by simp [hx]⟩, hJx3⟩⟩
@[reducible] def TG : Nat := 282
@[reducible] def TSg : Nat := 147
@[reducible] def TIn : Nat := 3
@[reducible] def rgC (a : AttS) (four : Bool) (seen : Int) : List Value := [.int .i64 a.org, .slice a.pA a.path.length a.pc, .int .u32 a.nxt, .int .i64 a.med, .int .i64 a.pref, .slice a.cA a.comms.length a.cc, .bool four, .int .u32 seen]
@[reducible] def ownI (A : Option Addr) (c : Nat) (l : List Int) : SL := own idE TIn 1 A l.length c (l.map iE)
theorem chunk_t (A : Option Addr) (n c : Nat) : Tri Tryz.prog 220 [.slice A n c, .int .i64 4] [] [] (fun _ : Nat × Nat => True) (fun x => .func (.func 229) #[] #[pt x.1, pt x.2])
  (fun x => [cel x.1 22 [.slice A n c], cel x.2 TIn [.int .i64 4]]) := by
 refine Tri_in Tryz.func220 rfl (fun w0 S0 => ?_)
 repeat' (first | refine SD ?_ | refine SB ?_ | (refine S2 ?_; intro _) | fail)
 rename_i b1 b2
 (refine SRt ?_; unfold RetQ; refine ⟨(b1, b2), trivial, rfl, Keeps.swap Keeps.refl⟩)
theorem chunk_stops {w0 : World} {S0 : Foot} {ro rw : List SL} {S : Foot} {w : World} (hf : Fits w0 S0 ro rw S w) {b1 b2 T1 T2 : Nat} {A : Option Addr} {n c m : Nat} (hn : n = 4 * m) (hm : 4 * m ≤ 1000000) (hc : 4 * m ≤ c)
  (h1 : cel b1 T1 [.slice A n c] ∈ ro) (h2 : cel b2 T2 [.int .i64 4] ∈ ro) :
  SeqStopsK Fence.wide 2 Tryz.prog 229 #[pt b1, pt b2] (fun x : Fin m => #[chkV A c x.val]) (KpB b1 b2) (fun ys => ys = List.finRange m) (fun pre => pre <+: List.finRange m) (List.finRange m).length w := fun l J Jx W hW hJ _ hY h0 => by
 subst hn
 obtain ⟨F1, hF1, hq1⟩ := hf.ros _ h1
 obtain ⟨F2, hF2, hq2⟩ := hf.ros _ h2
 exact chunk_in l b1 b2 T1 T2 A c m hm hc J Jx (fun s W' h => hJ s W' W'.drew none h ⟨rfl, rfl, rfl, Nat.le_refl _, fun _ _ _ => rfl⟩ (fun _ e => by cases e)) (fun pre x W1 hj hl => hY pre x W1 hj (by simpa using hl)) W
  ((hW.block _ (hF1 _ hq1.1).1).trans hq1.2) ((hW.block _ (hF2 _ hq2.1).1).trans hq2.2) h0
def cv (d : List UInt8) (k : Nat) : Int := (ge ((d.drop (4 * k)).take 4) : Int)
def cms (d : List UInt8) {m : Nat} (pre : List (Fin m)) : List Int := pre.map fun k => cv d k.val
theorem cms_all (d : List UInt8) (m : Nat) : cms d (List.finRange m) = numsG 4 m d := by
 unfold cms numsG cv
 apply List.ext_getElem
 ·simp
 ·intro i h1 h2
  simp [Nat.mul_comm]
def cmF (b : Nat) (a : AttS) (four : Bool) (seen : Int) (new : List Int) (x : OA) : List SL := [cel b TG (rgC { a with cA := x.1, cc := x.2, comms := a.comms ++ new } four seen), ownI x.1 x.2 (a.comms ++ new)]
theorem cmF_nil (b : Nat) (a : AttS) (four : Bool) (seen : Int) : cmF b a four seen [] (a.cA, a.cc) = [cel b TG (rgC a four seen), ownI a.cA a.cc a.comms] := by
 unfold cmF
 rw [List.append_nil]
theorem cmF_cells (b : Nat) (a : AttS) (four : Bool) (seen : Int) (new : List Int) : ∀ e ∈ [exS (cmF b a four seen new)], Cellish e := fun e he => by
 simp at he
 subst he
 refine Cellish.exS fun x e he => ?_
 simp [cmF] at he
 rcases he with rfl | rfl
 ·exact Cellish.cel
 ·exact Cellish.own
theorem cmF_cells' (b : Nat) (a : AttS) (four : Bool) (seen : Int) (new : List Int) (x : OA) : ∀ e ∈ cmF b a four seen new x, Cellish e := fun e he => by
 simp [cmF] at he
 rcases he with rfl | rfl
 ·exact Cellish.cel
 ·exact Cellish.own
theorem ge4 {l : List UInt8} (h : l.length = 4) : (ngetR l).1 = (ge l : Int) := by unfold ngetR; rw [if_neg (by omega)]
theorem comms_t (b : Nat) (a : AttS) (four : Bool) (seen : Int) (dA : Option Addr) (dc : Nat) (d : List UInt8) (hc : d.length ≤ dc) (m : Nat) (hm : d.length = 4 * m) (h1 : 1 ≤ m) (h32 : m ≤ 32) (ha : a.comms.length ≤ 1000000) :
  Tri Tryz.prog 234 [pt b, .slice dA d.length dc] [arr bE 1 dA d] [cel b TG (rgC a four seen), ownI a.cA a.cc a.comms] (fun _ : OA => True) (fun _ => .bool true)
   (fun x => [cel b TG (rgC { a with cA := x.1, cc := x.2, comms := a.comms ++ numsG 4 m d } four seen), ownI x.1 x.2 (a.comms ++ numsG 4 m d)]) := by
 have hrem : bRem (d.length : Int) 4 = 0 := by unfold bRem; rw [hm, Int.tmod_eq_emod_of_nonneg (by omega)]; omega
 refine Tri_ofM (N := Tryz.f234.ntmps) (c := bodyOf Tryz.f234) Tryz.func234 rfl rfl rfl rfl (fun w0 S0 => ?_)
 dsimp only [pt]
 repeat' (first | refine SD ?_ | (refine KC ?_; refine HO_call rfl rfl rfl rfl (chunk_t _ _ _) rfl (trivial) rfl rfl soA ?_; intro ⟨b1, b2⟩ hx; dsimp only [lca, lna]) | refine SB ?_ | (refine T2 ?_; intros) | fail)
 rename_i b0
 refine HC_give 0 rfl rfl (HC_give 0 rfl rfl (HC_give 0 rfl rfl ?_))
 refine HC_keeps (rw' := [exS (cmF b a four seen (cms d ([] : List (Fin m))))]) (by rw [← cmF_nil]; exact Keeps.ex _ Keeps.nil) ?_
 refine HC_range (α := Fin m) (ty := 22) (pos := "attr.go:148") (i := 4) (t := 23) (p := 24) (d := 5) rfl rfl rfl rfl (Go.Proofs.enters_of Tryz.func229 (by kernel_rfl) rfl) (fun k => chkV dA dc k.val) (List.finRange m) (b1 := b1) (b2 := b2) (T1 := 22) (T2 := TIn) (cs1 := [.slice dA d.length dc]) (cs2 := [.int .i64 4]) (by simp) (by simp)
  (fun S w hf => chunk_stops (T1 := 22) (T2 := TIn) hf hm (by omega) (by omega) (by simp) (by simp)) (fun pre => [exS (cmF b a four seen (cms d pre))]) rfl ?_ (fun pre => cmF_cells b a four seen _) ?_ ?_
 ·intro e he
  simp at he
  rcases he with rfl | rfl | rfl | rfl
  ·exact Cellish.cel
  ·exact Cellish.cel
  ·exact Cellish.cel
  ·exact Cellish.arr rfl
 ·intro l pre k w S hlen
  have hk := k.isLt
  have hpl : pre.length < m := by simpa using hlen
  have hcl : (cms d pre).length = pre.length := by simp [cms]
  have h4 : 4 = ((d.drop (4 * k.val)).take 4).length := by simp; omega
  have hg := ge4 h4.symm
  refine HR_ex fun ⟨xA, xc⟩ => ?_
  dsimp only [cmF, chkV]
  repeat' (first | refine SD ?_ | (refine KC ?_; refine HO_callq rfl rfl rfl rfl (nget_t (cutA dA 1 dc (4 * k.val)) 4 4 ((d.drop (4 * k.val)).take 4) h4) (fun _ _ => rfl) (AllSrc.via 3 rfl (arr_cut _ _ _ (fun h => by omega)) trivial) rfl rfl sqA ?_) | refine S1 ?_ | (refine T2 ?_; intros) | refine SR ?_ | refine S5 ?_ | fail)
  rename_i A' c'
  have e0 : a.comms ++ cms d (pre ++ [k]) = (a.comms ++ cms d pre) ++ [cv d k.val] := by simp [cms]
  have eL : (a.comms ++ cms d pre).length + 1 = (a.comms ++ cms d (pre ++ [k])).length := by rw [e0]; simp; omega
  have eM : List.map iE (a.comms ++ cms d pre) ++ [[Value.int .i64 (ge ((d.drop (4 * k.val)).take 4) : Int)]] = List.map iE (a.comms ++ cms d (pre ++ [k])) := by rw [e0, List.map_append (l₂ := [cv d k.val])]; rfl
  dsimp only
  rw [hg, eL, eM]
  exact HX_keeps (rw' := cmF b a four seen (cms d (pre ++ [k])) (A', c')) (Keeps.cons Ent.rfl_ (Keeps.cons Ent.rfl_ (Keeps.skip Keeps.nil))) (HX_keeps (Keeps.ex (A', c') Keeps.nil) (HX_endR rfl))
 ·intro D hD
  refine HX_ex fun ⟨xA, xc⟩ => ?_
  rw [cms_all]
  refine HM_block (HM_then (HM_seq rfl (HM_asg (i := 7) (d := 4) (ty := 4) (pos := "attr.go:152") (x := .const (.bool true)) rfl rfl rfl (HM_then (HM_ret rfl ?_)))))
  refine HX_retD hD (fun e he => by simp at he; simp [he]) (fun e he => by simp at he; subst he; exact Cellish.arr rfl) (fun e he => cmF_cells' b a four seen _ _ e he) (Res_tmp rfl Res_nil) ⟨(xA, xc), trivial, rfl, Keeps.refl⟩
end Go.Proofs.YteeogabkkblkgaaGreatDoor
