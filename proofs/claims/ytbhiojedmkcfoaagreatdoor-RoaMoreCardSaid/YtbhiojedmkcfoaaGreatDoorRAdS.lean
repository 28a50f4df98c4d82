/- Part of a proof of many texts: what the theorem at its end leans on. -/
import Derived.Test.YtbhiojedmkcfoaaGreatDoorShf
import Derived.Test.YtbhiojedmkcfoaaGreatDoorRKc
import Derived.Test.YtbhiojedmkcfoaaGreatDoorRTypes
namespace Go.Proofs.YtbhiojedmkcfoaaGreatDoor
set_option linter.unusedVariables false
set_option linter.unusedSimpArgs false
open Go.RowKit
attribute [local irreducible] HC HX HO Tri eP adr
def splB (c : UInt8) : List UInt8 → List (List UInt8)
 | [] => [[]]
 | x :: l => if x = c then [] :: splB c l else match splB c l with
  | [] => [[x]]
  | h :: t => (x :: h) :: t
def cutC (c : UInt8) : List UInt8 → List UInt8 × List UInt8 × Bool
 | [] => ([], [], false)
 | x :: l => if x = c then ([], l, true) else (x :: (cutC c l).1, (cutC c l).2.1, (cutC c l).2.2)
theorem idx_eq (c : UInt8) (l : List UInt8) : Lib.index (c :: l) [c] = 0 := by
 unfold Lib.index
 rw [if_pos (by simp)]
theorem idx_ne {x c : UInt8} (h : x ≠ c) (l : List UInt8) : Lib.index (x :: l) [c] = if Lib.index l [c] == -1 then -1 else Lib.index l [c] + 1 := by
 conv => lhs; unfold Lib.index
 rw [if_neg (by simp; exact fun e => h e.symm)]
theorem idx_cases (c : UInt8) (l : List UInt8) : Lib.index l [c] = -1 ∨ ∃ i : Nat, Lib.index l [c] = i := by
 have := Lib.index_ge l [c]
 by_cases h : Lib.index l [c] = -1
 ·exact .inl h
 ·exact .inr ⟨(Lib.index l [c]).toNat, by omega⟩
theorem cut_eq (c : UInt8) : ∀ l : List UInt8, Lib.cut l [c] = cutC c l
 | [] => rfl
 | x :: l => by
  have ih := cut_eq c l
  by_cases h : x = c
  ·subst h
   unfold Lib.cut cutC
   rw [idx_eq, if_pos (by decide), if_pos rfl]
   rfl
  ·unfold cutC
   rw [if_neg h, ← ih]
   unfold Lib.cut
   rw [idx_ne h]
   rcases idx_cases c l with e | ⟨i, e⟩
   ·rw [e]
    rfl
   ·have hb : (((i : Nat) : Int) == -1) = false := beq_false_of_ne (by omega)
    have e1 : ((i : Int) + 1).toNat = i + 1 := by omega
    simp only [e, hb, Bool.false_eq_true, if_false]
    rw [if_pos (by omega), if_pos (by omega), e1, Int.toNat_natCast]
    simp only [List.take_succ_cons, List.length_singleton]
    rfl
theorem splitK_eq (c : UInt8) : ∀ l : List UInt8, Lib.splitK [c] 0 (Lib.count l [c]) l = splB c l
 | [] => rfl
 | x :: l => by
  have ih := splitK_eq c l
  by_cases h : x = c
  ·subst h
   rw [Lib.count_cons_eq, Nat.add_comm]
   unfold Lib.splitK splB
   rw [idx_eq, if_neg (by decide), if_pos rfl, ← ih]
   rfl
  ·rw [Lib.count_cons_ne x c l h]
   unfold splB
   rw [if_neg h, ← ih]
   cases hk : Lib.count l [c] with
   | zero => rfl
   | succ k =>
    unfold Lib.splitK
    rw [idx_ne h]
    rcases idx_cases c l with e | ⟨i, e⟩
    ·rw [e]
     rfl
    ·have hb : (((i : Nat) : Int) == -1) = false := beq_false_of_ne (by omega)
     have hb1 : (((i : Nat) : Int) + 1 == -1) = false := beq_false_of_ne (by omega)
     have e1 : ((i : Int) + 1).toNat = i + 1 := by omega
     simp only [e, hb, hb1, Bool.false_eq_true, if_false, e1, Int.toNat_natCast, Nat.add_zero, List.take_succ_cons, List.length_singleton]
     rfl
theorem ba_data (l : List UInt8) : (ByteArray.mk l.toArray).data.toList = l := by simp
theorem ba_of (s : ByteArray) : s = ⟨s.data.toList.toArray⟩ := by apply ByteArray.ext; simp
theorem splitB_eq (c : UInt8) (l : List UInt8) : Lib.splitB ⟨#[c]⟩ 0 (Lib.countB ⟨l.toArray⟩ ⟨#[c]⟩) ⟨l.toArray⟩ = (splB c l).map fun x => (⟨x.toArray⟩ : ByteArray) := by
 have h := Lib.splitB_data ⟨#[c]⟩ 0 (Lib.countB ⟨l.toArray⟩ ⟨#[c]⟩) ⟨l.toArray⟩
 have e : Lib.countB ⟨l.toArray⟩ ⟨#[c]⟩ = Lib.count l [c] := by
  show Lib.count (ByteArray.mk l.toArray).data.toList _ = _
  rw [ba_data]
 rw [ba_data, ba_data, e, splitK_eq] at h
 rw [e, ← h, List.map_map]
 conv => lhs; rw [← List.map_id (Lib.splitB ⟨#[c]⟩ 0 (Lib.count l [c]) ⟨l.toArray⟩)]
 exact List.map_congr_left fun x _ => ba_of x
def dec3 (n : Nat) : List UInt8 := if n < 10 then [UInt8.ofNat (48 + n)] else if n < 100 then [UInt8.ofNat (48 + n / 10), UInt8.ofNat (48 + n % 10)] else [UInt8.ofNat (48 + n / 100), UInt8.ofNat (48 + n / 10 % 10), UInt8.ofNat (48 + n % 10)]
theorem dec3_eq (n : Nat) (h : n < 1000) : Lib.decDigits n = dec3 n := by
 unfold dec3
 by_cases h1 : n < 10
 ·rw [if_pos h1, Lib.decDigits, dif_pos h1]
 rw [if_neg h1, Lib.decDigits, dif_neg h1]
 by_cases h2 : n < 100
 ·rw [if_pos h2, Lib.decDigits, dif_pos (by omega)]
  rfl
 ·rw [if_neg h2, Lib.decDigits, dif_neg (by omega), Lib.decDigits, dif_pos (by omega)]
  rw [show n / 10 / 10 = n / 100 by omega]
  rfl
theorem below_grow (w : World) (n : Nat) (os : Array Obj) : Below w.heap.size w (Go.Sort.grow (w.drewN n) os) := by
 refine ⟨rfl, rfl, rfl, ?_, fun b hb => ?_⟩
 ·show w.heap.size ≤ (w.heap ++ os).size
  simp
 ·show (w.heap ++ os)[b]? = w.heap[b]?
  exact Array.getElem?_append_left hb
@[reducible] def maxLen0 (m : Int) : SL := glbs 1 #[.int .i64 m]
@[reducible] def tab1 : SL := glbs 2 (Lib.pow10Tab.map fun z => Value.int .u64 z).toArray
theorem g1 : Tryz.prog.globalNamed "internal/strconv.uint64pow10" = some 2 := by kernel_rfl
theorem itoa_t (n : Nat) (h : n < 1000) : Tri Tryz.prog 56 [.int .i64 n] [tab1] [] (fun _ : Unit => True) (fun _ => .string ⟨(dec3 n).toArray⟩) (fun _ => []) := by
 refine Tri_below fun w hro => ?_
 have := Tryz.strconv_Itoa n (by omega) (by omega) w (glbs_var g1 hro (List.mem_singleton.2 rfl))
 rw [show Lib.itoa (n : Int) = dec3 n by unfold Lib.itoa; rw [if_neg (by omega), Int.toNat_natCast, dec3_eq n h]] at this
 exact this.mono fun e w' ⟨h1, k, os, h2⟩ => ⟨h1, by rw [h2]; exact below_grow _ _ _⟩
theorem cutS_t (m : Int) (l : List UInt8) (hl : l.length < 4294967281) : Tri Tryz.prog 228 [.string ⟨l.toArray⟩, .string ⟨#[47]⟩] [maxLen0 m] [] (fun _ : Unit => True)
  (fun _ => .tuple #[.string ⟨(cutC 47 l).1.toArray⟩, .string ⟨(cutC 47 l).2.1.toArray⟩, .bool (cutC 47 l).2.2]) (fun _ => []) := by
 refine Tri_below fun w hro => ?_
 have := Tryz.strings_Cut ⟨l.toArray⟩ ⟨#[47]⟩ m w (by show l.toArray.size < _; simpa using hl) (glbs_cell hro (List.mem_singleton.2 rfl))
 rw [ba_data, ba_data, cut_eq] at this
 exact this.mono fun e w' ⟨h1, n, h2⟩ => ⟨h1, by rw [h2]; exact below_drew _ _⟩
theorem splS_t (m : Int) (l : List UInt8) (hl : l.length < 4294967281) : Tri Tryz.prog 61 [.string ⟨l.toArray⟩, .string ⟨#[46]⟩] [maxLen0 m] [] (fun _ : Nat => True)
  (fun b => .slice (some ⟨b, 0, none⟩) (splB 46 l).length (splB 46 l).length) (fun b => [arr strE 1 (some ⟨b, 0, none⟩) (splB 46 l)]) := by
 refine Tri_texts (T := 9) fun w hro => ?_
 have := Tryz.strings_Split ⟨l.toArray⟩ ⟨#[46]⟩ m w (by show l.toArray.size < _; simpa using hl) (glbs_cell hro (List.mem_singleton.2 rfl)) (by decide)
 have h1 := Lib.splitB_all ⟨#[46]⟩ (by decide) 0 _ (⟨l.toArray⟩ : ByteArray) rfl
 rw [splitB_eq, List.length_map] at h1
 rw [splitB_eq, ← h1, List.map_map] at this
 exact this
def joinS (l : List (List UInt8)) : List UInt8 := Lib.join l [46]
theorem joinS_t (A : Option Addr) (c : Nat) (l : List (List UInt8)) (h0 : l ≠ []) (hl : l.length ≤ 1000) (hj : (joinS l).length ≤ 1000000) : Tri Tryz.prog 54 [.slice A l.length c, .string ⟨#[46]⟩] [own idE 9 1 A l.length c (l.map strE)] [] (fun _ : Unit => True)
  (fun _ => .string ⟨(joinS l).toArray⟩) (fun _ => []) := by
 refine Tri_below fun w hro => ?_
 obtain ⟨F, hF, hp⟩ := hro _ (List.mem_singleton.2 rfl)
 obtain ⟨ad, hA, _, hc⟩ := own_e (enc := strE) _ _ hp h0
 rcases hp.2.1.2 with ⟨hv, hn⟩ | ⟨g, cap, cur, hv, _, hh, hnc, _⟩
 ·exact absurd (List.eq_nil_of_length_eq_zero hn) h0
 injection hv with hv1 _ hv2
 subst hv2
 rw [hA] at hv1
 injection hv1 with hv1
 subst hv1 hA
 have hg : g < w.heap.size := by
  rcases Nat.lt_or_ge g w.heap.size with h | h
  ·exact h
  ·rw [Array.getElem?_eq_none h] at hh
   cases hh
 have e1 : ((l.map fun x => (⟨x.toArray⟩ : ByteArray)).map (·.data.toList)) = l := by
  rw [List.map_map]
  conv => rhs; rw [← List.map_id l]
  exact List.map_congr_left fun x _ => ba_data x
 have := Tryz.strings_Join g 0 c (l.map fun x => (⟨x.toArray⟩ : ByteArray)) ⟨#[46]⟩ w (fun j x hj => by
  rw [List.getElem?_map] at hj
  cases hx : l[j]? with
  | none => rw [hx] at hj; cases hj
  | some y =>
   rw [hx] at hj
   injection hj with hj
   subst hj
   have := hc j y hx 0 (.string ⟨y.toArray⟩) rfl
   rw [show ((⟨g, 0, none⟩ : Addr).add (j * 1 + 0)) = ⟨g, 0 + j, none⟩ by simp [Addr.add]; omega] at this
   exact this) hg (by rw [List.length_map]; omega) (by rw [List.length_map]; exact hnc) (by rw [e1]; show (joinS l).length ≤ _; omega)
 rw [e1, List.length_map] at this
 exact this
end Go.Proofs.YtbhiojedmkcfoaaGreatDoor
