/- The law's lives: it returns true. -/
import Derived.Test.YtklkmdlnbddfaaaAttQ
import Derived.Test.YtklkmdlnbddfaaaAttV
namespace Go.Proofs.Ytklkmdlnbddfaaa
set_option linter.unusedVariables false
set_option linter.unusedSimpArgs false
open Go.RowKit
attribute [local irreducible] HC HX HO Tri eP adr

def aV : AttS := ⟨0, none, 0, [], 167772161, -1, -1, none, 0, []⟩
def dV (b1 b2 b3 b4 : Nat) : AttS := ⟨2, some ⟨b3, 0, none⟩, 2, [⟨false, some ⟨b1, 0, none⟩, 2, [7, 70000]⟩, ⟨true, some ⟨b2, 0, none⟩, 2, [1, 2]⟩], 9, 5, 100, some ⟨b4, 0, none⟩, 1, [2147483648]⟩
def dP : PA := ⟨2, [(false, [7, 70000]), (true, [1, 2])], 9, 5, 100, [2147483648]⟩
def aBs : List UInt8 := [64, 1, 1, 0, 64, 2, 0, 64, 3, 4, 10, 0, 0, 1]
theorem aBs_eq : putB 4 aV.pa = aBs := by decide +kernel
theorem ok_a : OkP 4 aV.pa := okP_of (by decide) (by decide +kernel)
theorem ok_d : OkP 4 dP := okP_of (by decide) (by decide +kernel)
theorem lim_pa {a : AttS} {w : Nat} {p : PA} (h : a.pa = p) (hp : OkP w p) : Lim a := by
  subst h
  have h1 := hp.l
  have h2 := hp.c
  simp only [AttS.pa, spl_len] at h1 h2
  refine ⟨by omega, by omega, fun s hs => ?_⟩
  have := hp.s (s.set, s.ns) (List.mem_map.2 ⟨s, hs, rfl⟩)
  simp only [okSeg, Bool.and_eq_true, decide_eq_true_eq] at this
  omega
theorem put1_t : Tri Try.prog 15 [.agg aV.e.toArray, .bool true] aV.ro [] (fun _ : OA => True) (fun x => .tuple #[.slice x.1 14 x.2, .int .i64 0]) (fun x => [ownB x aBs]) := by
  have := aput_t aV true (by decide +kernel) (by decide)
  rw [show szF true = 4 from rfl, aBs_eq] at this
  exact this
theorem get1_t (A : Option Addr) (c : Nat) : Tri Try.prog 18 [.slice A 14 c, .bool true] [arr bE 1 A aBs] [] (fun a : AttS => a.pa = aV.pa) (fun a => .tuple #[.agg a.e.toArray, .int .i64 1]) (fun a => a.ro) := by
  have := aget_t true A c aBs (by decide)
  rw [show szF true = 4 from rfl, ← aBs_eq, get_put 4 (by decide) aV.pa ok_a] at this
  rw [← aBs_eq]
  exact this
theorem put2_t (b1 b2 b3 b4 : Nat) : Tri Try.prog 15 [.agg (dV b1 b2 b3 b4).e.toArray, .bool true] (segPs (dV b1 b2 b3 b4).path ++ [arr SegS.e 2 (some ⟨b3, 0, none⟩) (dV b1 b2 b3 b4).path, arr iE 1 (some ⟨b4, 0, none⟩) [2147483648]]) []
    (fun _ : OA => True) (fun x => .tuple #[.slice x.1 (putB 4 dP).length x.2, .int .i64 0]) (fun x => [ownB x (putB 4 dP)]) :=
  Tri_inn (aput_t (dV b1 b2 b3 b4) true (by rw [ok_pa]; exact okP_to ok_d) ⟨by show (0 : Int) ≤ 9; decide, by show (9 : Int) ≤ 4294967295; decide⟩)
theorem get2_t (A : Option Addr) (c : Nat) : Tri Try.prog 18 [.slice A (putB 4 dP).length c, .bool true] [arr bE 1 A (putB 4 dP)] [] (fun a : AttS => a.pa = dP) (fun a => .tuple #[.agg a.e.toArray, .int .i64 1]) (fun a => a.ro) := by
  have := aget_t true A c (putB 4 dP) (by decide +kernel)
  rw [show szF true = 4 from rfl, get_put 4 (by decide) dP ok_d] at this
  exact this
theorem put3_t (b1 b2 b3 b4 : Nat) : Tri Try.prog 15 [.agg (dV b1 b2 b3 b4).e.toArray, .bool false] (segPs (dV b1 b2 b3 b4).path ++ [arr SegS.e 2 (some ⟨b3, 0, none⟩) (dV b1 b2 b3 b4).path, arr iE 1 (some ⟨b4, 0, none⟩) [2147483648]]) []
    (fun _ : Unit => True) (fun x => .tuple #[.slice none 0 0, .int .i64 50]) (fun x => []) :=
  Tri_inn (aput_bad (dV b1 b2 b3 b4) false (by rw [ok_pa]; show okP 2 dP = false; decide +kernel) (by show 2 ≤ 1000000; decide) (by show 1 ≤ 1000000; decide) (fun s hs => by
    rcases List.mem_cons.1 hs with rfl | hs
    · show 2 ≤ 1000000; decide
    · simp at hs; subst hs; show 2 ≤ 1000000; decide))
theorem get3_t : Tri Try.prog 18 [.slice none 0 0, .bool true] [] [] (fun a : AttS => a.pa = pz) (fun a => .tuple #[.agg a.e.toArray, .int .i64 2]) (fun a => a.ro) :=
  Tri_free (aget_t true none 0 [] (by decide)) (fun w => arr_nil _ w)
theorem get4_t (b : Nat) (c : Nat) : Tri Try.prog 18 [.slice (some ⟨b, 0, none⟩) 4 c, .bool true] [arr bE 1 (some ⟨b, 0, none⟩) [64, 1, 1, 3]] [] (fun a : AttS => a.pa = pz) (fun a => .tuple #[.agg a.e.toArray, .int .i64 3]) (fun a => a.ro) :=
  aget_t true (some ⟨b, 0, none⟩) c [64, 1, 1, 3] (by decide)
theorem same1_t (c : AttS) (h : c.pa = aV.pa) : Tri Try.prog 20 [.agg aV.e.toArray, .agg c.e.toArray] (aV.ro ++ c.ro) [] (fun _ : Unit => True) (fun _ => .bool true) (fun _ => []) := by
  have := rsame_t aV c (lim_pa rfl ok_a) (lim_pa h ok_a)
  rw [h, sameB_refl] at this
  exact this
theorem same2_t (b1 b2 b3 b4 : Nat) (c : AttS) (h : c.pa = dP) : Tri Try.prog 20 [.agg (dV b1 b2 b3 b4).e.toArray, .agg c.e.toArray] (segPs (dV b1 b2 b3 b4).path ++ (arr SegS.e 2 (some ⟨b3, 0, none⟩) (dV b1 b2 b3 b4).path :: arr iE 1 (some ⟨b4, 0, none⟩) [2147483648] :: c.ro)) [] (fun _ : Unit => True) (fun _ => .bool true) (fun _ => []) := by
  have := rsame_t (dV b1 b2 b3 b4) c (lim_pa (p := dP) rfl ok_d) (lim_pa h ok_d)
  rw [h, show (dV b1 b2 b3 b4).pa = dP from rfl, sameB_refl] at this
  exact Tri_inn this
theorem same3_t (b1 b2 b3 b4 : Nat) (c : AttS) (h : c.pa = dP) : Tri Try.prog 22 [.agg (dV b1 b2 b3 b4).e.toArray, .agg c.e.toArray] (segPs (dV b1 b2 b3 b4).path ++ (arr SegS.e 2 (some ⟨b3, 0, none⟩) (dV b1 b2 b3 b4).path :: arr iE 1 (some ⟨b4, 0, none⟩) [2147483648] :: c.ro)) [] (fun _ : Unit => True) (fun _ => .bool true) (fun _ => []) := by
  have := asame_t (dV b1 b2 b3 b4) c (lim_pa (p := dP) rfl ok_d) (lim_pa h ok_d)
  rw [h, show (dV b1 b2 b3 b4).pa = dP from rfl, sameB_refl] at this
  exact Tri_inn this
@[reducible] def dR (b1 b2 b3 b4 : Nat) : List SL := segPs (dV b1 b2 b3 b4).path ++ [arr SegS.e 2 (some ⟨b3, 0, none⟩) (dV b1 b2 b3 b4).path, arr iE 1 (some ⟨b4, 0, none⟩) [2147483648]]
theorem len_t (b1 b2 b3 b4 : Nat) : Tri Try.prog 23 [.agg (dV b1 b2 b3 b4).e.toArray] (dR b1 b2 b3 b4) [] (fun _ : Unit => True) (fun _ => .int .i64 3) (fun _ => []) := Tri_inn (alen_t (dV b1 b2 b3 b4) (lim_pa (p := dP) rfl ok_d))
theorem fst_t (b1 b2 b3 b4 : Nat) : Tri Try.prog 25 [.agg (dV b1 b2 b3 b4).e.toArray] (dR b1 b2 b3 b4) [] (fun _ : Unit => True) (fun _ => .int .i64 7) (fun _ => []) := Tri_inn (afst_t (dV b1 b2 b3 b4))
theorem hasT_t (b1 b2 b3 b4 : Nat) : Tri Try.prog 27 [.agg (dV b1 b2 b3 b4).e.toArray, .int .i64 2] (dR b1 b2 b3 b4) [] (fun _ : Unit => True) (fun _ => .bool true) (fun _ => []) := Tri_inn (ahas_t (dV b1 b2 b3 b4) 2 (lim_pa (p := dP) rfl ok_d))
theorem hasF_t (b1 b2 b3 b4 : Nat) : Tri Try.prog 27 [.agg (dV b1 b2 b3 b4).e.toArray, .int .i64 3] (dR b1 b2 b3 b4) [] (fun _ : Unit => True) (fun _ => .bool false) (fun _ => []) := Tri_inn (ahas_t (dV b1 b2 b3 b4) 3 (lim_pa (p := dP) rfl ok_d))
theorem chk_t : Tri Try.prog 17 [.agg aV.e.toArray, .bool false] aV.ro [] (fun _ : Unit => True) (fun _ => .int .i64 0) (fun _ => []) := acheck_t aV false (by decide) (by decide) (fun s hs => by cases hs)
end Go.Proofs.Ytklkmdlnbddfaaa
