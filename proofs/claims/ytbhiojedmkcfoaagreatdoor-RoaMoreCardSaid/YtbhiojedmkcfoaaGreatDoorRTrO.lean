/- Part of a proof of many texts: what the theorem at its end leans on. -/
import Derived.Test.YtbhiojedmkcfoaaGreatDoorRTrC
import Derived.Test.YtbhiojedmkcfoaaGreatDoorRCgB
namespace Go.Proofs.YtbhiojedmkcfoaaGreatDoor
set_option linter.unusedVariables false
set_option linter.unusedSimpArgs false
open Go.RowKit
attribute [local irreducible] HC HX HO Tri eP adr
def lnT (x : RoQ) : List UInt8 := shoS x.a x.n ++ [32] ++ decD x.mx.toNat ++ [32] ++ decD x.asn.toNat ++ [10]
def roT (l : List RoQ) : List UInt8 := l.flatMap lnT
theorem roT_take {l : List RoQ} {j : Nat} {x : RoQ} (h : l[j]? = some x) : roT (l.take (j + 1)) = roT (l.take j) ++ lnT x := by
 unfold roT
 rw [take_snoc h, List.flatMap_append]
 simp
theorem roT_le (l : List RoQ) (j : Nat) : (roT (l.take j)).length ≤ (roT l).length := by
 have : roT l = roT (l.take j) ++ roT (l.drop j) := by
  unfold roT
  rw [← List.flatMap_append, List.take_append_drop]
 rw [this, List.length_append]
 omega
set_option maxHeartbeats 1000000000 in
theorem roshow_t (A : Option Addr) (c : Nat) (l : List RoQ) (hl : l.length ≤ 4096) (hne : roT l ≠ []) (ha : ∀ x ∈ l, x.a < 4294967296) (hok : roaOk l = true) (hT : (roT l).length ≤ 900000) :
  Tri Tryz.prog 87 [.slice A l.length c] [arr RoQ.e 4 A l, tab1] [] (fun _ : Unit => True) (fun _ => .string ⟨(roT l).toArray⟩) (fun _ => []) := by
 have c1 := rocheck_t A c l hl ha
 rw [hok] at c1
 simp only [if_true] at c1
 have hall : ∀ x ∈ l, roOk x = true := by
  unfold roaOk at hok
  simp only [Bool.and_eq_true, List.all_eq_true] at hok
  exact hok.1
 refine Tri_of (N := Tryz.f87.ntmps) (c := bodyOf Tryz.f87) Tryz.func87 rfl rfl rfl rfl (fun w0 S0 => ?_)
 repeat' (first | refine SW ?_ | refine SD ?_ | (refine HO_k 12 rfl ?_; refine HO_callq rfl rfl rfl rfl (c1) (fun _ _ => rfl) (srcsA) rfl rfl sqA ?_) | exact HO_seg rfl rfl | refine S1 ?_ | (refine S2 ?_; intro _) | (refine S3 ?_; intro _ _) | (refine S4 ?_; intro _ _ _) | (refine HO_g 2 rfl ?_; first | apply HO_a1 rfl | apply HO_o1 rfl) | refine S5 ?_ | (intro hb; try replace hb := simB hb; try exact kill hb))
 rename_i b
 refine HC_keeps (rw' := bldP b false (none, 0) []) (Keeps.pick 0 rfl rfl (Keeps.add (fun w => own_nil w) Keeps.nil)) ?_
 refine HC_loop (α := Nat × Bool × OA) (fun y => y.1 ≤ l.length) (fun y => [(11, .int .i64 y.1), (10, .int .i64 l.length), (9, .slice A l.length c), (3, pt b)]) (fun y => bldP b y.2.1 y.2.2 (roT (l.take y.1))) (fun y => l.length - y.1) rfl (0, false, none, 0) (Nat.zero_le _) ⟨rfl, rfl, rfl, rfl, trivial⟩ rfl ?_
 rintro ⟨j, u, o⟩ hj
 dsimp only at hj ⊢
 rcases Nat.lt_or_ge j l.length with hlt | hge
 ·obtain ⟨x, hx⟩ : ∃ x, l[j]? = some x := ⟨l[j], List.getElem?_eq_getElem hlt⟩
  have hxm := List.mem_of_getElem? hx
  have hxo := hall x hxm
  unfold roOk at hxo
  simp only [Bool.and_eq_true, decide_eq_true_eq] at hxo
  obtain ⟨⟨⟨⟨o1, o2⟩, o3⟩, o4⟩, o5⟩ := hxo
  have o6 := okX_len o1
  have c2 := show_t x.a (ha x hxm) x.n
  have c3 := itoaD_t x.mx (by omega) (by omega)
  have c4 := itoaD_t x.asn o4 (by omega)
  have hst := roT_take hx
  have hle := roT_le l (j + 1)
  rw [hst] at hle
  unfold lnT at hst hle
  obtain ⟨P1, hP1⟩ : ∃ L, shoS x.a x.n = L := ⟨_, rfl⟩
  obtain ⟨P2, hP2⟩ : ∃ L, decD x.mx.toNat = L := ⟨_, rfl⟩
  obtain ⟨P3, hP3⟩ : ∃ L, decD x.asn.toNat = L := ⟨_, rfl⟩
  rw [hP1] at c2 hst hle
  rw [hP2] at c3 hst hle
  rw [hP3] at c4 hst hle
  simp only [List.length_append, List.length_cons, List.length_nil] at hle
  have c5 := wstr_t b u o (roT (l.take j)) (P1 ++ [32] ++ P2 ++ [32] ++ P3 ++ [10]) (by simp only [List.length_append, List.length_cons, List.length_nil]; omega)
  unfold pfV at c2
  dsimp only [bldP] at c5 ⊢
  repeat' (first | refine SW ?_ | (refine HC_lex rfl rfl (by decide +kernel) rfl rfl ?_) | refine SD ?_ | (refine HO_k 12 rfl ?_; refine HO_callq rfl rfl rfl rfl (c2) (fun _ _ => rfl) (srcsA) rfl rfl sqA ?_) | (refine HO_k 12 rfl ?_; refine HO_callq rfl rfl rfl rfl (c3) (fun _ _ => rfl) (srcsA) rfl rfl sqA ?_) | (refine HO_k 12 rfl ?_; refine HO_callq rfl rfl rfl rfl (c4) (fun _ _ => rfl) (srcsA) rfl rfl sqA ?_) | (refine HO_k 0 rfl ?_; refine HO_cat rfl rfl rfl (by simp only [List.length_append, List.length_cons, List.length_nil]; omega) rfl rfl rdA ?_) | (refine HO_k 12 rfl ?_; refine HO_mv 1 rfl rfl ?_; refine HO_mv 2 rfl rfl ?_; refine HO_call rfl rfl rfl rfl (c5) rfl (trivial) rfl rfl soA ?_; intro y hy; dsimp only [lca, lna]) | (refine HO_k 12 rfl ?_; refine HO_call rfl rfl rfl rfl (c5) rfl (trivial) rfl rfl soA ?_; intro y hy; dsimp only [lca, lna]) | exact HO_seg rfl rfl | refine S1 ?_ | (refine S2 ?_; intro _) | (refine S3 ?_; intro _ _) | (refine S4 ?_; intro _ _ _) | (refine HO_g 2 rfl ?_; first | apply HO_a1 rfl | apply HO_o1 rfl) | refine S5 ?_ | (intro hb; try replace hb := simB hb; try exact kill hb))
  rw [← hst]
  refine HX_keeps (rw' := bldP b true y (roT (l.take (j + 1)))) (Keeps.skip Keeps.refl) ?_
  exact HX_at (j + 1, true, y) ⟨hlt, by show l.length - (j + 1) < l.length - j; omega⟩ ⟨rfl, rfl, rfl, rfl, trivial⟩ rfl
 ·obtain rfl : j = l.length := by omega
  rw [List.take_length]
  have c6 := bstr_t b u o (roT l) hne (by omega)
  dsimp only [bldP] at c6 ⊢
  repeat' (first | refine SW ?_ | refine SD ?_ | (refine HO_k 12 rfl ?_; refine HO_call rfl rfl rfl rfl (c6) rfl (trivial) rfl rfl soA ?_; intro y hy; dsimp only [lca, lna]) | (refine HO_k 12 rfl ?_; refine HO_callq rfl rfl rfl rfl (c6) (fun _ _ => rfl) (trivial) rfl rfl sqA ?_) | exact HO_seg rfl rfl | refine S1 ?_ | (refine S2 ?_; intro _) | (refine S3 ?_; intro _ _) | (refine S4 ?_; intro _ _ _) | (refine HO_g 2 rfl ?_; first | apply HO_a1 rfl | apply HO_o1 rfl) | refine S5 ?_ | (intro hb; try replace hb := simB hb; try exact kill hb))
  (refine SRt ?_; unfold RetQ; refine ⟨(), trivial, ?_, Keeps.nil⟩)
  rfl
end Go.Proofs.YtbhiojedmkcfoaaGreatDoor
