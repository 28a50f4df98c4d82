/- Part of a proof of many texts: what the theorem at its end leans on. -/
import Derived.Test.YtbhiojedmkcfoaaGreatDoorRTrD
import Derived.Test.YtbhiojedmkcfoaaGreatDoorRSc0
namespace Go.Proofs.YtbhiojedmkcfoaaGreatDoor
set_option linter.unusedVariables false
set_option linter.unusedSimpArgs false
open Go.RowKit
attribute [local irreducible] HC HX HO Tri eP adr
def lastQ (a : AttS) : Int × Bool := match a.path[a.path.length - 1]? with
 | none => (0, true)
 | some s => if s.set = true then (0, false) else match s.ns[s.ns.length - 1]? with
  | none => (0, false)
  | some n => (n, true)
def PathW (a : AttS) : Prop := a.path.length ≤ 1000000 ∧ ∀ s ∈ a.path, s.ns.length ≤ 1000000
set_option maxHeartbeats 1000000000 in
theorem last_t (a : AttS) (ha : PathW a) : Tri Tryz.prog 30 [.agg a.e.toArray] a.ro [] (fun _ : Unit => True) (fun _ => .tuple #[.int .i64 (lastQ a).1, .bool (lastQ a).2]) (fun _ => []) := by
 obtain ⟨h1, h2⟩ := ha
 unfold lastQ
 rcases Nat.eq_zero_or_pos a.path.length with h0 | h0
 ·rw [List.getElem?_eq_none (by omega)]
  dsimp only [AttS.e, AttS.ro]
  refine Tri_of (N := Tryz.f30.ntmps) (c := bodyOf Tryz.f30) Tryz.func30 rfl rfl rfl rfl (fun w0 S0 => ?_)
  repeat' (first | refine SW ?_ | refine SD ?_ | exact HO_seg rfl rfl | refine S1 ?_ | (refine S2 ?_; intro _) | (refine S3 ?_; intro _ _) | (refine S4 ?_; intro _ _ _) | (refine HO_g 2 rfl ?_; first | apply HO_a1 rfl | apply HO_o1 rfl) | refine S5 ?_ | (intro hb; try replace hb := simB hb; try exact kill hb))
  (refine SRt ?_; unfold RetQ; refine ⟨(), trivial, ?_, Keeps.nil⟩)
  rfl
 ·obtain ⟨s, hs⟩ : ∃ s, a.path[a.path.length - 1]? = some s := ⟨a.path[a.path.length - 1], List.getElem?_eq_getElem (by omega)⟩
  have hm := List.mem_of_getElem? hs
  have h3 := h2 s hm
  have hz : ¬ ((a.path.length : Int) = 0) := by omega
  have hc : ((a.path.length : Int) - 1) = ((a.path.length - 1 : Nat) : Int) := by omega
  rw [hs]
  dsimp only
  refine Tri_ro (ro := [arr iE 1 s.A s.ns, arr SegS.e 2 a.pA a.path]) ?_ (AllSrc.via 0 rfl (inn_arr (seg_mem hm)) (AllSrc.at_ 1 rfl trivial))
  cases hset : s.set with
  | true =>
   rw [if_pos rfl]
   dsimp only [AttS.e]
   refine Tri_of (N := Tryz.f30.ntmps) (c := bodyOf Tryz.f30) Tryz.func30 rfl rfl rfl rfl (fun w0 S0 => ?_)
   repeat' (first | refine SW ?_ | (with_reducible refine HO_rw (congrArg Value.bool hset) ?_) | ((refine HO_g 2 rfl ?_); (refine HO_skip rfl rfl rfl rfl rdA ?_)) | refine SD ?_ | (with_reducible refine HO_rw (congrArg (Value.int .i64) hc) ?_) | exact HO_seg rfl rfl | refine S1 ?_ | (refine S2 ?_; intro _) | (refine S3 ?_; intro _ _) | (refine S4 ?_; intro _ _ _) | (refine HO_g 2 rfl ?_; first | apply HO_a1 rfl | apply HO_o1 rfl) | refine S5 ?_ | (intro hb; try replace hb := simB hb; try exact kill hb))
   (refine SRt ?_; unfold RetQ; refine ⟨(), trivial, ?_, Keeps.nil⟩)
   rfl
  | false =>
   rw [if_neg (by decide)]
   rcases Nat.eq_zero_or_pos s.ns.length with g0 | g0
   ·rw [List.getElem?_eq_none (by omega)]
    have hz2 : ((s.ns.length : Int) = 0) := by omega
    dsimp only [AttS.e]
    refine Tri_of (N := Tryz.f30.ntmps) (c := bodyOf Tryz.f30) Tryz.func30 rfl rfl rfl rfl (fun w0 S0 => ?_)
    repeat' (first | refine SW ?_ | (with_reducible refine HO_rw (congrArg Value.bool hset) ?_) | ((refine HO_g 2 rfl ?_); (refine HO_skip rfl rfl rfl rfl rdA ?_)) | refine SD ?_ | (with_reducible refine HO_rw (congrArg (Value.int .i64) hc) ?_) | exact HO_seg rfl rfl | refine S1 ?_ | (refine S2 ?_; intro _) | (refine S3 ?_; intro _ _) | (refine S4 ?_; intro _ _ _) | (refine HO_g 2 rfl ?_; first | apply HO_a1 rfl | apply HO_o1 rfl) | refine S5 ?_ | (intro hb; try replace hb := simB hb; try exact kill hb))
    (refine SRt ?_; unfold RetQ; refine ⟨(), trivial, ?_, Keeps.nil⟩)
    rfl
   ·obtain ⟨n, hn⟩ : ∃ n, s.ns[s.ns.length - 1]? = some n := ⟨s.ns[s.ns.length - 1], List.getElem?_eq_getElem (by omega)⟩
    have hz2 : ¬ ((s.ns.length : Int) = 0) := by omega
    have hc2 : ((s.ns.length : Int) - 1) = ((s.ns.length - 1 : Nat) : Int) := by omega
    rw [hn]
    dsimp only [AttS.e]
    refine Tri_of (N := Tryz.f30.ntmps) (c := bodyOf Tryz.f30) Tryz.func30 rfl rfl rfl rfl (fun w0 S0 => ?_)
    repeat' (first | refine SW ?_ | (with_reducible refine HO_rw (congrArg Value.bool hset) ?_) | ((refine HO_g 2 rfl ?_); (refine HO_skip rfl rfl rfl rfl rdA ?_)) | refine SD ?_ | (with_reducible refine HO_rw (congrArg (Value.int .i64) hc) ?_) | (with_reducible refine HO_rw (congrArg (Value.int .i64) hc2) ?_) | exact HO_seg rfl rfl | refine S1 ?_ | (refine S2 ?_; intro _) | (refine S3 ?_; intro _ _) | (refine S4 ?_; intro _ _ _) | (refine HO_g 2 rfl ?_; first | apply HO_a1 rfl | apply HO_o1 rfl) | refine S5 ?_ | (intro hb; try replace hb := simB hb; try exact kill hb))
    (refine SRt ?_; unfold RetQ; refine ⟨(), trivial, ?_, Keeps.nil⟩)
    rfl
set_option maxHeartbeats 1000000000 in
theorem rlast33_t (a : AttS) (ha : PathW a) : Tri Tryz.prog 31 [.agg a.e.toArray] a.ro [] (fun _ : Unit => True) (fun _ => .tuple #[.int .i64 (lastQ a).1, .bool (lastQ a).2]) (fun _ => []) := by
 obtain ⟨h1, h2⟩ := ha
 unfold lastQ
 rcases Nat.eq_zero_or_pos a.path.length with h0 | h0
 ·rw [List.getElem?_eq_none (by omega)]
  dsimp only [AttS.e, AttS.ro]
  refine Tri_of (N := Tryz.f31.ntmps) (c := bodyOf Tryz.f31) Tryz.func31 rfl rfl rfl rfl (fun w0 S0 => ?_)
  repeat' (first | refine SW ?_ | refine SD ?_ | exact HO_seg rfl rfl | refine S1 ?_ | (refine S2 ?_; intro _) | (refine S3 ?_; intro _ _) | (refine S4 ?_; intro _ _ _) | (refine HO_g 2 rfl ?_; first | apply HO_a1 rfl | apply HO_o1 rfl) | refine S5 ?_ | (intro hb; try replace hb := simB hb; try exact kill hb))
  (refine SRt ?_; unfold RetQ; refine ⟨(), trivial, ?_, Keeps.nil⟩)
  rfl
 ·obtain ⟨s, hs⟩ : ∃ s, a.path[a.path.length - 1]? = some s := ⟨a.path[a.path.length - 1], List.getElem?_eq_getElem (by omega)⟩
  have hm := List.mem_of_getElem? hs
  have h3 := h2 s hm
  have hz : ¬ ((a.path.length : Int) = 0) := by omega
  have hc : ((a.path.length : Int) - 1) = ((a.path.length - 1 : Nat) : Int) := by omega
  rw [hs]
  dsimp only
  refine Tri_ro (ro := [arr iE 1 s.A s.ns, arr SegS.e 2 a.pA a.path]) ?_ (AllSrc.via 0 rfl (inn_arr (seg_mem hm)) (AllSrc.at_ 1 rfl trivial))
  cases hset : s.set with
  | true =>
   rw [if_pos rfl]
   dsimp only [AttS.e]
   refine Tri_of (N := Tryz.f31.ntmps) (c := bodyOf Tryz.f31) Tryz.func31 rfl rfl rfl rfl (fun w0 S0 => ?_)
   repeat' (first | refine SW ?_ | (with_reducible refine HO_rw (congrArg Value.bool hset) ?_) | ((refine HO_g 2 rfl ?_); (refine HO_skip rfl rfl rfl rfl rdA ?_)) | refine SD ?_ | (with_reducible refine HO_rw (congrArg (Value.int .i64) hc) ?_) | exact HO_seg rfl rfl | refine S1 ?_ | (refine S2 ?_; intro _) | (refine S3 ?_; intro _ _) | (refine S4 ?_; intro _ _ _) | (refine HO_g 2 rfl ?_; first | apply HO_a1 rfl | apply HO_o1 rfl) | refine S5 ?_ | (intro hb; try replace hb := simB hb; try exact kill hb))
   (refine SRt ?_; unfold RetQ; refine ⟨(), trivial, ?_, Keeps.nil⟩)
   rfl
  | false =>
   rw [if_neg (by decide)]
   rcases Nat.eq_zero_or_pos s.ns.length with g0 | g0
   ·rw [List.getElem?_eq_none (by omega)]
    have hz2 : ((s.ns.length : Int) = 0) := by omega
    dsimp only [AttS.e]
    refine Tri_of (N := Tryz.f31.ntmps) (c := bodyOf Tryz.f31) Tryz.func31 rfl rfl rfl rfl (fun w0 S0 => ?_)
    repeat' (first | refine SW ?_ | (with_reducible refine HO_rw (congrArg Value.bool hset) ?_) | ((refine HO_g 2 rfl ?_); (refine HO_skip rfl rfl rfl rfl rdA ?_)) | refine SD ?_ | (with_reducible refine HO_rw (congrArg (Value.int .i64) hc) ?_) | exact HO_seg rfl rfl | refine S1 ?_ | (refine S2 ?_; intro _) | (refine S3 ?_; intro _ _) | (refine S4 ?_; intro _ _ _) | (refine HO_g 2 rfl ?_; first | apply HO_a1 rfl | apply HO_o1 rfl) | refine S5 ?_ | (intro hb; try replace hb := simB hb; try exact kill hb))
    (refine SRt ?_; unfold RetQ; refine ⟨(), trivial, ?_, Keeps.nil⟩)
    rfl
   ·obtain ⟨n, hn⟩ : ∃ n, s.ns[s.ns.length - 1]? = some n := ⟨s.ns[s.ns.length - 1], List.getElem?_eq_getElem (by omega)⟩
    have hz2 : ¬ ((s.ns.length : Int) = 0) := by omega
    have hc2 : ((s.ns.length : Int) - 1) = ((s.ns.length - 1 : Nat) : Int) := by omega
    rw [hn]
    dsimp only [AttS.e]
    refine Tri_of (N := Tryz.f31.ntmps) (c := bodyOf Tryz.f31) Tryz.func31 rfl rfl rfl rfl (fun w0 S0 => ?_)
    repeat' (first | refine SW ?_ | (with_reducible refine HO_rw (congrArg Value.bool hset) ?_) | ((refine HO_g 2 rfl ?_); (refine HO_skip rfl rfl rfl rfl rdA ?_)) | refine SD ?_ | (with_reducible refine HO_rw (congrArg (Value.int .i64) hc) ?_) | (with_reducible refine HO_rw (congrArg (Value.int .i64) hc2) ?_) | exact HO_seg rfl rfl | refine S1 ?_ | (refine S2 ?_; intro _) | (refine S3 ?_; intro _ _) | (refine S4 ?_; intro _ _ _) | (refine HO_g 2 rfl ?_; first | apply HO_a1 rfl | apply HO_o1 rfl) | refine S5 ?_ | (intro hb; try replace hb := simB hb; try exact kill hb))
    (refine SRt ?_; unfold RetQ; refine ⟨(), trivial, ?_, Keeps.nil⟩)
    rfl
end Go.Proofs.YtbhiojedmkcfoaaGreatDoor
