/- Interfaces and numbers in rows: whether one is found. -/
import Derived.Test.YtbhiojedmkcfoaaGreatDoorCfB
namespace Go.Proofs.YtbhiojedmkcfoaaGreatDoor
set_option linter.unusedVariables false
set_option linter.unusedSimpArgs false
open Go.RowKit
attribute [local irreducible] HC HX HO Tri eP adr

theorem AllSrc.of {src : List SL} : ∀ {l : List SL}, (∀ e ∈ l, ∃ e0 ∈ src, Ent e0 e) → AllSrc src l
  | [], _ => trivial
  | e :: l, h => ⟨.inl (h e (by simp)), AllSrc.of fun f hf => h f (by simp [hf])⟩
theorem AllSrc.self {e : SL} {l r : List SL} : AllSrc (e :: l ++ r) l := AllSrc.of fun f hf => ⟨f, by simp [hf], Ent.rfl_⟩
def idxF {α : Type} (p : α → Bool) (l : List α) : Int := if l.any p = true then (l.findIdx p : Nat) else -1
theorem idxF_ge {α : Type} (p : α → Bool) (l : List α) : decide (0 ≤ idxF p l) = l.any p := by
  unfold idxF
  split
  · rename_i h; rw [h]; exact decide_eq_true (by omega)
  · rename_i h; rw [Bool.not_eq_true] at h; rw [h]; rfl
theorem idxF_at {α : Type} {p : α → Bool} {l : List α} {j : Nat} {a : α} (hj : l[j]? = some a) (ha : p a = true) (hno : ∀ q, q < j → ∀ b, l[q]? = some b → p b = false) : idxF p l = j := by
  obtain ⟨hlt, rfl⟩ := List.getElem?_eq_some_iff.1 hj
  have : l.any p = true := List.any_eq_true.2 ⟨_, List.getElem_mem hlt, ha⟩
  rw [idxF, if_pos this, (List.findIdx_eq hlt).2 ⟨ha, fun q hq => by simpa using hno q hq _ (List.getElem?_eq_getElem (by omega))⟩]
theorem idxF_no {α : Type} {p : α → Bool} {l : List α} (hno : ∀ q, q < l.length → ∀ b, l[q]? = some b → p b = false) : idxF p l = -1 := by
  rw [idxF, if_neg]
  intro h
  obtain ⟨a, ha, hp⟩ := List.any_eq_true.1 h
  obtain ⟨q, hq⟩ := List.getElem?_of_mem ha
  rw [hno q (List.getElem?_eq_some_iff.1 hq).1 a hq] at hp
  cases hp
set_option maxHeartbeats 4000000 in
theorem indexI_t (A : Option Addr) (n c : Nat) (l : List Int) (hn : n = l.length) (hl : l.length ≤ 1000000) (g : Nat) [FnOk Tryz.prog g] (cap : List Value) (roC : List SL) (p : Int → Bool)
    (hp : ∀ x ∈ l, Tri Tryz.prog g (.int .i64 x :: cap) roC [] (fun _ : Unit => True) (fun _ => .bool (p x)) (fun _ => [])) :
    Tri Tryz.prog 141 [.slice A n c, .func (.func g) #[] cap.toArray] (arr iE 1 A l :: roC) [] (fun _ : Unit => True) (fun _ => .int .i64 (idxF p l)) (fun _ => []) := by
  refine Tri_of (N := Tryz.f141.ntmps) (c := bodyOf Tryz.f141) Tryz.func141 rfl rfl rfl rfl (fun w0 S0 => ?_)
  repeat' (first | refine SW ?_ | refine SD ?_ | exact HO_seg rfl rfl | refine S1 ?_ | (refine S2 ?_; intro _) | (refine S3 ?_; intro _ _) | (refine S4 ?_; intro _ _ _) | (refine HO_g 2 rfl ?_; (first | apply HO_and rfl rfl rfl rfl rfl rfl rfl rfl rfl | apply HO_or rfl rfl rfl rfl rfl rfl rfl rfl rfl)) | refine S5 ?_ | (intro hb; try replace hb := simB hb; try exact kill hb))
  refine HC_loop (α := Nat) (fun j => j ≤ l.length ∧ ∀ q, q < j → ∀ b, l[q]? = some b → p b = false) (fun j => [(8, .int .i64 j), (7, .int .i64 n), (0, .slice A n c), (1, .func (.func g) #[] cap.toArray)]) (fun _ => []) (fun j => l.length - j) rfl 0 ⟨Nat.zero_le _, fun q hq => by omega⟩ ⟨rfl, rfl, rfl, rfl, trivial⟩ rfl ?_
  intro j ⟨hj, hno⟩
  rcases Nat.lt_or_ge j l.length with hlt | hge
  · obtain ⟨a, ha⟩ : ∃ a, l[j]? = some a := ⟨l[j], List.getElem?_eq_getElem hlt⟩
    have hpa := hp a (List.mem_of_getElem? ha)
    repeat' (first | refine SW ?_ | refine SD ?_ | (refine HO_k 12 rfl ?_; refine HO_callq rfl rfl rfl rfl (hpa) (fun _ _ => rfl) (AllSrc.self) rfl rfl sqA ?_) | exact HO_seg rfl rfl | refine S1 ?_ | (refine S2 ?_; intro _) | (refine S3 ?_; intro _ _) | (refine S4 ?_; intro _ _ _) | (refine HO_g 2 rfl ?_; (first | apply HO_and rfl rfl rfl rfl rfl rfl rfl rfl rfl | apply HO_or rfl rfl rfl rfl rfl rfl rfl rfl rfl)) | refine S5 ?_ | (intro hb; try replace hb := simB hb; try exact kill hb) | refine HC_cond rfl rfl ?_ ?_)
    · ((first | apply HX_ret | apply HX_retn); (repeat (first | exact Res_nil | apply Res_tmp rfl | apply Res_ce rfl rfl rfl)); unfold RetQ; refine ⟨(), trivial, ?_, Keeps.nil⟩)
      exact congrArg (Value.int .i64) (idxF_at ha hb hno).symm
    · exact HX_at (j + 1) ⟨⟨hlt, fun q hq b hbq => by
        rcases Nat.lt_or_ge q j with h | h
        · exact hno q h b hbq
        · obtain rfl : q = j := by omega
          rw [ha] at hbq
          injection hbq with hbq
          exact hbq ▸ hb⟩, by omega⟩ ⟨rfl, rfl, rfl, rfl, trivial⟩ rfl
  · obtain rfl : j = l.length := by omega
    repeat' (first | refine SW ?_ | refine SD ?_ | exact HO_seg rfl rfl | refine S1 ?_ | (refine S2 ?_; intro _) | (refine S3 ?_; intro _ _) | (refine S4 ?_; intro _ _ _) | (refine HO_g 2 rfl ?_; (first | apply HO_and rfl rfl rfl rfl rfl rfl rfl rfl rfl | apply HO_or rfl rfl rfl rfl rfl rfl rfl rfl rfl)) | refine S5 ?_ | (intro hb; try replace hb := simB hb; try exact kill hb))
    ((first | apply HX_ret | apply HX_retn); (repeat (first | exact Res_nil | apply Res_tmp rfl | apply Res_ce rfl rfl rfl)); unfold RetQ; refine ⟨(), trivial, ?_, Keeps.nil⟩)
    exact congrArg (Value.int .i64) (idxF_no hno).symm
set_option maxHeartbeats 4000000 in
theorem containsI_t (A : Option Addr) (n c : Nat) (l : List Int) (hn : n = l.length) (hl : l.length ≤ 1000000) (g : Nat) [FnOk Tryz.prog g] (cap : List Value) (roC : List SL) (p : Int → Bool)
    (hp : ∀ x ∈ l, Tri Tryz.prog g (.int .i64 x :: cap) roC [] (fun _ : Unit => True) (fun _ => .bool (p x)) (fun _ => [])) :
    Tri Tryz.prog 73 [.slice A n c, .func (.func g) #[] cap.toArray] (arr iE 1 A l :: roC) [] (fun _ : Unit => True) (fun _ => .bool (l.any p)) (fun _ => []) := by
  have h1 := indexI_t A n c l hn hl g cap roC p hp
  refine Tri_of (N := Tryz.f73.ntmps) (c := bodyOf Tryz.f73) Tryz.func73 rfl rfl rfl rfl (fun w0 S0 => ?_)
  repeat' (first | refine SW ?_ | (refine HO_k 12 rfl ?_; refine HO_callq rfl rfl rfl rfl (h1) (fun _ _ => rfl) (AllSrc.of fun f hf => ⟨f, List.mem_append.2 (.inl hf), Ent.rfl_⟩) rfl rfl sqA ?_) | exact HO_seg rfl rfl | refine S1 ?_ | (refine S2 ?_; intro _) | (refine S3 ?_; intro _ _) | (refine S4 ?_; intro _ _ _) | (refine HO_g 2 rfl ?_; (first | apply HO_and rfl rfl rfl rfl rfl rfl rfl rfl rfl | apply HO_or rfl rfl rfl rfl rfl rfl rfl rfl rfl)) | refine S5 ?_ | (intro hb; try replace hb := simB hb; try exact kill hb))
  ((first | apply HX_ret | apply HX_retn); (repeat (first | exact Res_nil | apply Res_tmp rfl | apply Res_ce rfl rfl rfl)); unfold RetQ; refine ⟨(), trivial, ?_, Keeps.nil⟩)
  exact congrArg Value.bool (idxF_ge p l)
set_option maxHeartbeats 4000000 in
theorem indexN_t (A : Option Addr) (n c : Nat) (l : List IfQ) (hn : n = l.length) (hl : l.length ≤ 1000000) (g : Nat) [FnOk Tryz.prog g] (cap : List Value) (roC : List SL) (p : IfQ → Bool)
    (hp : ∀ x ∈ l, Tri Tryz.prog g (.agg x.e.toArray :: cap) roC [] (fun _ : Unit => True) (fun _ => .bool (p x)) (fun _ => [])) :
    Tri Tryz.prog 140 [.slice A n c, .func (.func g) #[] cap.toArray] (arr IfQ.e 5 A l :: roC) [] (fun _ : Unit => True) (fun _ => .int .i64 (idxF p l)) (fun _ => []) := by
  refine Tri_of (N := Tryz.f140.ntmps) (c := bodyOf Tryz.f140) Tryz.func140 rfl rfl rfl rfl (fun w0 S0 => ?_)
  repeat' (first | refine SW ?_ | refine SD ?_ | exact HO_seg rfl rfl | refine S1 ?_ | (refine S2 ?_; intro _) | (refine S3 ?_; intro _ _) | (refine S4 ?_; intro _ _ _) | (refine HO_g 2 rfl ?_; (first | apply HO_and rfl rfl rfl rfl rfl rfl rfl rfl rfl | apply HO_or rfl rfl rfl rfl rfl rfl rfl rfl rfl)) | refine S5 ?_ | (intro hb; try replace hb := simB hb; try exact kill hb))
  refine HC_loop (α := Nat) (fun j => j ≤ l.length ∧ ∀ q, q < j → ∀ b, l[q]? = some b → p b = false) (fun j => [(8, .int .i64 j), (7, .int .i64 n), (0, .slice A n c), (1, .func (.func g) #[] cap.toArray)]) (fun _ => []) (fun j => l.length - j) rfl 0 ⟨Nat.zero_le _, fun q hq => by omega⟩ ⟨rfl, rfl, rfl, rfl, trivial⟩ rfl ?_
  intro j ⟨hj, hno⟩
  rcases Nat.lt_or_ge j l.length with hlt | hge
  · obtain ⟨a, ha⟩ : ∃ a, l[j]? = some a := ⟨l[j], List.getElem?_eq_getElem hlt⟩
    have hpa := hp a (List.mem_of_getElem? ha)
    repeat' (first | refine SW ?_ | refine SD ?_ | (refine HO_k 12 rfl ?_; refine HO_callq rfl rfl rfl rfl (hpa) (fun _ _ => rfl) (AllSrc.self) rfl rfl sqA ?_) | exact HO_seg rfl rfl | refine S1 ?_ | (refine S2 ?_; intro _) | (refine S3 ?_; intro _ _) | (refine S4 ?_; intro _ _ _) | (refine HO_g 2 rfl ?_; (first | apply HO_and rfl rfl rfl rfl rfl rfl rfl rfl rfl | apply HO_or rfl rfl rfl rfl rfl rfl rfl rfl rfl)) | refine S5 ?_ | (intro hb; try replace hb := simB hb; try exact kill hb) | refine HC_cond rfl rfl ?_ ?_)
    · ((first | apply HX_ret | apply HX_retn); (repeat (first | exact Res_nil | apply Res_tmp rfl | apply Res_ce rfl rfl rfl)); unfold RetQ; refine ⟨(), trivial, ?_, Keeps.nil⟩)
      exact congrArg (Value.int .i64) (idxF_at ha hb hno).symm
    · exact HX_at (j + 1) ⟨⟨hlt, fun q hq b hbq => by
        rcases Nat.lt_or_ge q j with h | h
        · exact hno q h b hbq
        · obtain rfl : q = j := by omega
          rw [ha] at hbq
          injection hbq with hbq
          exact hbq ▸ hb⟩, by omega⟩ ⟨rfl, rfl, rfl, rfl, trivial⟩ rfl
  · obtain rfl : j = l.length := by omega
    repeat' (first | refine SW ?_ | refine SD ?_ | exact HO_seg rfl rfl | refine S1 ?_ | (refine S2 ?_; intro _) | (refine S3 ?_; intro _ _) | (refine S4 ?_; intro _ _ _) | (refine HO_g 2 rfl ?_; (first | apply HO_and rfl rfl rfl rfl rfl rfl rfl rfl rfl | apply HO_or rfl rfl rfl rfl rfl rfl rfl rfl rfl)) | refine S5 ?_ | (intro hb; try replace hb := simB hb; try exact kill hb))
    ((first | apply HX_ret | apply HX_retn); (repeat (first | exact Res_nil | apply Res_tmp rfl | apply Res_ce rfl rfl rfl)); unfold RetQ; refine ⟨(), trivial, ?_, Keeps.nil⟩)
    exact congrArg (Value.int .i64) (idxF_no hno).symm
set_option maxHeartbeats 4000000 in
theorem containsN_t (A : Option Addr) (n c : Nat) (l : List IfQ) (hn : n = l.length) (hl : l.length ≤ 1000000) (g : Nat) [FnOk Tryz.prog g] (cap : List Value) (roC : List SL) (p : IfQ → Bool)
    (hp : ∀ x ∈ l, Tri Tryz.prog g (.agg x.e.toArray :: cap) roC [] (fun _ : Unit => True) (fun _ => .bool (p x)) (fun _ => [])) :
    Tri Tryz.prog 72 [.slice A n c, .func (.func g) #[] cap.toArray] (arr IfQ.e 5 A l :: roC) [] (fun _ : Unit => True) (fun _ => .bool (l.any p)) (fun _ => []) := by
  have h1 := indexN_t A n c l hn hl g cap roC p hp
  refine Tri_of (N := Tryz.f72.ntmps) (c := bodyOf Tryz.f72) Tryz.func72 rfl rfl rfl rfl (fun w0 S0 => ?_)
  repeat' (first | refine SW ?_ | (refine HO_k 12 rfl ?_; refine HO_callq rfl rfl rfl rfl (h1) (fun _ _ => rfl) (AllSrc.of fun f hf => ⟨f, List.mem_append.2 (.inl hf), Ent.rfl_⟩) rfl rfl sqA ?_) | exact HO_seg rfl rfl | refine S1 ?_ | (refine S2 ?_; intro _) | (refine S3 ?_; intro _ _) | (refine S4 ?_; intro _ _ _) | (refine HO_g 2 rfl ?_; (first | apply HO_and rfl rfl rfl rfl rfl rfl rfl rfl rfl | apply HO_or rfl rfl rfl rfl rfl rfl rfl rfl rfl)) | refine S5 ?_ | (intro hb; try replace hb := simB hb; try exact kill hb))
  ((first | apply HX_ret | apply HX_retn); (repeat (first | exact Res_nil | apply Res_tmp rfl | apply Res_ce rfl rfl rfl)); unfold RetQ; refine ⟨(), trivial, ?_, Keeps.nil⟩)
  exact congrArg Value.bool (idxF_ge p l)
end Go.Proofs.YtbhiojedmkcfoaaGreatDoor
