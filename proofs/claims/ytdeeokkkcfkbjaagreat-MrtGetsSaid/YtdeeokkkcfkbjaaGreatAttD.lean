/- Which attributes may be: attr.Check and what it calls. -/
import Derived.Test.YtdeeokkkcfkbjaaGreatAttC
namespace Go.Proofs.YtdeeokkkcfkbjaaGreat
set_option linter.unusedVariables false
set_option linter.unusedSimpArgs false
open Go.RowKit
attribute [local irreducible] HC HX HO Tri eP adr

theorem AllSrc.of {src : List SL} : ∀ {l : List SL}, (∀ e ∈ l, ∃ e0 ∈ src, Ent e0 e) → AllSrc src l
  | [], _ => trivial
  | e :: l, h => ⟨.inl (h e (by simp)), AllSrc.of fun f hf => h f (by simp [hf])⟩
theorem AllSrc.self {e : SL} {l r : List SL} : AllSrc (e :: l ++ r) l := AllSrc.of fun f hf => ⟨f, by simp [hf], Ent.rfl_⟩

structure SegS where
  set : Bool
  A : Option Addr
  c : Nat
  ns : List Int
def SegS.e (s : SegS) : List Value := [.bool s.set, .slice s.A s.ns.length s.c]
instance : EncOk SegS.e 2 := ⟨fun _ => ⟨rfl, rfl⟩⟩
structure AttS where
  org : Int
  pA : Option Addr
  pc : Nat
  path : List SegS
  nxt : Int
  med : Int
  pref : Int
  cA : Option Addr
  cc : Nat
  comms : List Int
def AttS.e (a : AttS) : List Value := [.int .i64 a.org, .slice a.pA a.path.length a.pc, .int .u32 a.nxt, .int .i64 a.med, .int .i64 a.pref, .slice a.cA a.comms.length a.cc]
def segPs (l : List SegS) : List SL := l.map fun s => arr iE 1 s.A s.ns
@[reducible] def AttS.ro (a : AttS) : List SL := [inn (segPs a.path), arr SegS.e 2 a.pA a.path, arr iE 1 a.cA a.comms]
theorem seg_mem {l : List SegS} {s : SegS} (h : s ∈ l) : arr iE 1 s.A s.ns ∈ segPs l := List.mem_map.2 ⟨s, h, rfl⟩

def fitsB (w : Nat) (n : Int) : Bool := decide (0 ≤ n) && decide (n < (256 ^ w : Nat))
def szF (four : Bool) : Nat := if four = true then 4 else 2
theorem szF_bd (four : Bool) : 1 ≤ szF four ∧ szF four ≤ 4 := by cases four <;> decide

theorem size_t (four : Bool) : Tri Tryz.prog 103 [.bool four] [] [] (fun _ : Unit => True) (fun _ => .int .i64 (szF four)) (fun _ => []) := by
  cases four
  all_goals
    refine Tri_of (N := Tryz.f103.ntmps) (c := bodyOf Tryz.f103) Tryz.func103 rfl rfl rfl rfl (fun w0 S0 => ?_)
    repeat' (first | refine SW ?_ | exact HO_seg rfl rfl | refine S1 ?_ | (refine S2 ?_; intro _) | (refine S3 ?_; intro _ _) | (refine S4 ?_; intro _ _ _) | (refine HO_g 2 rfl ?_; (first | apply HO_and rfl rfl rfl rfl rfl rfl rfl rfl rfl | apply HO_or rfl rfl rfl rfl rfl rfl rfl rfl rfl)) | refine S5 ?_ | (intro hb; try replace hb := simB hb; try exact kill hb))
    ((first | apply HX_ret | apply HX_retn); (repeat (first | exact Res_nil | apply Res_tmp rfl | apply Res_ce rfl rfl rfl)); unfold RetQ; refine ⟨(), trivial, ?_, Keeps.nil⟩)
    rfl
theorem rsize_t (four : Bool) : Tri Tryz.prog 57 [.bool four] [] [] (fun _ : Unit => True) (fun _ => .int .i64 (szF four)) (fun _ => []) := by
  cases four
  all_goals
    refine Tri_of (N := Tryz.f57.ntmps) (c := bodyOf Tryz.f57) Tryz.func57 rfl rfl rfl rfl (fun w0 S0 => ?_)
    repeat' (first | refine SW ?_ | exact HO_seg rfl rfl | refine S1 ?_ | (refine S2 ?_; intro _) | (refine S3 ?_; intro _ _) | (refine S4 ?_; intro _ _ _) | (refine HO_g 2 rfl ?_; (first | apply HO_and rfl rfl rfl rfl rfl rfl rfl rfl rfl | apply HO_or rfl rfl rfl rfl rfl rfl rfl rfl rfl)) | refine S5 ?_ | (intro hb; try replace hb := simB hb; try exact kill hb))
    ((first | apply HX_ret | apply HX_retn); (repeat (first | exact Res_nil | apply Res_tmp rfl | apply Res_ce rfl rfl rfl)); unfold RetQ; refine ⟨(), trivial, ?_, Keeps.nil⟩)
    rfl
theorem awithin_t (n l m : Int) : Tri Tryz.prog 86 [.int .i64 n, .int .i64 l, .int .i64 m] [] [] (fun _ : Unit => True) (fun _ => .bool (decide (l ≤ n) && decide (n ≤ m))) (fun _ => []) := by
  refine Tri_of (N := Tryz.f86.ntmps) (c := bodyOf Tryz.f86) Tryz.func86 rfl rfl rfl rfl (fun w0 S0 => ?_)
  repeat' (first | refine SW ?_ | exact HO_seg rfl rfl | refine S1 ?_ | (refine S2 ?_; intro _) | (refine S3 ?_; intro _ _) | (refine S4 ?_; intro _ _ _) | (refine HO_g 2 rfl ?_; (first | apply HO_and rfl rfl rfl rfl rfl rfl rfl rfl rfl | apply HO_or rfl rfl rfl rfl rfl rfl rfl rfl rfl)) | refine S5 ?_ | (intro hb; try replace hb := simB hb; try exact kill hb))
  ((first | apply HX_ret | apply HX_retn); (repeat (first | exact Res_nil | apply Res_tmp rfl | apply Res_ce rfl rfl rfl)); unfold RetQ; refine ⟨(), trivial, ?_, Keeps.nil⟩)
  rfl
theorem fits_le (n : Int) (w : Nat) (h : w ≤ 4) : (!(decide (0 ≤ n) && decide (n ≤ ((256 ^ w : Nat) : Int) - 1))) = !fitsB w n := by
  unfold fitsB
  congr 2
  exact decide_eq_decide.2 (by omega)
theorem odd1_t (b : Nat) (four : Bool) (n : Int) : Tri Tryz.prog 102 [.int .i64 n, pt b] [cel b 4 [.bool four]] [] (fun _ : Unit => True) (fun _ => .bool (!fitsB (szF four) n)) (fun _ => []) := by
  have hz := szF_bd four
  have hs := shl_one (szF four) hz.2
  have hb : ((256 ^ szF four : Nat) : Int) ≤ 4294967296 ∧ 0 ≤ ((256 ^ szF four : Nat) : Int) := by cases four <;> decide
  have hf := fits_le n _ hz.2
  obtain ⟨q, hq⟩ : ∃ q : Nat, 256 ^ szF four = q := ⟨_, rfl⟩
  rw [hq] at hs hb hf
  refine Tri_of (N := Tryz.f102.ntmps) (c := bodyOf Tryz.f102) Tryz.func102 rfl rfl rfl rfl (fun w0 S0 => ?_)
  dsimp only [pt]
  repeat' (first | refine SW ?_ | (with_reducible refine HO_rw (congrArg (Value.int .i64) hs) ?_) | (refine HO_k 12 rfl ?_; refine HO_callq rfl rfl rfl rfl (size_t four) (fun _ _ => rfl) (trivial) rfl rfl sqA ?_) | (refine HO_k 12 rfl ?_; refine HO_callq rfl rfl rfl rfl (awithin_t _ _ _) (fun _ _ => rfl) (trivial) rfl rfl sqA ?_) | exact HO_seg rfl rfl | refine S1 ?_ | (refine S2 ?_; intro _) | (refine S3 ?_; intro _ _) | (refine S4 ?_; intro _ _ _) | (refine HO_g 2 rfl ?_; (first | apply HO_and rfl rfl rfl rfl rfl rfl rfl rfl rfl | apply HO_or rfl rfl rfl rfl rfl rfl rfl rfl rfl)) | refine S5 ?_ | (intro hb; try replace hb := simB hb; try exact kill hb))
  ((first | apply HX_ret | apply HX_retn); (repeat (first | exact Res_nil | apply Res_tmp rfl | apply Res_ce rfl rfl rfl)); unfold RetQ; refine ⟨(), trivial, ?_, Keeps.nil⟩)
  exact congrArg Value.bool hf
theorem check2_t (n : Int) : Tri Tryz.prog 85 [.int .i64 n] [] [] (fun _ : Unit => True) (fun _ => .bool (!fitsB 4 n)) (fun _ => []) := by
  refine Tri_of (N := Tryz.f85.ntmps) (c := bodyOf Tryz.f85) Tryz.func85 rfl rfl rfl rfl (fun w0 S0 => ?_)
  repeat' (first | refine SW ?_ | (refine HO_k 12 rfl ?_; refine HO_callq rfl rfl rfl rfl (awithin_t _ _ _) (fun _ _ => rfl) (trivial) rfl rfl sqA ?_) | exact HO_seg rfl rfl | refine S1 ?_ | (refine S2 ?_; intro _) | (refine S3 ?_; intro _ _) | (refine S4 ?_; intro _ _ _) | (refine HO_g 2 rfl ?_; (first | apply HO_and rfl rfl rfl rfl rfl rfl rfl rfl rfl | apply HO_or rfl rfl rfl rfl rfl rfl rfl rfl rfl)) | refine S5 ?_ | (intro hb; try replace hb := simB hb; try exact kill hb))
  ((first | apply HX_ret | apply HX_retn); (repeat (first | exact Res_nil | apply Res_tmp rfl | apply Res_ce rfl rfl rfl)); unfold RetQ; refine ⟨(), trivial, ?_, Keeps.nil⟩)
  exact congrArg Value.bool (fits_le n 4 (by decide))

def idxF {α : Type} (p : α → Bool) (l : List α) : Int := if l.any p = true then (l.findIdx p : Nat) else -1
theorem idxF_ge {α : Type} (p : α → Bool) (l : List α) : decide (0 ≤ idxF p l) = l.any p := by
  unfold idxF
  split
  · rename_i h; rw [h]; exact decide_eq_true (by omega)
  · rename_i h; rw [Bool.not_eq_true] at h; rw [h]; rfl
theorem idxF_at {α : Type} {p : α → Bool} {l : List α} {j : Nat} {a : α} (hj : l[j]? = some a) (ha : p a = true) (hno : ∀ q, q < j → ∀ b, l[q]? = some b → p b = false) : idxF p l = j := by
  obtain ⟨hlt, rfl⟩ := List.getElem?_eq_some_iff.1 hj
  have : l.any p = true := List.any_eq_true.2 ⟨_, List.getElem_mem hlt, ha⟩
  rw [idxF, if_pos this, (List.findIdx_eq hlt).2 ⟨ha, fun q hq => by simpa using hno q hq _ (List.getElem?_eq_getElem (by omega))⟩]
theorem idxF_no {α : Type} {p : α → Bool} {l : List α} (hno : ∀ q, q < l.length → ∀ b, l[q]? = some b → p b = false) : idxF p l = -1 := by
  rw [idxF, if_neg]
  intro h
  obtain ⟨a, ha, hp⟩ := List.any_eq_true.1 h
  obtain ⟨q, hq⟩ := List.getElem?_of_mem ha
  rw [hno q (List.getElem?_eq_some_iff.1 hq).1 a hq] at hp
  cases hp

/-- slices.IndexFunc, slices.ContainsFunc over numbers -/
theorem indexI_t (A : Option Addr) (n c : Nat) (l : List Int) (hn : n = l.length) (hl : l.length ≤ 1000000) (g : Nat) [FnOk Tryz.prog g] (cap : List Value) (roC : List SL) (p : Int → Bool)
    (hp : ∀ x ∈ l, Tri Tryz.prog g (.int .i64 x :: cap) roC [] (fun _ : Unit => True) (fun _ => .bool (p x)) (fun _ => [])) :
    Tri Tryz.prog 105 [.slice A n c, .func (.func g) #[] cap.toArray] (arr iE 1 A l :: roC) [] (fun _ : Unit => True) (fun _ => .int .i64 (idxF p l)) (fun _ => []) := by
  refine Tri_of (N := Tryz.f105.ntmps) (c := bodyOf Tryz.f105) Tryz.func105 rfl rfl rfl rfl (fun w0 S0 => ?_)
  repeat' (first | refine SW ?_ | refine SD ?_ | exact HO_seg rfl rfl | refine S1 ?_ | (refine S2 ?_; intro _) | (refine S3 ?_; intro _ _) | (refine S4 ?_; intro _ _ _) | (refine HO_g 2 rfl ?_; (first | apply HO_and rfl rfl rfl rfl rfl rfl rfl rfl rfl | apply HO_or rfl rfl rfl rfl rfl rfl rfl rfl rfl)) | refine S5 ?_ | (intro hb; try replace hb := simB hb; try exact kill hb))
  refine HC_loop (α := Nat) (fun j => j ≤ l.length ∧ ∀ q, q < j → ∀ b, l[q]? = some b → p b = false) (fun j => [(8, .int .i64 j), (7, .int .i64 n), (0, .slice A n c), (1, .func (.func g) #[] cap.toArray)]) (fun _ => []) (fun j => l.length - j) rfl 0 ⟨Nat.zero_le _, fun q hq => by omega⟩ ⟨rfl, rfl, rfl, rfl, trivial⟩ rfl ?_
  intro j ⟨hj, hno⟩
  rcases Nat.lt_or_ge j l.length with hlt | hge
  · obtain ⟨a, ha⟩ : ∃ a, l[j]? = some a := ⟨l[j], List.getElem?_eq_getElem hlt⟩
    have hpa := hp a (List.mem_of_getElem? ha)
    repeat' (first | refine SW ?_ | refine SD ?_ | (refine HO_k 12 rfl ?_; refine HO_callq rfl rfl rfl rfl (hpa) (fun _ _ => rfl) (AllSrc.self) rfl rfl sqA ?_) | exact HO_seg rfl rfl | refine S1 ?_ | (refine S2 ?_; intro _) | (refine S3 ?_; intro _ _) | (refine S4 ?_; intro _ _ _) | (refine HO_g 2 rfl ?_; (first | apply HO_and rfl rfl rfl rfl rfl rfl rfl rfl rfl | apply HO_or rfl rfl rfl rfl rfl rfl rfl rfl rfl)) | refine S5 ?_ | (intro hb; try replace hb := simB hb; try exact kill hb) | refine HC_cond rfl rfl ?_ ?_)
    · ((first | apply HX_ret | apply HX_retn); (repeat (first | exact Res_nil | apply Res_tmp rfl | apply Res_ce rfl rfl rfl)); unfold RetQ; refine ⟨(), trivial, ?_, Keeps.nil⟩)
      exact congrArg (Value.int .i64) (idxF_at ha hb hno).symm
    · exact HX_at (j + 1) ⟨⟨hlt, fun q hq b hbq => by
        rcases Nat.lt_or_ge q j with h | h
        · exact hno q h b hbq
        · obtain rfl : q = j := by omega
          rw [ha] at hbq
          injection hbq with hbq
          exact hbq ▸ hb⟩, by omega⟩ ⟨rfl, rfl, rfl, rfl, trivial⟩ rfl
  · obtain rfl : j = l.length := by omega
    repeat' (first | refine SW ?_ | refine SD ?_ | exact HO_seg rfl rfl | refine S1 ?_ | (refine S2 ?_; intro _) | (refine S3 ?_; intro _ _) | (refine S4 ?_; intro _ _ _) | (refine HO_g 2 rfl ?_; (first | apply HO_and rfl rfl rfl rfl rfl rfl rfl rfl rfl | apply HO_or rfl rfl rfl rfl rfl rfl rfl rfl rfl)) | refine S5 ?_ | (intro hb; try replace hb := simB hb; try exact kill hb))
    ((first | apply HX_ret | apply HX_retn); (repeat (first | exact Res_nil | apply Res_tmp rfl | apply Res_ce rfl rfl rfl)); unfold RetQ; refine ⟨(), trivial, ?_, Keeps.nil⟩)
    exact congrArg (Value.int .i64) (idxF_no hno).symm
theorem containsI_t (A : Option Addr) (n c : Nat) (l : List Int) (hn : n = l.length) (hl : l.length ≤ 1000000) (g : Nat) [FnOk Tryz.prog g] (cap : List Value) (roC : List SL) (p : Int → Bool)
    (hp : ∀ x ∈ l, Tri Tryz.prog g (.int .i64 x :: cap) roC [] (fun _ : Unit => True) (fun _ => .bool (p x)) (fun _ => [])) :
    Tri Tryz.prog 88 [.slice A n c, .func (.func g) #[] cap.toArray] (arr iE 1 A l :: roC) [] (fun _ : Unit => True) (fun _ => .bool (l.any p)) (fun _ => []) := by
  have h1 := indexI_t A n c l hn hl g cap roC p hp
  refine Tri_of (N := Tryz.f88.ntmps) (c := bodyOf Tryz.f88) Tryz.func88 rfl rfl rfl rfl (fun w0 S0 => ?_)
  repeat' (first | refine SW ?_ | (refine HO_k 12 rfl ?_; refine HO_callq rfl rfl rfl rfl (h1) (fun _ _ => rfl) (AllSrc.of fun f hf => ⟨f, List.mem_append.2 (.inl hf), Ent.rfl_⟩) rfl rfl sqA ?_) | exact HO_seg rfl rfl | refine S1 ?_ | (refine S2 ?_; intro _) | (refine S3 ?_; intro _ _) | (refine S4 ?_; intro _ _ _) | (refine HO_g 2 rfl ?_; (first | apply HO_and rfl rfl rfl rfl rfl rfl rfl rfl rfl | apply HO_or rfl rfl rfl rfl rfl rfl rfl rfl rfl)) | refine S5 ?_ | (intro hb; try replace hb := simB hb; try exact kill hb))
  ((first | apply HX_ret | apply HX_retn); (repeat (first | exact Res_nil | apply Res_tmp rfl | apply Res_ce rfl rfl rfl)); unfold RetQ; refine ⟨(), trivial, ?_, Keeps.nil⟩)
  exact congrArg Value.bool (idxF_ge p l)
/-- the same over segments -/
theorem indexS_t (A : Option Addr) (n c : Nat) (l : List SegS) (hn : n = l.length) (hl : l.length ≤ 1000000) (g : Nat) [FnOk Tryz.prog g] (cap : List Value) (roC : List SL) (p : SegS → Bool)
    (hp : ∀ x ∈ l, Tri Tryz.prog g (.agg x.e.toArray :: cap) roC [] (fun _ : Unit => True) (fun _ => .bool (p x)) (fun _ => [])) :
    Tri Tryz.prog 104 [.slice A n c, .func (.func g) #[] cap.toArray] (arr SegS.e 2 A l :: roC) [] (fun _ : Unit => True) (fun _ => .int .i64 (idxF p l)) (fun _ => []) := by
  refine Tri_of (N := Tryz.f104.ntmps) (c := bodyOf Tryz.f104) Tryz.func104 rfl rfl rfl rfl (fun w0 S0 => ?_)
  repeat' (first | refine SW ?_ | refine SD ?_ | exact HO_seg rfl rfl | refine S1 ?_ | (refine S2 ?_; intro _) | (refine S3 ?_; intro _ _) | (refine S4 ?_; intro _ _ _) | (refine HO_g 2 rfl ?_; (first | apply HO_and rfl rfl rfl rfl rfl rfl rfl rfl rfl | apply HO_or rfl rfl rfl rfl rfl rfl rfl rfl rfl)) | refine S5 ?_ | (intro hb; try replace hb := simB hb; try exact kill hb))
  refine HC_loop (α := Nat) (fun j => j ≤ l.length ∧ ∀ q, q < j → ∀ b, l[q]? = some b → p b = false) (fun j => [(8, .int .i64 j), (7, .int .i64 n), (0, .slice A n c), (1, .func (.func g) #[] cap.toArray)]) (fun _ => []) (fun j => l.length - j) rfl 0 ⟨Nat.zero_le _, fun q hq => by omega⟩ ⟨rfl, rfl, rfl, rfl, trivial⟩ rfl ?_
  intro j ⟨hj, hno⟩
  rcases Nat.lt_or_ge j l.length with hlt | hge
  · obtain ⟨a, ha⟩ : ∃ a, l[j]? = some a := ⟨l[j], List.getElem?_eq_getElem hlt⟩
    have hpa := hp a (List.mem_of_getElem? ha)
    repeat' (first | refine SW ?_ | refine SD ?_ | (refine HO_k 12 rfl ?_; refine HO_callq rfl rfl rfl rfl (hpa) (fun _ _ => rfl) (AllSrc.self) rfl rfl sqA ?_) | exact HO_seg rfl rfl | refine S1 ?_ | (refine S2 ?_; intro _) | (refine S3 ?_; intro _ _) | (refine S4 ?_; intro _ _ _) | (refine HO_g 2 rfl ?_; (first | apply HO_and rfl rfl rfl rfl rfl rfl rfl rfl rfl | apply HO_or rfl rfl rfl rfl rfl rfl rfl rfl rfl)) | refine S5 ?_ | (intro hb; try replace hb := simB hb; try exact kill hb) | refine HC_cond rfl rfl ?_ ?_)
    · ((first | apply HX_ret | apply HX_retn); (repeat (first | exact Res_nil | apply Res_tmp rfl | apply Res_ce rfl rfl rfl)); unfold RetQ; refine ⟨(), trivial, ?_, Keeps.nil⟩)
      exact congrArg (Value.int .i64) (idxF_at ha hb hno).symm
    · exact HX_at (j + 1) ⟨⟨hlt, fun q hq b hbq => by
        rcases Nat.lt_or_ge q j with h | h
        · exact hno q h b hbq
        · obtain rfl : q = j := by omega
          rw [ha] at hbq
          injection hbq with hbq
          exact hbq ▸ hb⟩, by omega⟩ ⟨rfl, rfl, rfl, rfl, trivial⟩ rfl
  · obtain rfl : j = l.length := by omega
    repeat' (first | refine SW ?_ | refine SD ?_ | exact HO_seg rfl rfl | refine S1 ?_ | (refine S2 ?_; intro _) | (refine S3 ?_; intro _ _) | (refine S4 ?_; intro _ _ _) | (refine HO_g 2 rfl ?_; (first | apply HO_and rfl rfl rfl rfl rfl rfl rfl rfl rfl | apply HO_or rfl rfl rfl rfl rfl rfl rfl rfl rfl)) | refine S5 ?_ | (intro hb; try replace hb := simB hb; try exact kill hb))
    ((first | apply HX_ret | apply HX_retn); (repeat (first | exact Res_nil | apply Res_tmp rfl | apply Res_ce rfl rfl rfl)); unfold RetQ; refine ⟨(), trivial, ?_, Keeps.nil⟩)
    exact congrArg (Value.int .i64) (idxF_no hno).symm
theorem containsS_t (A : Option Addr) (n c : Nat) (l : List SegS) (hn : n = l.length) (hl : l.length ≤ 1000000) (g : Nat) [FnOk Tryz.prog g] (cap : List Value) (roC : List SL) (p : SegS → Bool)
    (hp : ∀ x ∈ l, Tri Tryz.prog g (.agg x.e.toArray :: cap) roC [] (fun _ : Unit => True) (fun _ => .bool (p x)) (fun _ => [])) :
    Tri Tryz.prog 87 [.slice A n c, .func (.func g) #[] cap.toArray] (arr SegS.e 2 A l :: roC) [] (fun _ : Unit => True) (fun _ => .bool (l.any p)) (fun _ => []) := by
  have h1 := indexS_t A n c l hn hl g cap roC p hp
  refine Tri_of (N := Tryz.f87.ntmps) (c := bodyOf Tryz.f87) Tryz.func87 rfl rfl rfl rfl (fun w0 S0 => ?_)
  repeat' (first | refine SW ?_ | (refine HO_k 12 rfl ?_; refine HO_callq rfl rfl rfl rfl (h1) (fun _ _ => rfl) (AllSrc.of fun f hf => ⟨f, List.mem_append.2 (.inl hf), Ent.rfl_⟩) rfl rfl sqA ?_) | exact HO_seg rfl rfl | refine S1 ?_ | (refine S2 ?_; intro _) | (refine S3 ?_; intro _ _) | (refine S4 ?_; intro _ _ _) | (refine HO_g 2 rfl ?_; (first | apply HO_and rfl rfl rfl rfl rfl rfl rfl rfl rfl | apply HO_or rfl rfl rfl rfl rfl rfl rfl rfl rfl)) | refine S5 ?_ | (intro hb; try replace hb := simB hb; try exact kill hb))
  ((first | apply HX_ret | apply HX_retn); (repeat (first | exact Res_nil | apply Res_tmp rfl | apply Res_ce rfl rfl rfl)); unfold RetQ; refine ⟨(), trivial, ?_, Keeps.nil⟩)
  exact congrArg Value.bool (idxF_ge p l)

def sgOk (four : Bool) (s : SegS) : Bool := decide (1 ≤ s.ns.length ∧ s.ns.length ≤ 64) && !s.ns.any (fun n => !fitsB (szF four) n)
theorem oddSeg_t (s : SegS) (four : Bool) (hl : s.ns.length ≤ 1000000) :
    Tri Tryz.prog 84 [.agg s.e.toArray, .bool four] [arr iE 1 s.A s.ns] [] (fun _ : Unit => True) (fun _ => .bool (!sgOk four s)) (fun _ => []) := by
  refine Tri_of (N := Tryz.f84.ntmps) (c := bodyOf Tryz.f84) Tryz.func84 rfl rfl rfl rfl (fun w0 S0 => ?_)
  repeat' (first | refine SW ?_ | (refine HO_k 12 rfl ?_; refine HO_callq rfl rfl rfl rfl (awithin_t _ _ _) (fun _ _ => rfl) (trivial) rfl rfl sqA ?_) | (refine HO_k 12 rfl ?_; refine HO_callq rfl rfl rfl rfl (containsI_t _ _ _ s.ns rfl hl 102 _ _ _ (fun x _ => odd1_t _ four x)) (fun _ _ => rfl) (AllSrc.at_ 0 rfl (by first | exact AllSrc.at_ 1 rfl trivial | exact AllSrc.at_ 2 rfl trivial | exact AllSrc.at_ 3 rfl trivial)) rfl rfl sqA ?_) | exact HO_seg rfl rfl | refine S1 ?_ | (refine S2 ?_; intro _) | (refine S3 ?_; intro _ _) | (refine S4 ?_; intro _ _ _) | (refine HO_g 2 rfl ?_; (first | apply HO_and rfl rfl rfl rfl rfl rfl rfl rfl rfl | apply HO_or rfl rfl rfl rfl rfl rfl rfl rfl rfl)) | refine S5 ?_ | (intro hb; try replace hb := simB hb; try exact kill hb))
  ((first | apply HX_ret | apply HX_retn); (repeat (first | exact Res_nil | apply Res_tmp rfl | apply Res_ce rfl rfl rfl)); unfold RetQ; refine ⟨(), trivial, ?_, Keeps.nil⟩)
  refine congrArg Value.bool ?_
  rw [sgOk]
  by_cases h1 : 1 ≤ s.ns.length <;> by_cases h2 : s.ns.length ≤ 64 <;> simp [h1, h2] <;> omega

def attOk (four : Bool) (a : AttS) : Bool := decide (0 ≤ a.org ∧ a.org ≤ 2 ∧ a.nxt ≠ 0 ∧ -1 ≤ a.med ∧ a.med ≤ 4294967295 ∧ -1 ≤ a.pref ∧ a.pref ≤ 4294967295 ∧ a.path.length ≤ 8 ∧ a.comms.length ≤ 32) &&
  !a.path.any (fun s => !sgOk four s) && !a.comms.any (fun n => !fitsB 4 n)
theorem check1_t (s : SegS) (four : Bool) (b : Nat) (L : List SL) (hs : arr iE 1 s.A s.ns ∈ L) (hl : s.ns.length ≤ 1000000) :
    Tri Tryz.prog 83 [.agg s.e.toArray, pt b] [inn L, cel b 4 [.bool four]] [] (fun _ : Unit => True) (fun _ => .bool (!sgOk four s)) (fun _ => []) := by
  refine Tri_of (N := Tryz.f83.ntmps) (c := bodyOf Tryz.f83) Tryz.func83 rfl rfl rfl rfl (fun w0 S0 => ?_)
  dsimp only [pt]
  repeat' (first | refine SW ?_ | (refine HO_k 12 rfl ?_; refine HO_callq rfl rfl rfl rfl (oddSeg_t s four hl) (fun _ _ => rfl) (AllSrc.via 0 rfl (inn_arr hs) trivial) rfl rfl sqA ?_) | exact HO_seg rfl rfl | refine S1 ?_ | (refine S2 ?_; intro _) | (refine S3 ?_; intro _ _) | (refine S4 ?_; intro _ _ _) | (refine HO_g 2 rfl ?_; (first | apply HO_and rfl rfl rfl rfl rfl rfl rfl rfl rfl | apply HO_or rfl rfl rfl rfl rfl rfl rfl rfl rfl)) | refine S5 ?_ | (intro hb; try replace hb := simB hb; try exact kill hb))
  ((first | apply HX_ret | apply HX_retn); (repeat (first | exact Res_nil | apply Res_tmp rfl | apply Res_ce rfl rfl rfl)); unfold RetQ; refine ⟨(), trivial, ?_, Keeps.nil⟩)
  rfl
theorem acheck_t (a : AttS) (four : Bool) (h1 : a.path.length ≤ 1000000) (h2 : a.comms.length ≤ 1000000) (h3 : ∀ s ∈ a.path, s.ns.length ≤ 1000000) :
    Tri Tryz.prog 61 [.agg a.e.toArray, .bool four] a.ro [] (fun _ : Unit => True) (fun _ => .int .i64 (if attOk four a = true then 0 else 50)) (fun _ => []) := by
  refine Tri_of (N := Tryz.f61.ntmps) (c := bodyOf Tryz.f61) Tryz.func61 rfl rfl rfl rfl (fun w0 S0 => ?_)
  dsimp only [AttS.ro]
  repeat' (first | refine SW ?_ | (refine HO_k 12 rfl ?_; refine HO_callq rfl rfl rfl rfl (awithin_t _ _ _) (fun _ _ => rfl) (trivial) rfl rfl sqA ?_) | (refine HO_k 12 rfl ?_; refine HO_callq rfl rfl rfl rfl (containsI_t _ _ _ a.comms rfl h2 85 [] [] _ (fun x _ => check2_t x)) (fun _ _ => rfl) (AllSrc.at_ 2 rfl trivial) rfl rfl sqA ?_) | (refine HO_k 12 rfl ?_; refine HO_callq rfl rfl rfl rfl (containsS_t _ _ _ a.path rfl h1 83 _ _ _ (fun x hx => check1_t x four _ _ (seg_mem hx) (h3 x hx))) (fun _ _ => rfl) (AllSrc.at_ 1 rfl (AllSrc.at_ 0 rfl (by first | exact AllSrc.at_ 3 rfl trivial | exact AllSrc.at_ 4 rfl trivial | exact AllSrc.at_ 5 rfl trivial))) rfl rfl sqA ?_) | exact HO_seg rfl rfl | refine S1 ?_ | (refine S2 ?_; intro _) | (refine S3 ?_; intro _ _) | (refine S4 ?_; intro _ _ _) | (refine HO_g 2 rfl ?_; (first | apply HO_and rfl rfl rfl rfl rfl rfl rfl rfl rfl | apply HO_or rfl rfl rfl rfl rfl rfl rfl rfl rfl)) | refine S5 ?_ | (intro hb; try replace hb := simB hb; try exact kill hb) | refine HC_cond rfl rfl ?_ ?_)
  all_goals ((first | apply HX_ret | apply HX_retn); (repeat (first | exact Res_nil | apply Res_tmp rfl | apply Res_ce rfl rfl rfl)); unfold RetQ; refine ⟨(), trivial, ?_, Keeps.nil⟩)
  all_goals refine congrArg (Value.int .i64) (Eq.symm ?_)
  · rw [if_neg (by rw [attOk, decide_eq_false (by omega)]; simp)]
  · rw [if_neg (by
      rw [attOk]
      rcases hb with hb | hb
      · rw [decide_eq_false (by omega)]; simp
      · rw [hb]; simp)]
  · rw [if_neg (by
      rw [attOk]
      rcases hb with hb | hb
      · rw [decide_eq_false (by omega)]; simp
      · rw [hb]; simp)]
  · rename_i hb1 hb2
    rw [if_pos (by rw [attOk, hb2.2, hb.2, decide_eq_true (by omega)]; rfl)]
end Go.Proofs.YtdeeokkkcfkbjaaGreat
