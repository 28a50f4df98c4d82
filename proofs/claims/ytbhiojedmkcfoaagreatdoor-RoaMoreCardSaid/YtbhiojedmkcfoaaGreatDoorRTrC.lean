/- Part of a proof of many texts: what the theorem at its end leans on. -/
import Derived.Test.YtbhiojedmkcfoaaGreatDoorRTrA
import Derived.Test.YtbhiojedmkcfoaaGreatDoorRCfH
namespace Go.Proofs.YtbhiojedmkcfoaaGreatDoor
set_option linter.unusedVariables false
set_option linter.unusedSimpArgs false
open Go.RowKit
attribute [local irreducible] HC HX HO Tri eP adr
set_option maxHeartbeats 1000000000 in
theorem indexE_t (A : Option Addr) (n c : Nat) (l : List RoQ) (hn : n = l.length) (hl : l.length ≤ 1000000) (g : Nat) [FnOk Tryz.prog g] (cap : List Value) (roC : List SL) (p : RoQ → Bool)
  (hp : ∀ x ∈ l, Tri Tryz.prog g (.agg x.e.toArray :: cap) roC [] (fun _ : Unit => True) (fun _ => .bool (p x)) (fun _ => [])) :
  Tri Tryz.prog 153 [.slice A n c, .func (.func g) #[] cap.toArray] (arr RoQ.e 4 A l :: roC) [] (fun _ : Unit => True) (fun _ => .int .i64 (idxF p l)) (fun _ => []) := by
 refine Tri_of (N := Tryz.f153.ntmps) (c := bodyOf Tryz.f153) Tryz.func153 rfl rfl rfl rfl (fun w0 S0 => ?_)
 repeat' (first | refine SW ?_ | refine SD ?_ | exact HO_seg rfl rfl | refine S1 ?_ | (refine S2 ?_; intro _) | (refine S3 ?_; intro _ _) | (refine S4 ?_; intro _ _ _) | (refine HO_g 2 rfl ?_; first | apply HO_a1 rfl | apply HO_o1 rfl) | refine S5 ?_ | (intro hb; try replace hb := simB hb; try exact kill hb))
 refine HC_loop (α := Nat) (fun j => j ≤ l.length ∧ ∀ q, q < j → ∀ b, l[q]? = some b → p b = false) (fun j => [(8, .int .i64 j), (7, .int .i64 n), (0, .slice A n c), (1, .func (.func g) #[] cap.toArray)]) (fun _ => []) (fun j => l.length - j) rfl 0 ⟨Nat.zero_le _, fun q hq => by omega⟩ ⟨rfl, rfl, rfl, rfl, trivial⟩ rfl ?_
 intro j ⟨hj, hno⟩
 rcases Nat.lt_or_ge j l.length with hlt | hge
 ·obtain ⟨a, ha⟩ : ∃ a, l[j]? = some a := ⟨l[j], List.getElem?_eq_getElem hlt⟩
  have hpa := hp a (List.mem_of_getElem? ha)
  repeat' (first | refine SW ?_ | refine SD ?_ | (refine HO_k 12 rfl ?_; refine HO_callq rfl rfl rfl rfl (hpa) (fun _ _ => rfl) (AllSrc.self) rfl rfl sqA ?_) | exact HO_seg rfl rfl | refine S1 ?_ | (refine S2 ?_; intro _) | (refine S3 ?_; intro _ _) | (refine S4 ?_; intro _ _ _) | (refine HO_g 2 rfl ?_; first | apply HO_a1 rfl | apply HO_o1 rfl) | refine S5 ?_ | (intro hb; try replace hb := simB hb; try exact kill hb) | refine HC_cond rfl rfl ?_ ?_)
  ·(refine SRt ?_; unfold RetQ; refine ⟨(), trivial, ?_, Keeps.nil⟩)
   exact congrArg (Value.int .i64) (idxF_at ha hb hno).symm
  ·exact HX_at (j + 1) ⟨⟨hlt, fun q hq b hbq => by
    rcases Nat.lt_or_ge q j with h | h
    ·exact hno q h b hbq
    ·obtain rfl : q = j := by omega
     rw [ha] at hbq
     injection hbq with hbq
     exact hbq ▸ hb⟩, by omega⟩ ⟨rfl, rfl, rfl, rfl, trivial⟩ rfl
 ·obtain rfl : j = l.length := by omega
  repeat' (first | refine SW ?_ | refine SD ?_ | exact HO_seg rfl rfl | refine S1 ?_ | (refine S2 ?_; intro _) | (refine S3 ?_; intro _ _) | (refine S4 ?_; intro _ _ _) | (refine HO_g 2 rfl ?_; first | apply HO_a1 rfl | apply HO_o1 rfl) | refine S5 ?_ | (intro hb; try replace hb := simB hb; try exact kill hb))
  (refine SRt ?_; unfold RetQ; refine ⟨(), trivial, ?_, Keeps.nil⟩)
  exact congrArg (Value.int .i64) (idxF_no hno).symm
set_option maxHeartbeats 1000000000 in
theorem containsE_t (A : Option Addr) (n c : Nat) (l : List RoQ) (hn : n = l.length) (hl : l.length ≤ 1000000) (g : Nat) [FnOk Tryz.prog g] (cap : List Value) (roC : List SL) (p : RoQ → Bool)
  (hp : ∀ x ∈ l, Tri Tryz.prog g (.agg x.e.toArray :: cap) roC [] (fun _ : Unit => True) (fun _ => .bool (p x)) (fun _ => [])) :
  Tri Tryz.prog 100 [.slice A n c, .func (.func g) #[] cap.toArray] (arr RoQ.e 4 A l :: roC) [] (fun _ : Unit => True) (fun _ => .bool (l.any p)) (fun _ => []) := by
 have h1 := indexE_t A n c l hn hl g cap roC p hp
 refine Tri_of (N := Tryz.f100.ntmps) (c := bodyOf Tryz.f100) Tryz.func100 rfl rfl rfl rfl (fun w0 S0 => ?_)
 repeat' (first | refine SW ?_ | (refine HO_k 12 rfl ?_; refine HO_callq rfl rfl rfl rfl (h1) (fun _ _ => rfl) (AllSrc.of fun f hf => ⟨f, List.mem_append.2 (.inl hf), Ent.rfl_⟩) rfl rfl sqA ?_) | exact HO_seg rfl rfl | refine S1 ?_ | (refine S2 ?_; intro _) | (refine S3 ?_; intro _ _) | (refine S4 ?_; intro _ _ _) | (refine HO_g 2 rfl ?_; first | apply HO_a1 rfl | apply HO_o1 rfl) | refine S5 ?_ | (intro hb; try replace hb := simB hb; try exact kill hb))
 (refine SRt ?_; unfold RetQ; refine ⟨(), trivial, ?_, Keeps.nil⟩)
 exact congrArg Value.bool (idxF_ge p l)
def roOk (x : RoQ) : Bool := okX x.a x.n && decide (x.n ≤ x.mx) && decide (x.mx ≤ 32) && decide (0 ≤ x.asn) && decide (x.asn ≤ 4294967295)
def roaOk (l : List RoQ) : Bool := l.all roOk && decide l.Nodup
theorem roOdd_e (x : RoQ) : (!okX x.a x.n || decide (x.mx < x.n) || decide (32 < x.mx) || decide (x.asn < 0) || decide (4294967295 < x.asn)) = !roOk x := by
 unfold roOk
 by_cases h1 : x.mx < x.n <;> by_cases h2 : 32 < x.mx <;> by_cases h3 : x.asn < 0 <;> by_cases h4 : 4294967295 < x.asn <;> cases okX x.a x.n <;> simp [h1, h2, h3, h4] <;> omega
set_option maxHeartbeats 1000000000 in
theorem roodd_t (x : RoQ) (ha : x.a < 4294967296) : Tri Tryz.prog 148 [.agg x.e.toArray] [] [] (fun _ : Unit => True) (fun _ => .bool (!roOk x)) (fun _ => []) := by
 have c1 := addrCheck_t x.a ha x.n
 have e0 : (!decide ((if okX x.a x.n = true then (0 : Int) else 20) = 0)) = !okX x.a x.n := by cases okX x.a x.n <;> rfl
 have he := roOdd_e x
 dsimp only [pfV, RoQ.e] at c1 ⊢
 refine Tri_of (N := Tryz.f148.ntmps) (c := bodyOf Tryz.f148) Tryz.func148 rfl rfl rfl rfl (fun w0 S0 => ?_)
 repeat' (first | refine SW ?_ | refine SD ?_ | (refine HO_k 12 rfl ?_; refine HO_callq rfl rfl rfl rfl (c1) (fun _ _ => rfl) (trivial) rfl rfl sqA ?_) | exact HO_seg rfl rfl | refine S1 ?_ | (refine S2 ?_; intro _) | (refine S3 ?_; intro _ _) | (refine S4 ?_; intro _ _ _) | (refine HO_g 2 rfl ?_; first | apply HO_a1 rfl | apply HO_o1 rfl) | refine S5 ?_ | (intro hb; try replace hb := simB hb; try exact kill hb))
 (refine SRt ?_; unfold RetQ; refine ⟨(), trivial, ?_, Keeps.nil⟩)
 rw [e0]
 exact congrArg Value.bool he
set_option maxHeartbeats 1000000000 in
theorem roone_t (x : RoQ) (ha : x.a < 4294967296) : Tri Tryz.prog 96 [.agg x.e.toArray] [] [] (fun _ : Unit => True) (fun _ => .bool (roOk x)) (fun _ => []) := by
 have c1 := rchk_t x.a ha x.n
 dsimp only [pfV, RoQ.e] at c1 ⊢
 refine Tri_of (N := Tryz.f96.ntmps) (c := bodyOf Tryz.f96) Tryz.func96 rfl rfl rfl rfl (fun w0 S0 => ?_)
 repeat' (first | refine SW ?_ | refine SD ?_ | (refine HO_k 12 rfl ?_; refine HO_callq rfl rfl rfl rfl (c1) (fun _ _ => rfl) (trivial) rfl rfl sqA ?_) | exact HO_seg rfl rfl | refine S1 ?_ | (refine S2 ?_; intro _) | (refine S3 ?_; intro _ _) | (refine S4 ?_; intro _ _ _) | (refine HO_g 2 rfl ?_; first | apply HO_a1 rfl | apply HO_o1 rfl) | refine S5 ?_ | (intro hb; try replace hb := simB hb; try exact kill hb))
 (refine SRt ?_; unfold RetQ; refine ⟨(), trivial, ?_, Keeps.nil⟩)
 rfl
instance : TyDeep Tryz.prog 73 [0, 0, 0, 0] := ⟨⟨by kernel_rfl, by kernel_rfl⟩, by kernel_rfl⟩
def roC (x : RoQ) : List Value := x.e
theorem ro_eq (a b : RoQ) : eqZ [0, 0, 0, 0] (roC a) (roC b) = some (decide (a = b)) := by
 obtain ⟨a1, a2, a3, a4⟩ := a
 obtain ⟨b1, b2, b3, b4⟩ := b
 have h2 : decide (((a1 : Nat) : Int) = b1) = decide (a1 = b1) := decide_eq_decide.2 (by omega)
 show some (decide (((a1 : Nat) : Int) = b1) && (decide (a2 = b2) && (decide (a3 = b3) && (decide (a4 = b4) && true)))) = _
 rw [h2]
 congr 1
 by_cases h1 : a1 = b1 <;> by_cases h3 : a2 = b2 <;> by_cases h4 : a3 = b3 <;> by_cases h5 : a4 = b4 <;> simp [h1, h3, h4, h5]
instance : KeyOf Tryz.prog 73 (fun k : RoQ => Value.agg (roC k).toArray) := KeyOf.deep (n := 20) (cells := roC) (ks := [0, 0, 0, 0]) (by kernel_rfl) (by decide) (by kernel_rfl) (fun _ => rfl) ro_eq (fun k v hv => by
 simp [roC, RoQ.e] at hv
 rcases hv with rfl | rfl | rfl | rfl
 ·exact ⟨_, _, rfl⟩
 ·exact ⟨_, _, rfl⟩
 ·exact ⟨_, _, rfl⟩
 ·exact ⟨_, _, rfl⟩) (by kernel_rfl)
@[reducible] def roV (k : RoQ) : Value := .agg (roC k).toArray
theorem lkL_stL {κ ν : Type} [DecidableEq κ] (k j : κ) (v : ν) : ∀ m : List (κ × ν), lkL j (stL k v m) = if j = k then some v else lkL j m
 | [] => by simp [stL, lkL]
 | x :: m => by
  unfold stL
  by_cases h : k = x.1
  ·rw [if_pos h]
   by_cases hj : j = k
   ·simp [lkL, hj]
   ·rw [if_neg hj]
    simp only [lkL]
    rw [if_neg hj, if_neg (by rw [← h]; exact hj)]
  ·rw [if_neg h]
   simp only [lkL]
   rw [lkL_stL k j v m]
   by_cases hx : j = x.1
   ·rw [if_pos hx, if_pos hx, if_neg (by rw [hx]; exact fun e => h e.symm)]
   ·rw [if_neg hx, if_neg hx]
theorem lkL_setL {κ : Type} [DecidableEq κ] (j : κ) (l : List κ) : lkL j (setL l) = if j ∈ l then some true else none := by
 induction l using snocI with
 | nil => simp [setL, lkL]
 | append_singleton l a ih =>
  rw [setL_snoc, lkL_stL, ih]
  by_cases h : j = a
  ·simp [h]
  ·simp [h]
theorem roa_dup {l : List RoQ} {i : Nat} {x : RoQ} (hx : l[i]? = some x) (h : x ∈ l.take i) : roaOk l = false := by
 unfold roaOk
 have : ¬ l.Nodup := fun hn => by
  obtain ⟨k, hk⟩ := List.getElem?_of_mem h
  have hki : k < i := by have := (List.getElem?_eq_some_iff.1 hk).1; simp at this; omega
  rw [List.getElem?_take_of_lt hki] at hk
  exact ((nodup_take l i x hx).1 (nodup_pre hn (i + 1))).2 k x hki hk rfl
 rw [decide_eq_false this, Bool.and_false]
theorem roa_bad {l : List RoQ} (h : l.any (fun x => !roOk x) = true) : roaOk l = false := by
 unfold roaOk
 obtain ⟨x, hx, hp⟩ := List.any_eq_true.1 h
 have : l.all roOk = false := List.all_eq_false.2 ⟨x, hx, by simpa using hp⟩
 rw [this]
 rfl
set_option maxHeartbeats 1000000000 in
theorem rocheck_t (A : Option Addr) (c : Nat) (l : List RoQ) (hl : l.length ≤ 4096) (ha : ∀ x ∈ l, x.a < 4294967296) :
  Tri Tryz.prog 91 [.slice A l.length c] [arr RoQ.e 4 A l] [] (fun _ : Unit => True) (fun _ => .int .i64 (if roaOk l = true then 0 else 330)) (fun _ => []) := by
 have hany := containsE_t A l.length c l rfl (by omega) 148 [] [] (fun x => !roOk x) (fun x hx => roodd_t x (ha x hx))
 cases h1 : l.any (fun x => !roOk x) with
 | true =>
  rw [h1] at hany
  rw [roa_bad h1]
  refine Tri_of (N := Tryz.f91.ntmps) (c := bodyOf Tryz.f91) Tryz.func91 rfl rfl rfl rfl (fun w0 S0 => ?_)
  repeat' (first | refine SW ?_ | ((refine HO_g 2 rfl ?_); (refine HO_skip rfl rfl rfl rfl rdA ?_)) | refine SD ?_ | (refine HO_k 12 rfl ?_; refine HO_callq rfl rfl rfl rfl (hany) (fun _ _ => rfl) (srcsA) rfl rfl sqA ?_) | exact HO_seg rfl rfl | refine S1 ?_ | (refine S2 ?_; intro _) | (refine S3 ?_; intro _ _) | (refine S4 ?_; intro _ _ _) | (refine HO_g 2 rfl ?_; first | apply HO_a1 rfl | apply HO_o1 rfl) | refine S5 ?_ | (intro hb; try replace hb := simB hb; try exact kill hb))
  (refine SRt ?_; unfold RetQ; refine ⟨(), trivial, ?_, Keeps.nil⟩)
  rfl
 | false =>
  rw [h1] at hany
  refine Tri_of (N := Tryz.f91.ntmps) (c := bodyOf Tryz.f91) Tryz.func91 rfl rfl rfl rfl (fun w0 S0 => ?_)
  repeat' (first | refine SW ?_ | refine SD ?_ | (refine HO_k 21 rfl ?_; refine HO_mkmapT roV boolV rfl rfl rfl soA ?_; intro _) | (refine HO_k 12 rfl ?_; refine HO_callq rfl rfl rfl rfl (hany) (fun _ _ => rfl) (srcsA) rfl rfl sqA ?_) | exact HO_seg rfl rfl | refine S1 ?_ | (refine S2 ?_; intro _) | (refine S3 ?_; intro _ _) | (refine S4 ?_; intro _ _ _) | (refine HO_g 2 rfl ?_; first | apply HO_a1 rfl | apply HO_o1 rfl) | refine S5 ?_ | (intro hb; try replace hb := simB hb; try exact kill hb))
  rename_i b1
  refine HC_loop (α := Nat) (fun j => j ≤ l.length ∧ (l.take j).Nodup) (fun j => [(16, .int .i64 j), (15, .int .i64 l.length), (14, .slice A l.length c), (3, .map (some b1)), (2, .int .i64 0)]) (fun j => [mapP roV boolV b1 (setL (l.take j))]) (fun j => l.length - j) rfl 0 ⟨Nat.zero_le _, by simp⟩ ⟨rfl, rfl, rfl, rfl, rfl, trivial⟩ rfl ?_
  rintro j ⟨hj, hnd⟩
  rcases Nat.lt_or_ge j l.length with hlt | hge
  ·obtain ⟨x, hx⟩ : ∃ x, l[j]? = some x := ⟨l[j], List.getElem?_eq_getElem hlt⟩
   have hlk := lkL_setL x (l.take j)
   have e1 : stL x true (setL (l.take j)) = setL (l.take (j + 1)) := by rw [take_snoc hx]; exact (setL_snoc _ _).symm
   by_cases hin : x ∈ l.take j
   ·rw [if_pos hin] at hlk
    rw [roa_dup hx hin]
    repeat' (first | refine SW ?_ | refine SD ?_ | (refine HO_k 21 rfl ?_; refine HO_maplook (ke := roV) (ve := boolV) (v := .bool true) 2 x rfl rfl rfl rfl (by rw [hlk] <;> rfl) rfl rfl rdA ?_) | exact HO_seg rfl rfl | refine S1 ?_ | (refine S2 ?_; intro _) | (refine S3 ?_; intro _ _) | (refine S4 ?_; intro _ _ _) | (refine HO_g 2 rfl ?_; first | apply HO_a1 rfl | apply HO_o1 rfl) | refine S5 ?_ | (intro hb; try replace hb := simB hb; try exact kill hb))
    (refine SRt ?_; unfold RetQ; refine ⟨(), trivial, ?_, Keeps.nil⟩)
    rfl
   ·rw [if_neg hin] at hlk
    repeat' (first | refine SW ?_ | refine SD ?_ | (refine HO_k 21 rfl ?_; refine HO_maplook (ke := roV) (ve := boolV) (v := .bool false) 2 x rfl rfl rfl rfl (by rw [hlk] <;> rfl) rfl rfl rdA ?_) | (refine HO_k 21 rfl ?_; refine HO_mapsetO (ke := roV) (ve := boolV) 1 x true rfl rfl rfl rfl rfl rfl rfl soA ?_) | exact HO_seg rfl rfl | refine S1 ?_ | (refine S2 ?_; intro _) | (refine S3 ?_; intro _ _) | (refine S4 ?_; intro _ _ _) | (refine HO_g 2 rfl ?_; first | apply HO_a1 rfl | apply HO_o1 rfl) | refine S5 ?_ | (intro hb; try replace hb := simB hb; try exact kill hb))
    rw [e1]
    refine HX_keeps (rw' := [mapP roV boolV b1 (setL (l.take (j + 1)))]) permA ?_
    refine HX_at (j + 1) ⟨⟨hlt, (nodup_take _ j x hx).2 ⟨hnd, fun k y hk hy e => hin (by
     subst e
     exact List.mem_of_getElem? (by rw [List.getElem?_take_of_lt hk]; exact hy))⟩⟩, by show l.length - (j + 1) < l.length - j; omega⟩ ⟨rfl, rfl, rfl, rfl, rfl, trivial⟩ rfl
  ·obtain rfl : j = l.length := by omega
   rw [List.take_length] at hnd
   have hall : roaOk l = true := by
    unfold roaOk
    rw [decide_eq_true hnd, Bool.and_true, List.all_eq_true]
    intro x hx
    have := List.any_eq_false.1 h1 x hx
    simpa using this
   rw [hall]
   repeat' (first | refine SW ?_ | refine SD ?_ | exact HO_seg rfl rfl | refine S1 ?_ | (refine S2 ?_; intro _) | (refine S3 ?_; intro _ _) | (refine S4 ?_; intro _ _ _) | (refine HO_g 2 rfl ?_; first | apply HO_a1 rfl | apply HO_o1 rfl) | refine S5 ?_ | (intro hb; try replace hb := simB hb; try exact kill hb))
   (refine SRt ?_; unfold RetQ; refine ⟨(), trivial, ?_, Keeps.nil⟩)
   rfl
set_option maxHeartbeats 1000000000 in
theorem r33check_t (A : Option Addr) (c : Nat) (l : List RoQ) (hl : l.length ≤ 4096) (ha : ∀ x ∈ l, x.a < 4294967296) :
  Tri Tryz.prog 32 [.slice A l.length c] [arr RoQ.e 4 A l] [] (fun _ : Unit => True) (fun _ => .bool (roaOk l)) (fun _ => []) := by
 refine Tri_of (N := Tryz.f32.ntmps) (c := bodyOf Tryz.f32) Tryz.func32 rfl rfl rfl rfl (fun w0 S0 => ?_)
 repeat' (first | refine SW ?_ | refine SD ?_ | exact HO_seg rfl rfl | refine S1 ?_ | (refine S2 ?_; intro _) | (refine S3 ?_; intro _ _) | (refine S4 ?_; intro _ _ _) | (refine HO_g 2 rfl ?_; first | apply HO_a1 rfl | apply HO_o1 rfl) | refine S5 ?_ | (intro hb; try replace hb := simB hb; try exact kill hb))
 refine HC_loop (α := Nat) (fun i => i ≤ l.length ∧ (∀ x ∈ l.take i, roOk x = true) ∧ (l.take i).Nodup) (fun i => [(3, .int .i64 i), (0, .slice A l.length c)]) (fun _ => []) (fun i => l.length - i) rfl 0 ⟨Nat.zero_le _, by simp, by simp⟩ ⟨rfl, rfl, trivial⟩ rfl ?_
 rintro i ⟨hi, hok, hn⟩
 rcases Nat.lt_or_ge i l.length with hlt | hge
 ·obtain ⟨x, hx⟩ : ∃ x, l[i]? = some x := ⟨l[i], List.getElem?_eq_getElem hlt⟩
  have hc := roone_t x (ha x (List.mem_of_getElem? hx))
  cases h1 : roOk x with
  | false =>
   rw [h1] at hc
   rw [roa_bad (List.any_eq_true.2 ⟨x, List.mem_of_getElem? hx, by rw [h1]; rfl⟩)]
   dsimp only [RoQ.e] at hc ⊢
   repeat' (first | refine SW ?_ | refine SD ?_ | (refine HO_k 12 rfl ?_; refine HO_callq rfl rfl rfl rfl (hc) (fun _ _ => rfl) (trivial) rfl rfl sqA ?_) | exact HO_seg rfl rfl | refine S1 ?_ | (refine S2 ?_; intro _) | (refine S3 ?_; intro _ _) | (refine S4 ?_; intro _ _ _) | (refine HO_g 2 rfl ?_; first | apply HO_a1 rfl | apply HO_o1 rfl) | refine S5 ?_ | (intro hb; try replace hb := simB hb; try exact kill hb))
   (refine SRt ?_; unfold RetQ; refine ⟨(), trivial, ?_, Keeps.nil⟩)
   rfl
  | true =>
   rw [h1] at hc
   dsimp only [RoQ.e] at hc
   repeat' (first | refine SW ?_ | refine SD ?_ | (refine HO_k 12 rfl ?_; refine HO_callq rfl rfl rfl rfl (hc) (fun _ _ => rfl) (trivial) rfl rfl sqA ?_) | exact HO_seg rfl rfl | refine S1 ?_ | (refine S2 ?_; intro _) | (refine S3 ?_; intro _ _) | (refine S4 ?_; intro _ _ _) | (refine HO_g 2 rfl ?_; first | apply HO_a1 rfl | apply HO_o1 rfl) | refine S5 ?_ | (intro hb; try replace hb := simB hb; try exact kill hb))
   refine HC_loop (α := Nat) (fun k => k ≤ i ∧ ∀ q y, q < k → l[q]? = some y → y ≠ x) (fun k => [(4, .int .i64 k), (3, .int .i64 i), (0, .slice A l.length c)]) (fun _ => []) (fun k => i - k) rfl 0 ⟨Nat.zero_le _, fun q y hq => by omega⟩ ⟨rfl, rfl, rfl, trivial⟩ rfl ?_
   rintro k ⟨hk, hno⟩
   rcases Nat.lt_or_ge k i with hki | hki
   ·obtain ⟨y, hy⟩ : ∃ y, l[k]? = some y := ⟨l[k], List.getElem?_eq_getElem (by omega)⟩
    by_cases hyx : y = x
    ·rw [roa_dup hx (by
      subst hyx
      exact List.mem_of_getElem? (by rw [List.getElem?_take_of_lt hki]; exact hy))]
     repeat' (first | refine SW ?_ | refine SD ?_ | (refine HO_k 0 rfl ?_; refine HO_eqd (b := true) rfl rfl rfl ((ro_eq y x).trans (congrArg some (decide_eq_true hyx))) rfl rfl rfl rdA ?_) | exact HO_seg rfl rfl | refine S1 ?_ | (refine S2 ?_; intro _) | (refine S3 ?_; intro _ _) | (refine S4 ?_; intro _ _ _) | (refine HO_g 2 rfl ?_; first | apply HO_a1 rfl | apply HO_o1 rfl) | refine S5 ?_ | (intro hb; try replace hb := simB hb; try exact kill hb))
     (refine SRt ?_; unfold RetQ; refine ⟨(), trivial, ?_, Keeps.nil⟩)
     rfl
    ·repeat' (first | refine SW ?_ | refine SD ?_ | (refine HO_k 0 rfl ?_; refine HO_eqd (b := false) rfl rfl rfl ((ro_eq y x).trans (congrArg some (decide_eq_false hyx))) rfl rfl rfl rdA ?_) | exact HO_seg rfl rfl | refine S1 ?_ | (refine S2 ?_; intro _) | (refine S3 ?_; intro _ _) | (refine S4 ?_; intro _ _ _) | (refine HO_g 2 rfl ?_; first | apply HO_a1 rfl | apply HO_o1 rfl) | refine S5 ?_ | (intro hb; try replace hb := simB hb; try exact kill hb))
     exact HX_at (k + 1) ⟨⟨hki, fun q z hq hz => by
      rcases Nat.lt_or_ge q k with h | h
      ·exact hno q z h hz
      ·obtain rfl : q = k := by omega
       rw [hy] at hz
       injection hz with hz
       exact hz ▸ hyx⟩, by show i - (k + 1) < i - k; omega⟩ ⟨rfl, rfl, rfl, trivial⟩ rfl
   ·obtain rfl : k = i := by omega
    repeat' (first | refine SW ?_ | refine SD ?_ | exact HO_seg rfl rfl | refine S1 ?_ | (refine S2 ?_; intro _) | (refine S3 ?_; intro _ _) | (refine S4 ?_; intro _ _ _) | (refine HO_g 2 rfl ?_; first | apply HO_a1 rfl | apply HO_o1 rfl) | refine S5 ?_ | (intro hb; try replace hb := simB hb; try exact kill hb))
    refine HX_at (k + 1) ⟨⟨hlt, fun y hy => ?_, ?_⟩, by show l.length - (k + 1) < l.length - k; omega⟩ ⟨rfl, rfl, trivial⟩ rfl
    ·rw [take_snoc hx] at hy
     rcases List.mem_append.1 hy with h | h
     ·exact hok y h
     ·exact (List.mem_singleton.1 h) ▸ h1
    ·exact (nodup_take _ k x hx).2 ⟨hn, fun q z hq hz e => hno q z hq hz e⟩
 ·obtain rfl : i = l.length := by omega
  rw [List.take_length] at hok hn
  have hall : roaOk l = true := by
   unfold roaOk
   rw [decide_eq_true hn, Bool.and_true, List.all_eq_true]
   exact hok
  rw [hall]
  repeat' (first | refine SW ?_ | refine SD ?_ | exact HO_seg rfl rfl | refine S1 ?_ | (refine S2 ?_; intro _) | (refine S3 ?_; intro _ _) | (refine S4 ?_; intro _ _ _) | (refine HO_g 2 rfl ?_; first | apply HO_a1 rfl | apply HO_o1 rfl) | refine S5 ?_ | (intro hb; try replace hb := simB hb; try exact kill hb))
  (refine SRt ?_; unfold RetQ; refine ⟨(), trivial, ?_, Keeps.nil⟩)
  rfl
end Go.Proofs.YtbhiojedmkcfoaaGreatDoor
