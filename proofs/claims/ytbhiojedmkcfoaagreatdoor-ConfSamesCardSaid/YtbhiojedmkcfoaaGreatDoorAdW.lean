/- Walks: the reference's addresses out of texts; prefixes out of texts. -/
import Derived.Test.YtbhiojedmkcfoaaGreatDoorAdV
namespace Go.Proofs.YtbhiojedmkcfoaaGreatDoor
set_option linter.unusedVariables false
set_option linter.unusedSimpArgs false
open Go.RowKit
attribute [local irreducible] HC HX HO Tri eP adr

/-- what the reference's Address answers -/
def raV : Option Nat → Value
  | none => .tuple #[.int .u32 0, .bool false]
  | some a => .tuple #[.int .u32 a, .bool true]
set_option maxHeartbeats 16000000 in
theorem raddr_t (l : List UInt8) (hl : l.length ≤ 100000) : Tri Tryz.prog 81 [.string ⟨l.toArray⟩] [] [] (fun _ : Unit => True) (fun _ => raV (adR l)) (fun _ => []) := by
  have hsp : Tri Tryz.prog 143 [.string ⟨l.toArray⟩, .int .u8 46] [] [] (fun _ : OA => True) (fun x => .slice x.1 (splB 46 l).length x.2) (fun x => [ownT x (splB 46 l)]) := rsplit_t l 46 hl
  unfold adR
  obtain ⟨L, hL⟩ : ∃ L, splB 46 l = L := ⟨_, rfl⟩
  rw [hL] at hsp ⊢
  by_cases h4 : L.length = 4
  · rw [if_pos h4]
    refine Tri_of (N := Tryz.f81.ntmps) (c := bodyOf Tryz.f81) Tryz.func81 rfl rfl rfl rfl (fun w0 S0 => ?_)
    repeat' (first | refine SW ?_ | refine SD ?_ | (refine HO_k 12 rfl ?_; refine HO_call rfl rfl rfl rfl (hsp) rfl (trivial) rfl rfl soA ?_; intro ⟨xA, xc⟩ hx; dsimp only [List.cons_append, List.nil_append]) | exact HO_seg rfl rfl | refine S1 ?_ | (refine S2 ?_; intro _) | (refine S3 ?_; intro _ _) | (refine S4 ?_; intro _ _ _) | (refine HO_g 2 rfl ?_; (first | apply HO_and rfl rfl rfl rfl rfl rfl rfl rfl rfl | apply HO_or rfl rfl rfl rfl rfl rfl rfl rfl rfl)) | refine S5 ?_ | (intro hb; try replace hb := simB hb; try exact kill hb))
    refine HC_loop (α := Nat × Nat) (fun x => x.1 ≤ 4 ∧ x.2 < 256 ^ x.1 ∧ foldA x.2 (L.drop x.1) = foldA 0 L) (fun x => [(6, .int .i64 x.1), (4, .slice xA L.length xc), (5, .int .u32 x.2)]) (fun _ => [ownT (xA, xc) L]) (fun x => 4 - x.1) rfl (0, 0) ⟨Nat.zero_le _, by decide, rfl⟩ ⟨rfl, rfl, rfl, trivial⟩ rfl ?_
    rintro ⟨j, a⟩ ⟨hj, ha, hf⟩
    dsimp only at hj ha hf ⊢
    rcases Nat.lt_or_ge j 4 with hlt | hge
    · obtain ⟨x, hx⟩ : ∃ x, L[j]? = some x := ⟨L[j], List.getElem?_eq_getElem (by omega)⟩
      rw [foldA_drop hx] at hf
      have ha' := pow256 ha hlt
      have hs : Tri Tryz.prog 144 [.string ⟨x.toArray⟩, .int .i64 255] [] [] (fun _ : Unit => True) (fun _ => smI x 255) (fun _ => []) := rsmall_t x 255
      have hno : smM 255 x = none → smI x 255 = .int .i64 (-1) := fun h => by
        unfold smI
        rcases sm_cases 255 x with ⟨h1, h2 | ⟨n, h2, h3⟩⟩ | ⟨n, h3, h1, h2⟩
        · rw [h2]
        · rw [h2]
          simp only
          rw [if_pos (by omega)]
        · rw [h] at h1
          cases h1
      rcases sm_cases 255 x with ⟨h1, _⟩ | ⟨n, h3, h1, h2⟩
      · rw [hno h1] at hs
        rw [h1] at hf
        rw [← hf]
        repeat' (first | refine SW ?_ | refine SD ?_ | (refine HO_k 12 rfl ?_; refine HO_callq rfl rfl rfl rfl (hs) (fun _ _ => rfl) (trivial) rfl rfl sqA ?_) | exact HO_seg rfl rfl | refine S1 ?_ | (refine S2 ?_; intro _) | (refine S3 ?_; intro _ _) | (refine S4 ?_; intro _ _ _) | (refine HO_g 2 rfl ?_; (first | apply HO_and rfl rfl rfl rfl rfl rfl rfl rfl rfl | apply HO_or rfl rfl rfl rfl rfl rfl rfl rfl rfl)) | refine S5 ?_ | (intro hb; try replace hb := simB hb; try exact kill hb))
        ((first | apply HX_ret | apply HX_retn); (repeat (first | exact Res_nil | apply Res_tmp rfl | apply Res_ce rfl rfl rfl)); unfold RetQ; refine ⟨(), trivial, ?_, Keeps.nil⟩)
        rfl
      · rw [h1] at hf
        have hsv : smI x 255 = .int .i64 n := by
          unfold smI
          rw [h2]
          simp only
          rw [if_neg (by omega)]
        rw [hsv] at hs
        have ho : 256 * ((a : Nat) : Int) + ((n : Nat) : Int) = ((256 * a + n : Nat) : Int) := by omega
        repeat' (first | refine SW ?_ | refine SD ?_ | (refine HO_k 12 rfl ?_; refine HO_callq rfl rfl rfl rfl (hs) (fun _ _ => rfl) (trivial) rfl rfl sqA ?_) | (with_reducible refine HO_rw (congrArg (Value.int .u32) ho) ?_) | exact HO_seg rfl rfl | refine S1 ?_ | (refine S2 ?_; intro _) | (refine S3 ?_; intro _ _) | (refine S4 ?_; intro _ _ _) | (refine HO_g 2 rfl ?_; (first | apply HO_and rfl rfl rfl rfl rfl rfl rfl rfl rfl | apply HO_or rfl rfl rfl rfl rfl rfl rfl rfl rfl)) | refine S5 ?_ | (intro hb; try replace hb := simB hb; try exact kill hb))
        exact HX_at (j + 1, 256 * a + n) ⟨⟨hlt, by rw [Nat.pow_succ]; omega, hf⟩, by show 4 - (j + 1) < 4 - j; omega⟩ ⟨rfl, rfl, rfl, trivial⟩ rfl
    · obtain rfl : j = 4 := by omega
      rw [List.drop_of_length_le (by omega)] at hf
      rw [← hf]
      repeat' (first | refine SW ?_ | refine SD ?_ | exact HO_seg rfl rfl | refine S1 ?_ | (refine S2 ?_; intro _) | (refine S3 ?_; intro _ _) | (refine S4 ?_; intro _ _ _) | (refine HO_g 2 rfl ?_; (first | apply HO_and rfl rfl rfl rfl rfl rfl rfl rfl rfl | apply HO_or rfl rfl rfl rfl rfl rfl rfl rfl rfl)) | refine S5 ?_ | (intro hb; try replace hb := simB hb; try exact kill hb))
      ((first | apply HX_ret | apply HX_retn); (repeat (first | exact Res_nil | apply Res_tmp rfl | apply Res_ce rfl rfl rfl)); unfold RetQ; refine ⟨(), trivial, ?_, Keeps.nil⟩)
      rfl
  · rw [if_neg h4]
    refine Tri_of (N := Tryz.f81.ntmps) (c := bodyOf Tryz.f81) Tryz.func81 rfl rfl rfl rfl (fun w0 S0 => ?_)
    repeat' (first | refine SW ?_ | refine SD ?_ | (refine HO_k 12 rfl ?_; refine HO_call rfl rfl rfl rfl (hsp) rfl (trivial) rfl rfl soA ?_; intro ⟨xA, xc⟩ hx; dsimp only [List.cons_append, List.nil_append]) | exact HO_seg rfl rfl | refine S1 ?_ | (refine S2 ?_; intro _) | (refine S3 ?_; intro _ _) | (refine S4 ?_; intro _ _ _) | (refine HO_g 2 rfl ?_; (first | apply HO_and rfl rfl rfl rfl rfl rfl rfl rfl rfl | apply HO_or rfl rfl rfl rfl rfl rfl rfl rfl rfl)) | refine S5 ?_ | (intro hb; try replace hb := simB hb; try exact kill hb))
    ((first | apply HX_ret | apply HX_retn); (repeat (first | exact Res_nil | apply Res_tmp rfl | apply Res_ce rfl rfl rfl)); unfold RetQ; refine ⟨(), trivial, ?_, Keeps.nil⟩)
    rfl
/-- what Parse answers -/
def paV : Option (Nat × Nat) → Value
  | none => .tuple #[pfV 0 0, .int .i64 20]
  | some (a, n) => .tuple #[pfV a n, .int .i64 0]
def rpV : Option (Nat × Nat) → Value
  | none => .tuple #[pfV 0 0, .bool false]
  | some (a, n) => .tuple #[pfV a n, .bool true]
theorem cutC_len (c : UInt8) : ∀ l : List UInt8, (cutC c l).1.length ≤ l.length ∧ (cutC c l).2.1.length ≤ l.length
  | [] => ⟨Nat.le_refl _, Nat.le_refl _⟩
  | x :: l => by
    have ih := cutC_len c l
    unfold cutC
    split
    · exact ⟨Nat.zero_le _, by simp⟩
    · simp only [List.length_cons]
      omega
set_option maxHeartbeats 16000000 in
theorem aparse_t (m : Int) (l : List UInt8) (hl : l.length ≤ 100000) : Tri Tryz.prog 193 [.string ⟨l.toArray⟩] [maxLen0 m] [] (fun _ : Unit => True) (fun _ => paV (paR l)) (fun _ => []) := by
  have hcut := cutS_t m l (by omega)
  have hlen := cutC_len 47 l
  unfold paR
  obtain ⟨⟨x, y, is⟩, hL⟩ : ∃ L, cutC 47 l = L := ⟨_, rfl⟩
  rw [hL] at hcut hlen ⊢
  dsimp only at hcut hlen ⊢
  have had := aaddr_t m x (by omega)
  have hs : Tri Tryz.prog 227 [.string ⟨y.toArray⟩, .int .i64 32] [] [] (fun _ : Unit => True) (fun _ => smV y 32) (fun _ => []) := small_t y 32
  have hsv : smV y 32 = .tuple #[.int .i64 ((match smR y with | none => 0 | some n => n : Nat) : Int), .bool (smM 32 y).isSome] := by
    unfold smV smM
    cases h : smR y with
    | none => rfl
    | some n =>
      by_cases hn : n ≤ 32
      · dsimp only
        rw [if_pos hn, decide_eq_true (show ((n : Nat) : Int) ≤ ((32 : Nat) : Int) by omega)]
        rfl
      · dsimp only
        rw [if_neg hn, decide_eq_false (show ¬ ((n : Nat) : Int) ≤ ((32 : Nat) : Int) by omega)]
        rfl
  rw [hsv] at hs
  cases his : is
  · subst his
    rw [if_neg (by decide)]
    cases hA : adR x with
    | none =>
      rw [hA] at had
      unfold adV at had
      refine Tri_of (N := Tryz.f193.ntmps) (c := bodyOf Tryz.f193) Tryz.func193 rfl rfl rfl rfl (fun w0 S0 => ?_)
      repeat' (first | refine SW ?_ | refine SD ?_ | (refine HO_k 12 rfl ?_; refine HO_callq rfl rfl rfl rfl (hcut) (fun _ _ => rfl) (srcsA) rfl rfl sqA ?_) | (refine HO_k 12 rfl ?_; refine HO_callq rfl rfl rfl rfl (had) (fun _ _ => rfl) (srcsA) rfl rfl sqA ?_) | (refine HO_k 12 rfl ?_; refine HO_callq rfl rfl rfl rfl (hs) (fun _ _ => rfl) (trivial) rfl rfl sqA ?_) | exact HO_seg rfl rfl | refine S1 ?_ | (refine S2 ?_; intro _) | (refine S3 ?_; intro _ _) | (refine S4 ?_; intro _ _ _) | (refine HO_g 2 rfl ?_; (first | apply HO_and rfl rfl rfl rfl rfl rfl rfl rfl rfl | apply HO_or rfl rfl rfl rfl rfl rfl rfl rfl rfl)) | refine S5 ?_ | (intro hb; try replace hb := simB hb; try exact kill hb))
      ((first | apply HX_ret | apply HX_retn); (repeat (first | exact Res_nil | apply Res_tmp rfl | apply Res_ce rfl rfl rfl)); unfold RetQ; refine ⟨(), trivial, ?_, Keeps.nil⟩)
      rfl
    | some a =>
      rw [hA] at had
      unfold adV at had
      refine Tri_of (N := Tryz.f193.ntmps) (c := bodyOf Tryz.f193) Tryz.func193 rfl rfl rfl rfl (fun w0 S0 => ?_)
      repeat' (first | refine SW ?_ | refine SD ?_ | (refine HO_k 12 rfl ?_; refine HO_callq rfl rfl rfl rfl (hcut) (fun _ _ => rfl) (srcsA) rfl rfl sqA ?_) | (refine HO_k 12 rfl ?_; refine HO_callq rfl rfl rfl rfl (had) (fun _ _ => rfl) (srcsA) rfl rfl sqA ?_) | (refine HO_k 12 rfl ?_; refine HO_callq rfl rfl rfl rfl (hs) (fun _ _ => rfl) (trivial) rfl rfl sqA ?_) | exact HO_seg rfl rfl | refine S1 ?_ | (refine S2 ?_; intro _) | (refine S3 ?_; intro _ _) | (refine S4 ?_; intro _ _ _) | (refine HO_g 2 rfl ?_; (first | apply HO_and rfl rfl rfl rfl rfl rfl rfl rfl rfl | apply HO_or rfl rfl rfl rfl rfl rfl rfl rfl rfl)) | refine S5 ?_ | (intro hb; try replace hb := simB hb; try exact kill hb))
      ((first | apply HX_ret | apply HX_retn); (repeat (first | exact Res_nil | apply Res_tmp rfl | apply Res_ce rfl rfl rfl)); unfold RetQ; refine ⟨(), trivial, ?_, Keeps.nil⟩)
      rfl
  · subst his
    rw [if_pos rfl]
    cases hA : adR x with
    | none =>
      rw [hA] at had
      unfold adV at had
      refine Tri_of (N := Tryz.f193.ntmps) (c := bodyOf Tryz.f193) Tryz.func193 rfl rfl rfl rfl (fun w0 S0 => ?_)
      repeat' (first | refine SW ?_ | refine SD ?_ | (refine HO_k 12 rfl ?_; refine HO_callq rfl rfl rfl rfl (hcut) (fun _ _ => rfl) (srcsA) rfl rfl sqA ?_) | (refine HO_k 12 rfl ?_; refine HO_callq rfl rfl rfl rfl (had) (fun _ _ => rfl) (srcsA) rfl rfl sqA ?_) | (refine HO_k 12 rfl ?_; refine HO_callq rfl rfl rfl rfl (hs) (fun _ _ => rfl) (trivial) rfl rfl sqA ?_) | exact HO_seg rfl rfl | refine S1 ?_ | (refine S2 ?_; intro _) | (refine S3 ?_; intro _ _) | (refine S4 ?_; intro _ _ _) | (refine HO_g 2 rfl ?_; (first | apply HO_and rfl rfl rfl rfl rfl rfl rfl rfl rfl | apply HO_or rfl rfl rfl rfl rfl rfl rfl rfl rfl)) | refine S5 ?_ | (intro hb; try replace hb := simB hb; try exact kill hb))
      ((first | apply HX_ret | apply HX_retn); (repeat (first | exact Res_nil | apply Res_tmp rfl | apply Res_ce rfl rfl rfl)); unfold RetQ; refine ⟨(), trivial, ?_, Keeps.nil⟩)
      rfl
    | some a =>
      rw [hA] at had
      unfold adV at had
      have ha := adR_lt hA
      rcases sm_cases 32 y with ⟨h1, _⟩ | ⟨n, h3, h1, h2⟩
      · rw [h1] at hs ⊢
        rw [show (Option.none : Option Nat).isSome = false from rfl] at hs
        refine Tri_of (N := Tryz.f193.ntmps) (c := bodyOf Tryz.f193) Tryz.func193 rfl rfl rfl rfl (fun w0 S0 => ?_)
        repeat' (first | refine SW ?_ | refine SD ?_ | (refine HO_k 12 rfl ?_; refine HO_callq rfl rfl rfl rfl (hcut) (fun _ _ => rfl) (srcsA) rfl rfl sqA ?_) | (refine HO_k 12 rfl ?_; refine HO_callq rfl rfl rfl rfl (had) (fun _ _ => rfl) (srcsA) rfl rfl sqA ?_) | (refine HO_k 12 rfl ?_; refine HO_callq rfl rfl rfl rfl (hs) (fun _ _ => rfl) (trivial) rfl rfl sqA ?_) | exact HO_seg rfl rfl | refine S1 ?_ | (refine S2 ?_; intro _) | (refine S3 ?_; intro _ _) | (refine S4 ?_; intro _ _ _) | (refine HO_g 2 rfl ?_; (first | apply HO_and rfl rfl rfl rfl rfl rfl rfl rfl rfl | apply HO_or rfl rfl rfl rfl rfl rfl rfl rfl rfl)) | refine S5 ?_ | (intro hb; try replace hb := simB hb; try exact kill hb))
        ((first | apply HX_ret | apply HX_retn); (repeat (first | exact Res_nil | apply Res_tmp rfl | apply Res_ce rfl rfl rfl)); unfold RetQ; refine ⟨(), trivial, ?_, Keeps.nil⟩)
        rfl
      · rw [h1, h2] at hs
        rw [h1]
        rw [show (some n).isSome = true from rfl] at hs
        dsimp only at hs ⊢
        have hc := addrCheck_t a ha n
        dsimp only [pfV] at hc
        cases hx : okX a n
        · rw [hx] at hc
          rw [if_neg (by decide)]
          refine Tri_of (N := Tryz.f193.ntmps) (c := bodyOf Tryz.f193) Tryz.func193 rfl rfl rfl rfl (fun w0 S0 => ?_)
          repeat' (first | refine SW ?_ | refine SD ?_ | (refine HO_k 12 rfl ?_; refine HO_callq rfl rfl rfl rfl (hcut) (fun _ _ => rfl) (srcsA) rfl rfl sqA ?_) | (refine HO_k 12 rfl ?_; refine HO_callq rfl rfl rfl rfl (had) (fun _ _ => rfl) (srcsA) rfl rfl sqA ?_) | (refine HO_k 12 rfl ?_; refine HO_callq rfl rfl rfl rfl (hs) (fun _ _ => rfl) (trivial) rfl rfl sqA ?_) | (refine HO_k 12 rfl ?_; refine HO_callq rfl rfl rfl rfl (hc) (fun _ _ => rfl) (trivial) rfl rfl sqA ?_) | exact HO_seg rfl rfl | refine S1 ?_ | (refine S2 ?_; intro _) | (refine S3 ?_; intro _ _) | (refine S4 ?_; intro _ _ _) | (refine HO_g 2 rfl ?_; (first | apply HO_and rfl rfl rfl rfl rfl rfl rfl rfl rfl | apply HO_or rfl rfl rfl rfl rfl rfl rfl rfl rfl)) | refine S5 ?_ | (intro hb; try replace hb := simB hb; try exact kill hb))
          ((first | apply HX_ret | apply HX_retn); (repeat (first | exact Res_nil | apply Res_tmp rfl | apply Res_ce rfl rfl rfl)); unfold RetQ; refine ⟨(), trivial, ?_, Keeps.nil⟩)
          rfl
        · rw [hx] at hc
          rw [if_pos rfl]
          refine Tri_of (N := Tryz.f193.ntmps) (c := bodyOf Tryz.f193) Tryz.func193 rfl rfl rfl rfl (fun w0 S0 => ?_)
          repeat' (first | refine SW ?_ | refine SD ?_ | (refine HO_k 12 rfl ?_; refine HO_callq rfl rfl rfl rfl (hcut) (fun _ _ => rfl) (srcsA) rfl rfl sqA ?_) | (refine HO_k 12 rfl ?_; refine HO_callq rfl rfl rfl rfl (had) (fun _ _ => rfl) (srcsA) rfl rfl sqA ?_) | (refine HO_k 12 rfl ?_; refine HO_callq rfl rfl rfl rfl (hs) (fun _ _ => rfl) (trivial) rfl rfl sqA ?_) | (refine HO_k 12 rfl ?_; refine HO_callq rfl rfl rfl rfl (hc) (fun _ _ => rfl) (trivial) rfl rfl sqA ?_) | exact HO_seg rfl rfl | refine S1 ?_ | (refine S2 ?_; intro _) | (refine S3 ?_; intro _ _) | (refine S4 ?_; intro _ _ _) | (refine HO_g 2 rfl ?_; (first | apply HO_and rfl rfl rfl rfl rfl rfl rfl rfl rfl | apply HO_or rfl rfl rfl rfl rfl rfl rfl rfl rfl)) | refine S5 ?_ | (intro hb; try replace hb := simB hb; try exact kill hb))
          ((first | apply HX_ret | apply HX_retn); (repeat (first | exact Res_nil | apply Res_tmp rfl | apply Res_ce rfl rfl rfl)); unfold RetQ; refine ⟨(), trivial, ?_, Keeps.nil⟩)
          rfl
theorem splB_mem (c : UInt8) : ∀ l : List UInt8, ∀ x ∈ splB c l, x.length ≤ l.length
  | [], x, h => by
    simp [splB] at h
    subst h
    exact Nat.le_refl _
  | a :: l, x, h => by
    have ih := splB_mem c l
    unfold splB at h
    split at h
    · rcases List.mem_cons.1 h with e | h
      · subst e; exact Nat.zero_le _
      · have := ih x h
        simp only [List.length_cons]
        omega
    · split at h
      · simp at h
        subst h
        simp
      · rename_i hd tl e
        rcases List.mem_cons.1 h with e' | h
        · subst e'
          have := ih hd (by rw [e]; exact List.mem_cons_self)
          simp only [List.length_cons]
          omega
        · have := ih x (by rw [e]; exact List.mem_cons_of_mem _ h)
          simp only [List.length_cons]
          omega
theorem smI_val (y : List UInt8) : ∃ v : Int, smI y 32 = .int .i64 v ∧ (smM 32 y = none → v = -1) ∧ ∀ n, smM 32 y = some n → v = n := by
  unfold smI
  rcases sm_cases 32 y with ⟨h1, h2 | ⟨n, h2, h3⟩⟩ | ⟨n, h3, h1, h2⟩
  · rw [h2, h1]
    exact ⟨_, rfl, fun _ => rfl, fun n h => by cases h⟩
  · rw [h2, h1]
    exact ⟨_, rfl, fun _ => if_pos (by omega), fun n h => by cases h⟩
  · rw [h2, h1]
    refine ⟨(n : Int), ?_, (fun h => by cases h), (fun k h => by injection h with h; subst h; rfl)⟩
    dsimp only
    rw [if_neg (by omega)]
set_option maxHeartbeats 16000000 in
theorem rparse_t (l : List UInt8) (hl : l.length ≤ 90000) : Tri Tryz.prog 145 [.string ⟨l.toArray⟩] [] [] (fun _ : Unit => True) (fun _ => rpV (paQ l)) (fun _ => []) := by
  have hsp : Tri Tryz.prog 143 [.string ⟨l.toArray⟩, .int .u8 47] [] [] (fun _ : OA => True) (fun x => .slice x.1 (splB 47 l).length x.2) (fun x => [ownT x (splB 47 l)]) := rsplit_t l 47 (by omega)
  have hlen : ∀ x ∈ splB 47 l, x.length ≤ l.length := splB_mem 47 l
  have hno : (splB 47 l).length ≠ 2 → paQ l = none := fun h => by
    unfold paQ
    split
    · rename_i x y e
      rw [e] at h
      exact absurd rfl h
    · rfl
  obtain ⟨Q, hQ⟩ : ∃ Q, paQ l = Q := ⟨_, rfl⟩
  rw [hQ] at hno ⊢
  unfold paQ at hQ
  obtain ⟨L, hL⟩ : ∃ L, splB 47 l = L := ⟨_, rfl⟩
  rw [hL] at hsp hlen hno hQ
  by_cases h2 : L.length = 2
  · obtain ⟨x, y, rfl⟩ : ∃ x y, L = [x, y] := by
      match L, h2 with
      | [x, y], _ => exact ⟨x, y, rfl⟩
    dsimp only at hQ
    have hx := hlen x (by simp)
    have hy := hlen y (by simp)
    have had := raddr_t x (by omega)
    have hs : Tri Tryz.prog 144 [.string ⟨y.toArray⟩, .int .i64 32] [] [] (fun _ : Unit => True) (fun _ => smI y 32) (fun _ => []) := rsmall_t y 32
    have hi0 : ([x, y] : List (List UInt8))[0]? = some x := rfl
    have hi1 : ([x, y] : List (List UInt8))[1]? = some y := rfl
    obtain ⟨L2, hL2⟩ : ∃ L2, [x, y] = L2 := ⟨_, rfl⟩
    rw [hL2] at hsp hi0 hi1 h2
    clear hL2 hlen hL
    obtain ⟨v, hv, v1, v2⟩ := smI_val y
    rw [hv] at hs
    clear hv
    cases hA : adR x with
    | none =>
      rw [hA] at had hQ
      unfold raV at had
      subst hQ
      refine Tri_of (N := Tryz.f145.ntmps) (c := bodyOf Tryz.f145) Tryz.func145 rfl rfl rfl rfl (fun w0 S0 => ?_)
      repeat' (first | refine SW ?_ | refine SD ?_ | (refine HO_k 12 rfl ?_; refine HO_call rfl rfl rfl rfl (hsp) rfl (trivial) rfl rfl soA ?_; intro ⟨xA, xc⟩ hxx; dsimp only [List.cons_append, List.nil_append]) | (refine HO_k 12 rfl ?_; refine HO_callq rfl rfl rfl rfl (had) (fun _ _ => rfl) (trivial) rfl rfl sqA ?_) | (refine HO_k 12 rfl ?_; refine HO_callq rfl rfl rfl rfl (hs) (fun _ _ => rfl) (trivial) rfl rfl sqA ?_) | exact HO_seg rfl rfl | refine S1 ?_ | (refine S2 ?_; intro _) | (refine S3 ?_; intro _ _) | (refine S4 ?_; intro _ _ _) | (refine HO_g 2 rfl ?_; (first | apply HO_and rfl rfl rfl rfl rfl rfl rfl rfl rfl | apply HO_or rfl rfl rfl rfl rfl rfl rfl rfl rfl)) | refine S5 ?_ | (intro hb; try replace hb := simB hb; try exact kill hb))
      ((first | apply HX_ret | apply HX_retn); (repeat (first | exact Res_nil | apply Res_tmp rfl | apply Res_ce rfl rfl rfl)); unfold RetQ; refine ⟨(), trivial, ?_, Keeps.nil⟩)
      rfl
    | some a =>
      rw [hA] at had hQ
      unfold raV at had
      have ha := adR_lt hA
      cases hB : smM 32 y with
      | none =>
        rw [hB] at hQ
        subst hQ
        obtain rfl := v1 hB
        refine Tri_of (N := Tryz.f145.ntmps) (c := bodyOf Tryz.f145) Tryz.func145 rfl rfl rfl rfl (fun w0 S0 => ?_)
        repeat' (first | refine SW ?_ | refine SD ?_ | (refine HO_k 12 rfl ?_; refine HO_call rfl rfl rfl rfl (hsp) rfl (trivial) rfl rfl soA ?_; intro ⟨xA, xc⟩ hxx; dsimp only [List.cons_append, List.nil_append]) | (refine HO_k 12 rfl ?_; refine HO_callq rfl rfl rfl rfl (had) (fun _ _ => rfl) (trivial) rfl rfl sqA ?_) | (refine HO_k 12 rfl ?_; refine HO_callq rfl rfl rfl rfl (hs) (fun _ _ => rfl) (trivial) rfl rfl sqA ?_) | exact HO_seg rfl rfl | refine S1 ?_ | (refine S2 ?_; intro _) | (refine S3 ?_; intro _ _) | (refine S4 ?_; intro _ _ _) | (refine HO_g 2 rfl ?_; (first | apply HO_and rfl rfl rfl rfl rfl rfl rfl rfl rfl | apply HO_or rfl rfl rfl rfl rfl rfl rfl rfl rfl)) | refine S5 ?_ | (intro hb; try replace hb := simB hb; try exact kill hb))
        ((first | apply HX_ret | apply HX_retn); (repeat (first | exact Res_nil | apply Res_tmp rfl | apply Res_ce rfl rfl rfl)); unfold RetQ; refine ⟨(), trivial, ?_, Keeps.nil⟩)
        rfl
      | some n =>
        rw [hB] at hQ
        dsimp only at hQ
        obtain rfl := v2 n hB
        have hc := rchk_t a ha n
        dsimp only [pfV] at hc
        cases hx : okX a n
        · rw [hx] at hc hQ
          rw [if_neg (by decide)] at hQ
          subst hQ
          refine Tri_of (N := Tryz.f145.ntmps) (c := bodyOf Tryz.f145) Tryz.func145 rfl rfl rfl rfl (fun w0 S0 => ?_)
          repeat' (first | refine SW ?_ | refine SD ?_ | (refine HO_k 12 rfl ?_; refine HO_call rfl rfl rfl rfl (hsp) rfl (trivial) rfl rfl soA ?_; intro ⟨xA, xc⟩ hxx; dsimp only [List.cons_append, List.nil_append]) | (refine HO_k 12 rfl ?_; refine HO_callq rfl rfl rfl rfl (had) (fun _ _ => rfl) (trivial) rfl rfl sqA ?_) | (refine HO_k 12 rfl ?_; refine HO_callq rfl rfl rfl rfl (hs) (fun _ _ => rfl) (trivial) rfl rfl sqA ?_) | (refine HO_k 12 rfl ?_; refine HO_callq rfl rfl rfl rfl (hc) (fun _ _ => rfl) (trivial) rfl rfl sqA ?_) | exact HO_seg rfl rfl | refine S1 ?_ | (refine S2 ?_; intro _) | (refine S3 ?_; intro _ _) | (refine S4 ?_; intro _ _ _) | (refine HO_g 2 rfl ?_; (first | apply HO_and rfl rfl rfl rfl rfl rfl rfl rfl rfl | apply HO_or rfl rfl rfl rfl rfl rfl rfl rfl rfl)) | refine S5 ?_ | (intro hb; try replace hb := simB hb; try exact kill hb))
          ((first | apply HX_ret | apply HX_retn); (repeat (first | exact Res_nil | apply Res_tmp rfl | apply Res_ce rfl rfl rfl)); unfold RetQ; refine ⟨(), trivial, ?_, Keeps.nil⟩)
          rfl
        · rw [hx] at hc hQ
          rw [if_pos rfl] at hQ
          subst hQ
          refine Tri_of (N := Tryz.f145.ntmps) (c := bodyOf Tryz.f145) Tryz.func145 rfl rfl rfl rfl (fun w0 S0 => ?_)
          repeat' (first | refine SW ?_ | refine SD ?_ | (refine HO_k 12 rfl ?_; refine HO_call rfl rfl rfl rfl (hsp) rfl (trivial) rfl rfl soA ?_; intro ⟨xA, xc⟩ hxx; dsimp only [List.cons_append, List.nil_append]) | (refine HO_k 12 rfl ?_; refine HO_callq rfl rfl rfl rfl (had) (fun _ _ => rfl) (trivial) rfl rfl sqA ?_) | (refine HO_k 12 rfl ?_; refine HO_callq rfl rfl rfl rfl (hs) (fun _ _ => rfl) (trivial) rfl rfl sqA ?_) | (refine HO_k 12 rfl ?_; refine HO_callq rfl rfl rfl rfl (hc) (fun _ _ => rfl) (trivial) rfl rfl sqA ?_) | exact HO_seg rfl rfl | refine S1 ?_ | (refine S2 ?_; intro _) | (refine S3 ?_; intro _ _) | (refine S4 ?_; intro _ _ _) | (refine HO_g 2 rfl ?_; (first | apply HO_and rfl rfl rfl rfl rfl rfl rfl rfl rfl | apply HO_or rfl rfl rfl rfl rfl rfl rfl rfl rfl)) | refine S5 ?_ | (intro hb; try replace hb := simB hb; try exact kill hb))
          ((first | apply HX_ret | apply HX_retn); (repeat (first | exact Res_nil | apply Res_tmp rfl | apply Res_ce rfl rfl rfl)); unfold RetQ; refine ⟨(), trivial, ?_, Keeps.nil⟩)
          rfl
  · rw [hno h2]
    refine Tri_of (N := Tryz.f145.ntmps) (c := bodyOf Tryz.f145) Tryz.func145 rfl rfl rfl rfl (fun w0 S0 => ?_)
    repeat' (first | refine SW ?_ | refine SD ?_ | (refine HO_k 12 rfl ?_; refine HO_call rfl rfl rfl rfl (hsp) rfl (trivial) rfl rfl soA ?_; intro ⟨xA, xc⟩ hxx; dsimp only [List.cons_append, List.nil_append]) | (refine HO_k 12 rfl ?_; refine HO_callq rfl rfl rfl rfl (had) (fun _ _ => rfl) (trivial) rfl rfl sqA ?_) | (refine HO_k 12 rfl ?_; refine HO_callq rfl rfl rfl rfl (hs) (fun _ _ => rfl) (trivial) rfl rfl sqA ?_) | exact HO_seg rfl rfl | refine S1 ?_ | (refine S2 ?_; intro _) | (refine S3 ?_; intro _ _) | (refine S4 ?_; intro _ _ _) | (refine HO_g 2 rfl ?_; (first | apply HO_and rfl rfl rfl rfl rfl rfl rfl rfl rfl | apply HO_or rfl rfl rfl rfl rfl rfl rfl rfl rfl)) | refine S5 ?_ | (intro hb; try replace hb := simB hb; try exact kill hb))
    ((first | apply HX_ret | apply HX_retn); (repeat (first | exact Res_nil | apply Res_tmp rfl | apply Res_ce rfl rfl rfl)); unfold RetQ; refine ⟨(), trivial, ?_, Keeps.nil⟩)
    rfl
end Go.Proofs.YtbhiojedmkcfoaaGreatDoor
