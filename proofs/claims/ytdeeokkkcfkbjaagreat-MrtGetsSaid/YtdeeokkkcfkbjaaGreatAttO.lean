/- attr's reading of all attributes, one behind the other. -/
import Derived.Test.YtdeeokkkcfkbjaaGreatAttN
namespace Go.Proofs.YtdeeokkkcfkbjaaGreat
set_option linter.unusedVariables false
set_option linter.unusedSimpArgs false
open Go.RowKit
attribute [local irreducible] HC HX HO Tri eP adr

theorem rdB_short {l : List UInt8} {q : Nat} (h : l.length < q) : rdB false l (q : Int) = ([], true, l) := by
  unfold rdB
  rw [if_pos (.inr (.inr (by omega)))]
theorem rdB_long {l : List UInt8} {q : Nat} (h : q ≤ l.length) : rdB false l (q : Int) = (l.take q, false, l.drop q) := by
  unfold rdB
  rw [if_neg (by simp; omega), Int.toNat_natCast]
theorem rdB_bad (l : List UInt8) (q : Int) : rdB true l q = ([], true, l) := by
  unfold rdB
  rw [if_pos (.inl rfl)]
theorem numS_t (b : Nat) (A : Option Addr) (c : Nat) (l : List UInt8) (q : Nat) (hq : 1 ≤ q ∧ q ≤ 4) (h : l.length < q) (hc : l.length ≤ c) :
    Tri Tryz.prog 49 [pt b, .int .i64 q] [] (rdP b A c false l) (fun x : OA => l.length ≤ x.2) (fun _ => .int .i64 0) (fun x => rdP b x.1 x.2 true l) := by
  have := nnum_t b A c false l q (by omega) (by omega) hc
  rw [rdB_short h] at this
  exact this
theorem numL_t (b : Nat) (A : Option Addr) (c : Nat) (l : List UInt8) (q : Nat) (hq : 1 ≤ q ∧ q ≤ 4) (h : q ≤ l.length) (hb : l.length ≤ 100000) (hc : l.length ≤ c) :
    Tri Tryz.prog 49 [pt b, .int .i64 q] [] (rdP b A c false l) (fun x : OA => (l.drop q).length ≤ x.2) (fun _ => .int .i64 (ge (l.take q))) (fun x => rdP b x.1 x.2 false (l.drop q)) := by
  have := nnum_t b A c false l q (by omega) (by omega) hc
  have hg : (ngetR (l.take q)).1 = (ge (l.take q) : Int) := by
    have : (l.take q).length = q := by simp; omega
    unfold ngetR
    rw [if_neg (by omega)]
  rw [rdB_long h, hg] at this
  exact this
theorem numB_t (b : Nat) (A : Option Addr) (c : Nat) (l : List UInt8) (q : Nat) (hq : 1 ≤ q ∧ q ≤ 4) (hb : l.length ≤ 100000) (hc : l.length ≤ c) :
    Tri Tryz.prog 49 [pt b, .int .i64 q] [] (rdP b A c true l) (fun x : OA => l.length ≤ x.2) (fun _ => .int .i64 0) (fun x => rdP b x.1 x.2 true l) := by
  have := nnum_t b A c true l q (by omega) (by omega) hc
  rw [rdB_bad] at this
  exact this
theorem bytesB_t (b : Nat) (A : Option Addr) (c : Nat) (l : List UInt8) (n : Int) (hb : l.length ≤ 100000) (hc : l.length ≤ c) :
    Tri Tryz.prog 48 [pt b, .int .i64 n] [] (rdP b A c true l) (fun x : OA × OA => 0 ≤ x.1.2 ∧ l.length ≤ x.2.2) (fun x => .slice x.1.1 0 x.1.2) (fun x => ownB x.1 [] :: rdP b x.2.1 x.2.2 true l) := by
  have := nbytes_t b A c true l n (by omega) hc
  rw [rdB_bad] at this
  exact this
theorem bytesS_t (b : Nat) (A : Option Addr) (c : Nat) (l : List UInt8) (n : Nat) (h : l.length < n) (hb : l.length ≤ 100000) (hc : l.length ≤ c) :
    Tri Tryz.prog 48 [pt b, .int .i64 n] [] (rdP b A c false l) (fun x : OA × OA => 0 ≤ x.1.2 ∧ l.length ≤ x.2.2) (fun x => .slice x.1.1 0 x.1.2) (fun x => ownB x.1 [] :: rdP b x.2.1 x.2.2 true l) := by
  have := nbytes_t b A c false l n (by omega) hc
  rw [rdB_short h] at this
  exact this
theorem bytesL_t (b : Nat) (A : Option Addr) (c : Nat) (l : List UInt8) (n : Nat) (h : n ≤ l.length) (hb : l.length ≤ 100000) (hc : l.length ≤ c) :
    Tri Tryz.prog 48 [pt b, .int .i64 n] [] (rdP b A c false l) (fun x : OA × OA => (l.take n).length ≤ x.1.2 ∧ (l.drop n).length ≤ x.2.2) (fun x => .slice x.1.1 (l.take n).length x.1.2) (fun x => ownB x.1 (l.take n) :: rdP b x.2.1 x.2.2 false (l.drop n)) := by
  have := nbytes_t b A c false l n (by omega) hc
  rw [rdB_long h] at this
  exact this
theorem hdG_short {f k : UInt8} {r : List UInt8} (h : ¬ (1 + f.toNat / 16 % 2 ≤ r.length ∧ ge (r.take (1 + f.toNat / 16 % 2)) ≤ r.length - (1 + f.toNat / 16 % 2))) : hdG (f :: k :: r) = none := by
  simp only [hdG]
  rw [if_neg h]
theorem hdG_long {f k : UInt8} {r : List UInt8} (h : 1 + f.toNat / 16 % 2 ≤ r.length ∧ ge (r.take (1 + f.toNat / 16 % 2)) ≤ r.length - (1 + f.toNat / 16 % 2)) :
    hdG (f :: k :: r) = some (f.toNat, k.toNat, (r.drop (1 + f.toNat / 16 % 2)).take (ge (r.take (1 + f.toNat / 16 % 2))), (r.drop (1 + f.toNat / 16 % 2)).drop (ge (r.take (1 + f.toNat / 16 % 2)))) := by
  simp only [hdG]
  rw [if_pos h]
structure AlI where
  rA : Option Addr
  rc : Nat
  l : List UInt8
  a : AttS
  seen : Nat
set_option maxHeartbeats 16000000 in
set_option maxRecDepth 100000 in
theorem all_t (b : Nat) (a : AttS) (four : Bool) (seen : Nat) (dA : Option Addr) (dc : Nat) (d : List UInt8) (hd : d.length ≤ 100000) (hok : OkS (szF four) ⟨a.pa, seen⟩) :
    Tri Tryz.prog 111 [pt b, .slice dA d.length dc] [arr bE 1 dA d] (attP b a four seen) (fun x : AttS × Nat => ∀ s', allR (szF four) ⟨a.pa, seen⟩ d = some s' → x.1.pa = s'.a ∧ x.2 = s'.seen)
      (fun _ => .bool (allR (szF four) ⟨a.pa, seen⟩ d).isSome) (fun x => attP b x.1 four x.2) := by
  obtain ⟨res, hres⟩ : ∃ res, allR (szF four) ⟨a.pa, seen⟩ d = res := ⟨_, rfl⟩
  rw [hres]
  refine Tri_of (N := Tryz.f111.ntmps) (c := bodyOf Tryz.f111) Tryz.func111 rfl rfl rfl rfl (fun w0 S0 => ?_)
  dsimp only [pt, attP]
  repeat' (first | refine SW ?_ | refine SD ?_ | (refine HO_k 12 rfl ?_; refine HO_call rfl rfl rfl rfl (nfrom_t dA d.length dc d rfl (by omega)) rfl (AllSrc.at_ 0 rfl trivial) rfl rfl soA ?_; intro ⟨br, ⟨rA, rc⟩⟩ hx; dsimp only [rdP, pt, List.cons_append, List.nil_append]) | exact HO_seg rfl rfl | refine S1 ?_ | (refine S2 ?_; intro _) | (refine S3 ?_; intro _ _) | (refine S4 ?_; intro _ _ _) | (refine HO_g 2 rfl ?_; (first | apply HO_and rfl rfl rfl rfl rfl rfl rfl rfl rfl | apply HO_or rfl rfl rfl rfl rfl rfl rfl rfl rfl)) | refine S5 ?_ | (intro hb; try replace hb := simB hb; try exact kill hb))
  refine HC_loop (α := AlI) (fun x => x.l.length ≤ d.length ∧ x.l.length ≤ x.rc ∧ OkS (szF four) ⟨x.a.pa, x.seen⟩ ∧ allR (szF four) ⟨x.a.pa, x.seen⟩ x.l = res) (fun _ => [(5, pt br), (0, pt b)])
    (fun x => rdP br x.rA x.rc false x.l ++ attP b x.a four x.seen) (fun x => x.l.length) rfl ⟨rA, rc, d, a, seen⟩ ⟨Nat.le_refl _, hx, hok, hres⟩ ⟨rfl, rfl, trivial⟩ rfl ?_
  clear hok hres
  intro ⟨rA, rc, l, a, seen⟩ ⟨hld, hlc, hok, hres⟩
  dsimp only [rdP, attP, pt, List.cons_append, List.nil_append] at hld hlc hok hres ⊢
  rcases l with _ | ⟨f, l1⟩
  · rw [allR_nil] at hres
    subst hres
    repeat' (first | refine SW ?_ | refine SD ?_ | (refine HO_k 12 rfl ?_; refine HO_callq rfl rfl rfl rfl (nleftF_t _ _ _ _) (fun _ _ => rfl) (srcsA) rfl rfl sqA ?_) | exact HO_seg rfl rfl | refine S1 ?_ | (refine S2 ?_; intro _) | (refine S3 ?_; intro _ _) | (refine S4 ?_; intro _ _ _) | (refine HO_g 2 rfl ?_; (first | apply HO_and rfl rfl rfl rfl rfl rfl rfl rfl rfl | apply HO_or rfl rfl rfl rfl rfl rfl rfl rfl rfl)) | refine S5 ?_ | (intro hb; try replace hb := simB hb; try exact kill hb))
    ((first | apply HX_ret | apply HX_retn); (repeat (first | exact Res_nil | apply Res_tmp rfl | apply Res_ce rfl rfl rfl)); unfold RetQ; refine ⟨(a, seen), (fun s hs => by cases hs; exact ⟨rfl, rfl⟩), rfl, permA⟩)
  have hf := f.toNat_lt
  simp only [List.length_cons] at hld hlc
  have hlp : 0 < (((f :: l1).length : Nat) : Int) := by simp only [List.length_cons]; omega
  rw [allR_cons _ _ _ (by simp)] at hres
  have h16 := and16 f.toNat hf
  have hq16 := quo16 f.toNat hf
  have hq : 1 ≤ 1 + f.toNat / 16 % 2 ∧ 1 + f.toNat / 16 % 2 ≤ 4 := by omega
  have e16 : (1 + ((f.toNat / 16 % 2 : Nat) : Int)) = ((1 + f.toNat / 16 % 2 : Nat) : Int) := by omega
  rcases l1 with _ | ⟨k, l2⟩
  · have hres : none = res := hres
    subst hres
    repeat' (first | refine SW ?_ | refine SD ?_ | (with_reducible refine HO_rw (congrArg (Value.int .i64) h16) ?_) | (with_reducible refine HO_rw (congrArg (Value.int .i64) hq16) ?_) | (with_reducible refine HO_rw (congrArg (Value.int .i64) e16) ?_) | (refine HO_k 12 rfl ?_; refine HO_callq rfl rfl rfl rfl (nleftF_t _ _ _ _) (fun _ _ => rfl) (srcsA) rfl rfl sqA ?_) | (refine HO_k 12 rfl ?_; refine HO_callq rfl rfl rfl rfl (nbad_t _ _ _ _ _) (fun _ _ => rfl) (srcsA) rfl rfl sqA ?_) | (refine HO_k 12 rfl ?_; refine HO_call rfl rfl rfl rfl (num1_t br rA rc f [] (by simp) (by simpa using hlc)) rfl (trivial) rfl rfl soA ?_; intro ⟨xA, xc⟩ hx1; dsimp only [rdP, pt, List.cons_append, List.nil_append]) | (refine HO_k 12 rfl ?_; refine HO_call rfl rfl rfl rfl (num0_t br xA xc) rfl (trivial) rfl rfl soA ?_; intro ⟨yA, yc⟩ hy1; dsimp only [rdP, pt, List.cons_append, List.nil_append]) | (refine HO_k 12 rfl ?_; refine HO_call rfl rfl rfl rfl (numB_t br yA yc [] _ hq (by simp) hy1) rfl (trivial) rfl rfl soA ?_; intro ⟨zA, zc⟩ hz1; dsimp only [rdP, pt, List.cons_append, List.nil_append]) | (refine HO_k 12 rfl ?_; refine HO_call rfl rfl rfl rfl (bytesB_t br zA zc [] 0 (by simp) hz1) rfl (trivial) rfl rfl soA ?_; intro ⟨⟨uA, uc⟩, ⟨vA, vc⟩⟩ hu1; dsimp only [rdP, pt, List.cons_append, List.nil_append]) | exact HO_seg rfl rfl | refine S1 ?_ | (refine S2 ?_; intro _) | (refine S3 ?_; intro _ _) | (refine S4 ?_; intro _ _ _) | (refine HO_g 2 rfl ?_; (first | apply HO_and rfl rfl rfl rfl rfl rfl rfl rfl rfl | apply HO_or rfl rfl rfl rfl rfl rfl rfl rfl rfl)) | refine S5 ?_ | (intro hb; try replace hb := simB hb; try exact kill hb))
    ((first | apply HX_ret | apply HX_retn); (repeat (first | exact Res_nil | apply Res_tmp rfl | apply Res_ce rfl rfl rfl)); unfold RetQ; refine ⟨(a, seen), (fun s hs => by cases hs), rfl, permA⟩)
  have hk := k.toNat_lt
  simp only [List.length_cons] at hld hlc
  by_cases hs : 1 + f.toNat / 16 % 2 ≤ l2.length ∧ ge (l2.take (1 + f.toNat / 16 % 2)) ≤ l2.length - (1 + f.toNat / 16 % 2)
  rotate_left
  · rw [hdG_short hs] at hres
    have hres : none = res := hres
    subst hres
    obtain ⟨q, hqe⟩ : ∃ q, 1 + f.toNat / 16 % 2 = q := ⟨_, rfl⟩
    rw [hqe] at hs hq e16
    by_cases hs1 : q ≤ l2.length
    · have hs2 : (l2.drop q).length < ge (l2.take q) := by
        rw [List.length_drop]
        exact Nat.lt_of_not_le fun h => hs ⟨hs1, h⟩
      have hd3 : (l2.drop q).length ≤ 100000 := by rw [List.length_drop]; omega
      repeat' (first | refine SW ?_ | refine SD ?_ | (with_reducible refine HO_rw (congrArg (Value.int .i64) h16) ?_) | (with_reducible refine HO_rw (congrArg (Value.int .i64) hq16) ?_) | (with_reducible refine HO_rw (congrArg (Value.int .i64) e16) ?_) | (refine HO_k 12 rfl ?_; refine HO_callq rfl rfl rfl rfl (nleftF_t _ _ _ _) (fun _ _ => rfl) (srcsA) rfl rfl sqA ?_) | (refine HO_k 12 rfl ?_; refine HO_callq rfl rfl rfl rfl (nbad_t _ _ _ _ _) (fun _ _ => rfl) (srcsA) rfl rfl sqA ?_) | (refine HO_k 12 rfl ?_; refine HO_call rfl rfl rfl rfl (num1_t br rA rc f (k :: l2) (by simp only [List.length_cons]; omega) (by simp only [List.length_cons]; omega)) rfl (trivial) rfl rfl soA ?_; intro ⟨xA, xc⟩ hx1; dsimp only [rdP, pt, List.cons_append, List.nil_append]) | (refine HO_k 12 rfl ?_; refine HO_call rfl rfl rfl rfl (num1_t br xA xc k l2 (by omega) hx1) rfl (trivial) rfl rfl soA ?_; intro ⟨yA, yc⟩ hy1; dsimp only [rdP, pt, List.cons_append, List.nil_append]) | (refine HO_k 12 rfl ?_; refine HO_call rfl rfl rfl rfl (numL_t br yA yc l2 q hq hs1 (by omega) hy1) rfl (trivial) rfl rfl soA ?_; intro ⟨zA, zc⟩ hz1; dsimp only [rdP, pt, List.cons_append, List.nil_append]) | (refine HO_k 12 rfl ?_; refine HO_call rfl rfl rfl rfl (bytesS_t br zA zc (l2.drop q) _ hs2 hd3 hz1) rfl (trivial) rfl rfl soA ?_; intro ⟨⟨uA, uc⟩, ⟨vA, vc⟩⟩ hu1; dsimp only [rdP, pt, List.cons_append, List.nil_append]) | exact HO_seg rfl rfl | refine S1 ?_ | (refine S2 ?_; intro _) | (refine S3 ?_; intro _ _) | (refine S4 ?_; intro _ _ _) | (refine HO_g 2 rfl ?_; (first | apply HO_and rfl rfl rfl rfl rfl rfl rfl rfl rfl | apply HO_or rfl rfl rfl rfl rfl rfl rfl rfl rfl)) | refine S5 ?_ | (intro hb; try replace hb := simB hb; try exact kill hb))
      ((first | apply HX_ret | apply HX_retn); (repeat (first | exact Res_nil | apply Res_tmp rfl | apply Res_ce rfl rfl rfl)); unfold RetQ; refine ⟨(a, seen), (fun s hs => by cases hs), rfl, permA⟩)
    · repeat' (first | refine SW ?_ | refine SD ?_ | (with_reducible refine HO_rw (congrArg (Value.int .i64) h16) ?_) | (with_reducible refine HO_rw (congrArg (Value.int .i64) hq16) ?_) | (with_reducible refine HO_rw (congrArg (Value.int .i64) e16) ?_) | (refine HO_k 12 rfl ?_; refine HO_callq rfl rfl rfl rfl (nleftF_t _ _ _ _) (fun _ _ => rfl) (srcsA) rfl rfl sqA ?_) | (refine HO_k 12 rfl ?_; refine HO_callq rfl rfl rfl rfl (nbad_t _ _ _ _ _) (fun _ _ => rfl) (srcsA) rfl rfl sqA ?_) | (refine HO_k 12 rfl ?_; refine HO_call rfl rfl rfl rfl (num1_t br rA rc f (k :: l2) (by simp only [List.length_cons]; omega) (by simp only [List.length_cons]; omega)) rfl (trivial) rfl rfl soA ?_; intro ⟨xA, xc⟩ hx1; dsimp only [rdP, pt, List.cons_append, List.nil_append]) | (refine HO_k 12 rfl ?_; refine HO_call rfl rfl rfl rfl (num1_t br xA xc k l2 (by omega) hx1) rfl (trivial) rfl rfl soA ?_; intro ⟨yA, yc⟩ hy1; dsimp only [rdP, pt, List.cons_append, List.nil_append]) | (refine HO_k 12 rfl ?_; refine HO_call rfl rfl rfl rfl (numS_t br yA yc l2 q hq (by omega) hy1) rfl (trivial) rfl rfl soA ?_; intro ⟨zA, zc⟩ hz1; dsimp only [rdP, pt, List.cons_append, List.nil_append]) | (refine HO_k 12 rfl ?_; refine HO_call rfl rfl rfl rfl (bytesB_t br zA zc l2 0 (by omega) hz1) rfl (trivial) rfl rfl soA ?_; intro ⟨⟨uA, uc⟩, ⟨vA, vc⟩⟩ hu1; dsimp only [rdP, pt, List.cons_append, List.nil_append]) | exact HO_seg rfl rfl | refine S1 ?_ | (refine S2 ?_; intro _) | (refine S3 ?_; intro _ _) | (refine S4 ?_; intro _ _ _) | (refine HO_g 2 rfl ?_; (first | apply HO_and rfl rfl rfl rfl rfl rfl rfl rfl rfl | apply HO_or rfl rfl rfl rfl rfl rfl rfl rfl rfl)) | refine S5 ?_ | (intro hb; try replace hb := simB hb; try exact kill hb))
      ((first | apply HX_ret | apply HX_retn); (repeat (first | exact Res_nil | apply Res_tmp rfl | apply Res_ce rfl rfl rfl)); unfold RetQ; refine ⟨(a, seen), (fun s hs => by cases hs), rfl, permA⟩)
  rw [hdG_long hs] at hres
  obtain ⟨q, hqe⟩ : ∃ q, 1 + f.toNat / 16 % 2 = q := ⟨_, rfl⟩
  rw [hqe] at hs hq e16 hres
  obtain ⟨hs1, hs2⟩ := hs
  obtain ⟨n, hn⟩ : ∃ n, ge (l2.take q) = n := ⟨_, rfl⟩
  have hnum := fun A c hc => numL_t br A c l2 q hq hs1 (by omega) hc
  rw [hn] at hs2 hres hnum
  have hd3 : (l2.drop q).length ≤ 100000 := by rw [List.length_drop]; omega
  have hn3 : n ≤ (l2.drop q).length := by rw [List.length_drop]; omega
  obtain ⟨dt, hdt⟩ : ∃ dt, (l2.drop q).take n = dt := ⟨_, rfl⟩
  obtain ⟨l4, hl4⟩ : ∃ l4, (l2.drop q).drop n = l4 := ⟨_, rfl⟩
  have hdl : dt.length ≤ 100000 := by rw [← hdt, List.length_take]; omega
  have hll4 : l4.length ≤ l2.length := by rw [← hl4, List.length_drop, List.length_drop]; omega
  have hbyt := fun A c hc => bytesL_t br A c (l2.drop q) n hn3 hd3 hc
  rw [hdt, hl4] at hres hbyt
  have htk := fun A c hc => take_t b a four seen f.toNat k.toNat hf hk A c dt hdl hc hok
  obtain ⟨tk, htk0⟩ : ∃ tk, takeG (szF four) f.toNat k.toNat dt ⟨a.pa, seen⟩ = tk := ⟨_, rfl⟩
  simp only [htk0] at hres htk
  cases tk with
  | none =>
    have hres : none = res := hres
    subst hres
    repeat' (first | refine SW ?_ | refine SD ?_ | (with_reducible refine HO_rw (congrArg (Value.int .i64) h16) ?_) | (with_reducible refine HO_rw (congrArg (Value.int .i64) hq16) ?_) | (with_reducible refine HO_rw (congrArg (Value.int .i64) e16) ?_) | (refine HO_k 12 rfl ?_; refine HO_callq rfl rfl rfl rfl (nleftF_t _ _ _ _) (fun _ _ => rfl) (srcsA) rfl rfl sqA ?_) | (refine HO_k 12 rfl ?_; refine HO_callq rfl rfl rfl rfl (nbad_t _ _ _ _ _) (fun _ _ => rfl) (srcsA) rfl rfl sqA ?_) | (refine HO_k 12 rfl ?_; refine HO_call rfl rfl rfl rfl (num1_t br rA rc f (k :: l2) (by simp only [List.length_cons]; omega) (by simp only [List.length_cons]; omega)) rfl (trivial) rfl rfl soA ?_; intro ⟨xA, xc⟩ hx1; dsimp only [rdP, pt, List.cons_append, List.nil_append]) | (refine HO_k 12 rfl ?_; refine HO_call rfl rfl rfl rfl (num1_t br xA xc k l2 (by omega) hx1) rfl (trivial) rfl rfl soA ?_; intro ⟨yA, yc⟩ hy1; dsimp only [rdP, pt, List.cons_append, List.nil_append]) | (refine HO_k 12 rfl ?_; refine HO_call rfl rfl rfl rfl (hnum yA yc hy1) rfl (trivial) rfl rfl soA ?_; intro ⟨zA, zc⟩ hz1; dsimp only [rdP, pt, List.cons_append, List.nil_append]) | (refine HO_k 12 rfl ?_; refine HO_call rfl rfl rfl rfl (hbyt zA zc hz1) rfl (trivial) rfl rfl soA ?_; intro ⟨⟨uA, uc⟩, ⟨vA, vc⟩⟩ hu1; dsimp only [rdP, pt, List.cons_append, List.nil_append]) | (refine HO_k 12 rfl ?_; refine HO_mv 6 rfl rfl ?_; refine HO_mv 6 rfl rfl ?_; refine HO_mv 6 rfl rfl ?_; refine HO_mv 6 rfl rfl ?_; refine HO_call rfl rfl rfl rfl (htk uA uc hu1.1) rfl (srcsA) rfl rfl soA ?_; intro ⟨a', seen'⟩ ha'; dsimp only [attP, List.cons_append, List.nil_append]) | exact HO_seg rfl rfl | refine S1 ?_ | (refine S2 ?_; intro _) | (refine S3 ?_; intro _ _) | (refine S4 ?_; intro _ _ _) | (refine HO_g 2 rfl ?_; (first | apply HO_and rfl rfl rfl rfl rfl rfl rfl rfl rfl | apply HO_or rfl rfl rfl rfl rfl rfl rfl rfl rfl)) | refine S5 ?_ | (intro hb; try replace hb := simB hb; try exact kill hb))
    ((first | apply HX_ret | apply HX_retn); (repeat (first | exact Res_nil | apply Res_tmp rfl | apply Res_ce rfl rfl rfl)); unfold RetQ; refine ⟨(a', seen'), (fun s hs => by cases hs), rfl, permA⟩)
  | some s' =>
    have hres : allR (szF four) s' l4 = res := hres
    have hok' := takeG_ok htk0 hok
    repeat' (first | refine SW ?_ | refine SD ?_ | (with_reducible refine HO_rw (congrArg (Value.int .i64) h16) ?_) | (with_reducible refine HO_rw (congrArg (Value.int .i64) hq16) ?_) | (with_reducible refine HO_rw (congrArg (Value.int .i64) e16) ?_) | (refine HO_k 12 rfl ?_; refine HO_callq rfl rfl rfl rfl (nleftF_t _ _ _ _) (fun _ _ => rfl) (srcsA) rfl rfl sqA ?_) | (refine HO_k 12 rfl ?_; refine HO_callq rfl rfl rfl rfl (nbad_t _ _ _ _ _) (fun _ _ => rfl) (srcsA) rfl rfl sqA ?_) | (refine HO_k 12 rfl ?_; refine HO_call rfl rfl rfl rfl (num1_t br rA rc f (k :: l2) (by simp only [List.length_cons]; omega) (by simp only [List.length_cons]; omega)) rfl (trivial) rfl rfl soA ?_; intro ⟨xA, xc⟩ hx1; dsimp only [rdP, pt, List.cons_append, List.nil_append]) | (refine HO_k 12 rfl ?_; refine HO_call rfl rfl rfl rfl (num1_t br xA xc k l2 (by omega) hx1) rfl (trivial) rfl rfl soA ?_; intro ⟨yA, yc⟩ hy1; dsimp only [rdP, pt, List.cons_append, List.nil_append]) | (refine HO_k 12 rfl ?_; refine HO_call rfl rfl rfl rfl (hnum yA yc hy1) rfl (trivial) rfl rfl soA ?_; intro ⟨zA, zc⟩ hz1; dsimp only [rdP, pt, List.cons_append, List.nil_append]) | (refine HO_k 12 rfl ?_; refine HO_call rfl rfl rfl rfl (hbyt zA zc hz1) rfl (trivial) rfl rfl soA ?_; intro ⟨⟨uA, uc⟩, ⟨vA, vc⟩⟩ hu1; dsimp only [rdP, pt, List.cons_append, List.nil_append]) | (refine HO_k 12 rfl ?_; refine HO_mv 6 rfl rfl ?_; refine HO_mv 6 rfl rfl ?_; refine HO_mv 6 rfl rfl ?_; refine HO_mv 6 rfl rfl ?_; refine HO_call rfl rfl rfl rfl (htk uA uc hu1.1) rfl (srcsA) rfl rfl soA ?_; intro ⟨a', seen'⟩ ha'; dsimp only [attP, List.cons_append, List.nil_append]) | exact HO_seg rfl rfl | refine S1 ?_ | (refine S2 ?_; intro _) | (refine S3 ?_; intro _ _) | (refine S4 ?_; intro _ _ _) | (refine HO_g 2 rfl ?_; (first | apply HO_and rfl rfl rfl rfl rfl rfl rfl rfl rfl | apply HO_or rfl rfl rfl rfl rfl rfl rfl rfl rfl)) | refine S5 ?_ | (intro hb; try replace hb := simB hb; try exact kill hb))
    obtain ⟨e1, e2⟩ := ha' s' rfl
    dsimp only at e1 e2
    refine HX_keeps (rw' := rdP br vA vc false l4 ++ attP b a' four seen') permA ?_
    have es : (⟨a'.pa, seen'⟩ : GS) = s' := by rw [e1, e2]
    exact HX_at ⟨vA, vc, l4, a', seen'⟩ ⟨⟨by simp only; omega, hu1.2, by simp only [es]; exact hok', by simp only [es]; exact hres⟩, by simp only [List.length_cons]; omega⟩ ⟨rfl, rfl, trivial⟩ rfl
end Go.Proofs.YtdeeokkkcfkbjaaGreat
