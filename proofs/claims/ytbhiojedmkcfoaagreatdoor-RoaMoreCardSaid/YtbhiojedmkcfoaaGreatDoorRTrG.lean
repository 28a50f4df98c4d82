/- Part of a proof of many texts: what the theorem at its end leans on. -/
import Derived.Test.YtbhiojedmkcfoaaGreatDoorRTrF
namespace Go.Proofs.YtbhiojedmkcfoaaGreatDoor
set_option linter.unusedVariables false
set_option linter.unusedSimpArgs false
open Go.RowKit
attribute [local irreducible] HC HX HO Tri eP adr
theorem top_bits {a b : Nat} (ha : a < 4294967296) (hb : b < 4294967296) : ∀ n : Nat, n ≤ 32 → (∀ i : Nat, i < n → bitN a (i : Int) = bitN b (i : Int)) → topN a n = topN b n
 | 0, _, _ => by rw [topN_zero a ha, topN_zero b hb]
 | n + 1, hn, h => by
  rw [topN_step a n (by omega), topN_step b n (by omega), top_bits ha hb n (by omega) (fun i hi => h i (by omega))]
  have h1 := h n (by omega)
  unfold bitN at h1
  rw [if_neg (by omega), if_neg (by omega)] at h1
  simp only [Int.toNat_natCast] at h1
  rw [h1]
theorem bits_inj {a n b m : Nat} (ha : a < 4294967296) (hb : b < 4294967296) (h1 : okX a n = true) (h2 : okX b m = true) (h : bitsP a n = bitsP b m) : n = m ∧ a = b := by
 have hl := congrArg List.length h
 rw [bitsP_len, bitsP_len] at hl
 subst hl
 obtain ⟨t1, t2⟩ := okX_top h1
 obtain ⟨t3, _⟩ := okX_top h2
 refine ⟨rfl, ?_⟩
 rw [← t1, ← t3]
 refine top_bits ha hb n t2 fun i hi => ?_
 have hg := congrArg (fun l : List Bool => l[i]?) h
 simp only [bitsP, List.getElem?_map, List.getElem?_range hi, Option.map_some, Option.some.injEq] at hg
 rcases bitN_01 a i with e1 | e1 <;> rcases bitN_01 b i with e2 | e2 <;> rw [e1, e2] at hg ⊢ <;> simp at hg
theorem path_iff {x : RoQ} (hx : roOk x = true) (hxa : x.a < 4294967296) {a n : Nat} (ha : a < 4294967296) (hok : okX a n = true) : (∃ k, k < n + 1 ∧ pathR x = bitsP (topN a k) k) ↔ wiX x.a x.n a n = true := by
 obtain ⟨nx, e, o, l⟩ := roOk_pf hx
 obtain ⟨_, hn⟩ := okX_top hok
 have hp : pathR x = bitsP x.a nx := by unfold pathR; rw [e]; rfl
 rw [hp, e]
 unfold wiX
 rw [hoX_nat x.a nx a l, o, hok]
 simp only [Bool.true_and, Bool.and_eq_true, decide_eq_true_eq]
 constructor
 ·rintro ⟨k, hk, h⟩
  obtain ⟨h1, h2⟩ := bits_inj hxa (Nat.lt_of_le_of_lt (topN_le a k) ha) o (okX_top1 a k (by omega)) h
  subst h1
  exact ⟨by omega, h2.symm⟩
 ·rintro ⟨h1, h2⟩
  exact ⟨nx, by omega, by rw [h2]⟩
theorem cov_any {t : Tre RoN} {l : List RoQ} (ht : TabOk t l) (hl : ∀ x ∈ l, roOk x = true) (hla : ∀ x ∈ l, x.a < 4294967296) {a n : Nat} (ha : a < 4294967296) (hok : okX a n = true) (p : RoQ → Bool) :
  (covI t a (n + 1)).any p = l.any fun x => wiX x.a x.n a n && p x := by
 rw [Bool.eq_iff_iff, List.any_eq_true, List.any_eq_true]
 unfold covI
 constructor
 ·rintro ⟨x, hx, hp⟩
  obtain ⟨k, hk, hx⟩ := List.mem_flatMap.1 hx
  rw [ht] at hx
  obtain ⟨h1, h2⟩ := List.mem_filter.1 hx
  refine ⟨x, h1, ?_⟩
  rw [(path_iff (hl x h1) (hla x h1) ha hok).1 ⟨k, List.mem_range.1 hk, of_decide_eq_true h2⟩, hp]
  rfl
 ·rintro ⟨x, h1, h2⟩
  simp only [Bool.and_eq_true] at h2
  obtain ⟨k, hk, hpath⟩ := (path_iff (hl x h1) (hla x h1) ha hok).2 h2.1
  refine ⟨x, List.mem_flatMap.2 ⟨k, List.mem_range.2 hk, ?_⟩, h2.2⟩
  rw [ht]
  exact List.mem_filter.2 ⟨h1, decide_eq_true hpath⟩
def rightQ (asv n : Int) (x : RoQ) : Bool := decide (x.asn = asv) && decide (n ≤ x.mx)
def stQ (l : List RoQ) (a : Nat) (n : Int) (la : Int × Bool) : Int :=
 if (la.2 && decide (la.1 ≠ 0) && l.any fun x => wiX x.a x.n a n && rightQ la.1 n x) = true then 2 else if (l.any fun x => wiX x.a x.n a n) = true then 3 else 1
theorem stQ_bad {l : List RoQ} {a : Nat} {n : Int} {la : Int × Bool} (h : okX a n = false) : stQ l a n la = 1 := by
 have hw : ∀ x : RoQ, wiX x.a x.n a n = false := fun x => by unfold wiX; rw [h]; rfl
 have h1 : (l.any fun x => wiX x.a x.n a n && rightQ la.1 n x) = false := List.any_eq_false.2 fun x _ => by rw [hw x]; simp
 have h2 : (l.any fun x => wiX x.a x.n a n) = false := List.any_eq_false.2 fun x _ => by rw [hw x]; simp
 unfold stQ
 rw [h1, h2]
 simp
set_option maxHeartbeats 1000000000 in
theorem right_t (b8 b4 : Nat) (a : Nat) (n asv : Int) (x : RoQ) : Tri Tryz.prog 99 (.agg x.e.toArray :: [pt b8, pt b4]) [cel b8 3 [.int .i64 asv], cel b4 49 [.int .u32 a, .int .i64 n]] [] (fun _ : Unit => True) (fun _ => .bool (rightQ asv n x)) (fun _ => []) := by
 unfold rightQ
 dsimp only [RoQ.e]
 refine Tri_of (N := Tryz.f99.ntmps) (c := bodyOf Tryz.f99) Tryz.func99 rfl rfl rfl rfl (fun w0 S0 => ?_)
 repeat' (first | refine SW ?_ | refine SD ?_ | exact HO_seg rfl rfl | refine S1 ?_ | (refine S2 ?_; intro _) | (refine S3 ?_; intro _ _) | (refine S4 ?_; intro _ _ _) | (refine HO_g 2 rfl ?_; first | apply HO_a1 rfl | apply HO_o1 rfl) | refine S5 ?_ | (intro hb; try replace hb := simB hb; try exact kill hb))
 (refine SRt ?_; unfold RetQ; refine ⟨(), trivial, ?_, Keeps.nil⟩)
 rfl
theorem state_nil (a : Nat) (n : Int) (at_ : AttS) : Tri Tryz.prog 34 [.pointer none, pfV a n, .agg at_.e.toArray] [] [] (fun _ : Unit => True) (fun _ => .int .i64 1) (fun _ => []) := by
 unfold pfV
 dsimp only [AttS.e]
 refine Tri_of (N := Tryz.f34.ntmps) (c := bodyOf Tryz.f34) Tryz.func34 rfl rfl rfl rfl (fun w0 S0 => ?_)
 repeat' (first | refine SW ?_ | ((refine HO_g 2 rfl ?_); (refine HO_skip rfl rfl rfl rfl rdA ?_)) | refine SD ?_ | exact HO_seg rfl rfl | refine S1 ?_ | (refine S2 ?_; intro _) | (refine S3 ?_; intro _ _) | (refine S4 ?_; intro _ _ _) | (refine HO_g 2 rfl ?_; first | apply HO_a1 rfl | apply HO_o1 rfl) | refine S5 ?_ | (intro hb; try replace hb := simB hb; try exact kill hb))
 (refine SRt ?_; unfold RetQ; refine ⟨(), trivial, ?_, Keeps.nil⟩)
 rfl
set_option maxHeartbeats 1000000000 in
theorem state_t (tt tb b : Nat) (x : RoN) (l r : Tre RoN) (k m : Int) (es : List RoQ) (ht : TabOk (.nd b x l r) es) (he : ∀ x ∈ es, roOk x = true) (hea : ∀ x ∈ es, x.a < 4294967296) (hel : es.length ≤ 4096) (a : Nat) (ha : a < 4294967296) (n : Int) (at_ : AttS) (hat : PathW at_) :
  Tri Tryz.prog 34 [pt tt, pfV a n, .agg at_.e.toArray] ([cel tt TTab [pt tb, .int .i64 m], cel tb TTr [.pointer (Tre.nd b x l r).root, .int .i64 k], inn (Tre.nd b x l r).pc] ++ at_.ro) [] (fun _ : Unit => True) (fun _ => .int .i64 (stQ es a n (lastQ at_))) (fun _ => []) := by
 have c1 := addrCheck_t a ha n
 cases hok : okX a n with
 | false =>
  rw [hok] at c1
  rw [stQ_bad hok]
  unfold pfV at c1 ⊢
  simp only [Bool.false_eq_true, if_false] at c1
  dsimp only [AttS.e, AttS.ro, lca, lna]
  refine Tri_of (N := Tryz.f34.ntmps) (c := bodyOf Tryz.f34) Tryz.func34 rfl rfl rfl rfl (fun w0 S0 => ?_)
  repeat' (first | refine SW ?_ | ((refine HO_g 2 rfl ?_); (refine HO_skip rfl rfl rfl rfl rdA ?_)) | refine SD ?_ | (refine HO_k 12 rfl ?_; refine HO_callq rfl rfl rfl rfl (c1) (fun _ _ => rfl) (trivial) rfl rfl sqA ?_) | exact HO_seg rfl rfl | refine S1 ?_ | (refine S2 ?_; intro _) | (refine S3 ?_; intro _ _) | (refine S4 ?_; intro _ _ _) | (refine HO_g 2 rfl ?_; first | apply HO_a1 rfl | apply HO_o1 rfl) | refine S5 ?_ | (intro hb; try replace hb := simB hb; try exact kill hb))
  (refine SRt ?_; unfold RetQ; refine ⟨(), trivial, ?_, Keeps.nil⟩)
  rfl
 | true =>
  rw [hok] at c1
  simp only [if_true] at c1
  have hb := okX_len hok
  obtain ⟨n, rfl⟩ : ∃ q : Nat, n = q := ⟨n.toNat, by omega⟩
  have c2 := cover_t tt tb b x l r k m a ha n (by omega) (fun bs => Nat.le_trans (ht.le hel bs) (by decide))
  have c3 := last_t at_ hat
  have hany := cov_any ht he hea ha hok
  have hlen : ∀ bs, (gx ((Tre.nd b x l r).look ron0 bs)).xs.length ≤ 4096 := fun bs => ht.le hel bs
  have hcl := covI_len hlen a (n + 1)
  unfold stQ
  have h2 := hany (rightQ (lastQ at_).1 n)
  have h3 := hany fun _ => true
  simp only [Bool.and_true] at h3
  rw [← h2, ← h3]
  clear h2 h3 hany hlen ht he hea
  obtain ⟨t, ht⟩ : ∃ t, Tre.nd b x l r = t := ⟨_, rfl⟩
  have hroot : t.root = some ⟨b, 0, none⟩ := by rw [← ht]; rfl
  rw [ht] at c2 hcl ⊢
  rw [hroot] at c2 ⊢
  clear ht hroot x l r
  obtain ⟨L, hL⟩ : ∃ L, covI t a (n + 1) = L := ⟨_, rfl⟩
  rw [hL] at c2 hcl ⊢
  clear hL
  obtain ⟨⟨asv, is⟩, hla⟩ : ∃ q, lastQ at_ = q := ⟨_, rfl⟩
  rw [hla] at c3 ⊢
  clear hla
  have hLn : L.length ≤ 1000000 := by omega
  unfold pfV at c1 c2 ⊢
  have c4 := fun A c b8 b4 => containsE_t A L.length c L rfl hLn 99 [pt b8, pt b4] [cel b8 3 [.int .i64 asv], cel b4 49 [.int .u32 a, .int .i64 n]] (rightQ asv n) (fun x _ => right_t b8 b4 a n asv x)
  dsimp only at c3 ⊢
  cases hLe : L.any (fun _ => true) with
  | false =>
   have : L = [] := by
    cases L with
    | nil => rfl
    | cons y L => simp at hLe
   subst this
   dsimp only [AttS.e, AttS.ro, lca, lna] at c3 ⊢
   refine Tri_of (N := Tryz.f34.ntmps) (c := bodyOf Tryz.f34) Tryz.func34 rfl rfl rfl rfl (fun w0 S0 => ?_)
   repeat' (first | refine SW ?_ | ((refine HO_g 2 rfl ?_); (refine HO_skip rfl rfl rfl rfl rdA ?_)) | refine SD ?_ | (refine HO_k 12 rfl ?_; refine HO_callq rfl rfl rfl rfl (c1) (fun _ _ => rfl) (trivial) rfl rfl sqA ?_) | (refine HO_k 12 rfl ?_; refine HO_call rfl rfl rfl rfl (c2) rfl (srcsA) rfl rfl soA ?_; intro z2 hz2; dsimp only [lca, lna]) | (refine HO_k 12 rfl ?_; refine HO_callq rfl rfl rfl rfl (c3) (fun _ _ => rfl) (srcsA) rfl rfl sqA ?_) | exact HO_seg rfl rfl | refine S1 ?_ | (refine S2 ?_; intro _) | (refine S3 ?_; intro _ _) | (refine S4 ?_; intro _ _ _) | (refine HO_g 2 rfl ?_; first | apply HO_a1 rfl | apply HO_o1 rfl) | refine S5 ?_ | (intro hb; try replace hb := simB hb; try exact kill hb))
   (refine SRt ?_; unfold RetQ; refine ⟨(), trivial, ?_, Keeps.nil⟩)
   simp
   rfl
  | true =>
   have hpos : 0 < L.length := by
    cases L with
    | nil => simp at hLe
    | cons y L => simp
   have hnz : ¬ ((L.length : Int) = 0) := by omega
   cases is with
   | false =>
    dsimp only [AttS.e, AttS.ro, lca, lna] at c3 ⊢
    refine Tri_of (N := Tryz.f34.ntmps) (c := bodyOf Tryz.f34) Tryz.func34 rfl rfl rfl rfl (fun w0 S0 => ?_)
    repeat' (first | refine SW ?_ | ((refine HO_g 2 rfl ?_); (refine HO_skip rfl rfl rfl rfl rdA ?_)) | refine SD ?_ | (refine HO_k 12 rfl ?_; refine HO_callq rfl rfl rfl rfl (c1) (fun _ _ => rfl) (trivial) rfl rfl sqA ?_) | (refine HO_k 12 rfl ?_; refine HO_call rfl rfl rfl rfl (c2) rfl (srcsA) rfl rfl soA ?_; intro z2 hz2; dsimp only [lca, lna]) | (refine HO_k 12 rfl ?_; refine HO_callq rfl rfl rfl rfl (c3) (fun _ _ => rfl) (srcsA) rfl rfl sqA ?_) | exact HO_seg rfl rfl | refine S1 ?_ | (refine S2 ?_; intro _) | (refine S3 ?_; intro _ _) | (refine S4 ?_; intro _ _ _) | (refine HO_g 2 rfl ?_; first | apply HO_a1 rfl | apply HO_o1 rfl) | refine S5 ?_ | (intro hb; try replace hb := simB hb; try exact kill hb))
    (refine SRt ?_; unfold RetQ; refine ⟨(), trivial, ?_, Keeps.nil⟩)
    rfl
   | true =>
    by_cases hz : asv = 0
    ·subst hz
     dsimp only [AttS.e, AttS.ro, lca, lna] at c3 ⊢
     refine Tri_of (N := Tryz.f34.ntmps) (c := bodyOf Tryz.f34) Tryz.func34 rfl rfl rfl rfl (fun w0 S0 => ?_)
     repeat' (first | refine SW ?_ | ((refine HO_g 2 rfl ?_); (refine HO_skip rfl rfl rfl rfl rdA ?_)) | refine SD ?_ | (refine HO_k 12 rfl ?_; refine HO_callq rfl rfl rfl rfl (c1) (fun _ _ => rfl) (trivial) rfl rfl sqA ?_) | (refine HO_k 12 rfl ?_; refine HO_call rfl rfl rfl rfl (c2) rfl (srcsA) rfl rfl soA ?_; intro z2 hz2; dsimp only [lca, lna]) | (refine HO_k 12 rfl ?_; refine HO_callq rfl rfl rfl rfl (c3) (fun _ _ => rfl) (srcsA) rfl rfl sqA ?_) | exact HO_seg rfl rfl | refine S1 ?_ | (refine S2 ?_; intro _) | (refine S3 ?_; intro _ _) | (refine S4 ?_; intro _ _ _) | (refine HO_g 2 rfl ?_; first | apply HO_a1 rfl | apply HO_o1 rfl) | refine S5 ?_ | (intro hb; try replace hb := simB hb; try exact kill hb))
     (refine SRt ?_; unfold RetQ; refine ⟨(), trivial, ?_, Keeps.nil⟩)
     rfl
    ·cases hr : L.any (rightQ asv n) with
     | false =>
      simp only [hr] at c4
      dsimp only [AttS.e, AttS.ro, lca, lna] at c3 ⊢
      refine Tri_of (N := Tryz.f34.ntmps) (c := bodyOf Tryz.f34) Tryz.func34 rfl rfl rfl rfl (fun w0 S0 => ?_)
      repeat' (first | refine SW ?_ | ((refine HO_g 2 rfl ?_); (refine HO_skip rfl rfl rfl rfl rdA ?_)) | refine SD ?_ | (refine HO_k 12 rfl ?_; refine HO_callq rfl rfl rfl rfl (c1) (fun _ _ => rfl) (trivial) rfl rfl sqA ?_) | (refine HO_k 12 rfl ?_; refine HO_call rfl rfl rfl rfl (c2) rfl (srcsA) rfl rfl soA ?_; intro z2 hz2; dsimp only [lca, lna]) | (refine HO_k 12 rfl ?_; refine HO_callq rfl rfl rfl rfl (c3) (fun _ _ => rfl) (srcsA) rfl rfl sqA ?_) | (refine HO_k 12 rfl ?_; refine HO_callq rfl rfl rfl rfl (c4 _ _ _ _) (fun _ _ => rfl) ((AllSrc.own 7 rfl rfl (AllSrc.at_ 6 rfl (AllSrc.at_ 9 rfl trivial)))) rfl rfl sqA ?_) | exact HO_seg rfl rfl | refine S1 ?_ | (refine S2 ?_; intro _) | (refine S3 ?_; intro _ _) | (refine S4 ?_; intro _ _ _) | (refine HO_g 2 rfl ?_; first | apply HO_a1 rfl | apply HO_o1 rfl) | refine S5 ?_ | (intro hb; try replace hb := simB hb; try exact kill hb))
      (refine SRt ?_; unfold RetQ; refine ⟨(), trivial, ?_, Keeps.nil⟩)
      simp
      rfl
     | true =>
      simp only [hr] at c4
      dsimp only [AttS.e, AttS.ro, lca, lna] at c3 ⊢
      refine Tri_of (N := Tryz.f34.ntmps) (c := bodyOf Tryz.f34) Tryz.func34 rfl rfl rfl rfl (fun w0 S0 => ?_)
      repeat' (first | refine SW ?_ | ((refine HO_g 2 rfl ?_); (refine HO_skip rfl rfl rfl rfl rdA ?_)) | refine SD ?_ | (refine HO_k 12 rfl ?_; refine HO_callq rfl rfl rfl rfl (c1) (fun _ _ => rfl) (trivial) rfl rfl sqA ?_) | (refine HO_k 12 rfl ?_; refine HO_call rfl rfl rfl rfl (c2) rfl (srcsA) rfl rfl soA ?_; intro z2 hz2; dsimp only [lca, lna]) | (refine HO_k 12 rfl ?_; refine HO_callq rfl rfl rfl rfl (c3) (fun _ _ => rfl) (srcsA) rfl rfl sqA ?_) | (refine HO_k 12 rfl ?_; refine HO_callq rfl rfl rfl rfl (c4 _ _ _ _) (fun _ _ => rfl) ((AllSrc.own 7 rfl rfl (AllSrc.at_ 6 rfl (AllSrc.at_ 9 rfl trivial)))) rfl rfl sqA ?_) | exact HO_seg rfl rfl | refine S1 ?_ | (refine S2 ?_; intro _) | (refine S3 ?_; intro _ _) | (refine S4 ?_; intro _ _ _) | (refine HO_g 2 rfl ?_; first | apply HO_a1 rfl | apply HO_o1 rfl) | refine S5 ?_ | (intro hb; try replace hb := simB hb; try exact kill hb))
      (refine SRt ?_; unfold RetQ; refine ⟨(), trivial, ?_, Keeps.nil⟩)
      simp [hz]
      rfl
theorem stQ_loop {l : List RoQ} {a : Nat} {n : Int} {la : Int × Bool} (h : ∀ x ∈ l, (wiX x.a x.n a n && (la.2 && decide (la.1 ≠ 0) && rightQ la.1 n x)) = false) : stQ l a n la = if (l.any fun x => wiX x.a x.n a n) = true then 3 else 1 := by
 unfold stQ
 rw [if_neg]
 intro hc
 simp only [Bool.and_eq_true, List.any_eq_true] at hc
 obtain ⟨⟨h1, h2⟩, x, hx, h3, h4⟩ := hc
 have := h x hx
 rw [h1, h2, h3, h4] at this
 cases this
theorem stQ_hit {l : List RoQ} {a : Nat} {n : Int} {la : Int × Bool} {x : RoQ} (hx : x ∈ l) (h1 : wiX x.a x.n a n = true) (h2 : (la.2 && decide (la.1 ≠ 0) && rightQ la.1 n x) = true) : stQ l a n la = 2 := by
 simp only [Bool.and_eq_true] at h2
 unfold stQ
 rw [if_pos]
 simp only [Bool.and_eq_true, List.any_eq_true]
 exact ⟨h2.1, x, hx, h1, h2.2⟩
def seenQ (l : List RoQ) (a : Nat) (n : Int) : Int := if (l.any fun x => wiX x.a x.n a n) = true then 3 else 1
theorem seenQ_snoc (l : List RoQ) (x : RoQ) (a : Nat) (n : Int) : seenQ (l ++ [x]) a n = if wiX x.a x.n a n = true then 3 else seenQ l a n := by
 unfold seenQ
 rw [List.any_append]
 cases l.any (fun x => wiX x.a x.n a n) <;> cases h : wiX x.a x.n a n <;> simp [h]
set_option maxHeartbeats 1000000000 in
theorem rstate_t (A : Option Addr) (c : Nat) (l : List RoQ) (hl : l.length ≤ 1000000) (hla : ∀ x ∈ l, x.a < 4294967296) (a : Nat) (ha : a < 4294967296) (n : Int) (at_ : AttS) (hat : PathW at_) :
  Tri Tryz.prog 35 [.slice A l.length c, pfV a n, .agg at_.e.toArray] (arr RoQ.e 4 A l :: at_.ro) [] (fun _ : Unit => True) (fun _ => .int .i64 (stQ l a n (lastQ at_))) (fun _ => []) := by
 have c3 := rlast33_t at_ hat
 obtain ⟨⟨asv, is⟩, hq⟩ : ∃ q, lastQ at_ = q := ⟨_, rfl⟩
 rw [hq] at c3 ⊢
 clear hq
 unfold pfV
 dsimp only [AttS.e, AttS.ro, lca, lna] at c3 ⊢
 refine Tri_of (N := Tryz.f35.ntmps) (c := bodyOf Tryz.f35) Tryz.func35 rfl rfl rfl rfl (fun w0 S0 => ?_)
 repeat' (first | refine SW ?_ | ((refine HO_g 2 rfl ?_); (refine HO_skip rfl rfl rfl rfl rdA ?_)) | refine SD ?_ | (refine HO_k 12 rfl ?_; refine HO_callq rfl rfl rfl rfl (c3) (fun _ _ => rfl) (srcsA) rfl rfl sqA ?_) | exact HO_seg rfl rfl | refine S1 ?_ | (refine S2 ?_; intro _) | (refine S3 ?_; intro _ _) | (refine S4 ?_; intro _ _ _) | (refine HO_g 2 rfl ?_; first | apply HO_a1 rfl | apply HO_o1 rfl) | refine S5 ?_ | (intro hb; try replace hb := simB hb; try exact kill hb))
 rename_i b4 b5
 refine HC_keeps (rw' := [cel b4 49 [.int .u32 a, .int .i64 n]]) (Keeps.skip Keeps.refl) ?_
 refine HC_loop (α := Nat) (fun i => i ≤ l.length ∧ ∀ x ∈ l.take i, (wiX x.a x.n a n && (is && decide (asv ≠ 0) && rightQ asv n x)) = false) (fun i => [(10, .int .i64 i), (9, .int .i64 (seenQ (l.take i) a n)), (8, .bool is), (7, .int .i64 asv), (4, pt b4), (0, .slice A l.length c)])
  (fun _ => [cel b4 49 [.int .u32 a, .int .i64 n]]) (fun i => l.length - i) rfl 0 ⟨Nat.zero_le _, by simp⟩ ⟨rfl, rfl, rfl, rfl, rfl, rfl, trivial⟩ rfl ?_
 rintro i ⟨hi, hno⟩
 rcases Nat.lt_or_ge i l.length with hlt | hge
 ·obtain ⟨x, hx⟩ : ∃ x, l[i]? = some x := ⟨l[i], List.getElem?_eq_getElem hlt⟩
  have hxm := List.mem_of_getElem? hx
  have c1 := rwithin_t x.a (hla x hxm) x.n a ha n
  unfold pfV at c1
  have hsn := seenQ_snoc (l.take i) x a n
  rw [← take_snoc hx] at hsn
  obtain ⟨o, ho⟩ : ∃ o, seenQ (l.take i) a n = o := ⟨_, rfl⟩
  rw [ho] at hsn ⊢
  cases hw : wiX x.a x.n a n with
  | false =>
   rw [hw] at c1 hsn
   simp only [Bool.false_eq_true, if_false] at hsn
   repeat' (first | refine SW ?_ | ((refine HO_g 2 rfl ?_); (refine HO_skip rfl rfl rfl rfl rdA ?_)) | refine SD ?_ | (refine HO_k 12 rfl ?_; refine HO_callq rfl rfl rfl rfl (c1) (fun _ _ => rfl) (trivial) rfl rfl sqA ?_) | exact HO_seg rfl rfl | refine S1 ?_ | (refine S2 ?_; intro _) | (refine S3 ?_; intro _ _) | (refine S4 ?_; intro _ _ _) | (refine HO_g 2 rfl ?_; first | apply HO_a1 rfl | apply HO_o1 rfl) | refine S5 ?_ | (intro hb; try replace hb := simB hb; try exact kill hb))
   exact HX_at (i + 1) ⟨⟨hlt, fun y hy => by
    rw [take_snoc hx] at hy
    rcases List.mem_append.1 hy with h | h
    ·exact hno y h
    ·have := List.mem_singleton.1 h
     subst this
     rw [hw]
     rfl⟩, by show l.length - (i + 1) < l.length - i; omega⟩ ⟨rfl, by rw [hsn]; rfl, rfl, rfl, rfl, rfl, trivial⟩ rfl
  | true =>
   rw [hw] at c1 hsn
   simp only [if_true] at hsn
   have hst : (is && decide (asv ≠ 0) && rightQ asv n x) = true → stQ l a n (asv, is) = 2 := fun h => stQ_hit hxm hw h
   have hgo : (is && decide (asv ≠ 0) && rightQ asv n x) = false → ∀ y ∈ l.take (i + 1), (wiX y.a y.n a n && (is && decide (asv ≠ 0) && rightQ asv n y)) = false := fun h y hy => by
    rw [take_snoc hx] at hy
    rcases List.mem_append.1 hy with h2 | h2
    ·exact hno y h2
    ·have := List.mem_singleton.1 h2
     subst this
     rw [hw, h]
     rfl
   unfold rightQ at hst hgo
   cases is with
   | false =>
    repeat' (first | refine SW ?_ | ((refine HO_g 2 rfl ?_); (refine HO_skip rfl rfl rfl rfl rdA ?_)) | refine SD ?_ | (refine HO_k 12 rfl ?_; refine HO_callq rfl rfl rfl rfl (c1) (fun _ _ => rfl) (trivial) rfl rfl sqA ?_) | exact HO_seg rfl rfl | refine S1 ?_ | (refine S2 ?_; intro _) | (refine S3 ?_; intro _ _) | (refine S4 ?_; intro _ _ _) | (refine HO_g 2 rfl ?_; first | apply HO_a1 rfl | apply HO_o1 rfl) | refine S5 ?_ | (intro hb; try replace hb := simB hb; try exact kill hb))
    exact HX_at (i + 1) ⟨⟨hlt, hgo rfl⟩, by show l.length - (i + 1) < l.length - i; omega⟩ ⟨rfl, by rw [hsn]; rfl, rfl, rfl, rfl, rfl, trivial⟩ rfl
   | true =>
    by_cases hz : asv = 0
    ·subst hz
     repeat' (first | refine SW ?_ | ((refine HO_g 2 rfl ?_); (refine HO_skip rfl rfl rfl rfl rdA ?_)) | refine SD ?_ | (refine HO_k 12 rfl ?_; refine HO_callq rfl rfl rfl rfl (c1) (fun _ _ => rfl) (trivial) rfl rfl sqA ?_) | exact HO_seg rfl rfl | refine S1 ?_ | (refine S2 ?_; intro _) | (refine S3 ?_; intro _ _) | (refine S4 ?_; intro _ _ _) | (refine HO_g 2 rfl ?_; first | apply HO_a1 rfl | apply HO_o1 rfl) | refine S5 ?_ | (intro hb; try replace hb := simB hb; try exact kill hb))
     exact HX_at (i + 1) ⟨⟨hlt, hgo rfl⟩, by show l.length - (i + 1) < l.length - i; omega⟩ ⟨rfl, by rw [hsn]; rfl, rfl, rfl, rfl, rfl, trivial⟩ rfl
    ·by_cases he : x.asn = asv
     ·by_cases hm : n ≤ x.mx
      ·rw [hst (by simp [hz, he, hm])]
       have he' : asv = x.asn := he.symm
       repeat' (first | refine SW ?_ | ((refine HO_g 2 rfl ?_); (refine HO_skip rfl rfl rfl rfl rdA ?_)) | refine SD ?_ | (refine HO_k 12 rfl ?_; refine HO_callq rfl rfl rfl rfl (c1) (fun _ _ => rfl) (trivial) rfl rfl sqA ?_) | exact HO_seg rfl rfl | refine S1 ?_ | (refine S2 ?_; intro _) | (refine S3 ?_; intro _ _) | (refine S4 ?_; intro _ _ _) | (refine HO_g 2 rfl ?_; first | apply HO_a1 rfl | apply HO_o1 rfl) | refine S5 ?_ | (intro hb; try replace hb := simB hb; try exact kill hb))
       (refine SRt ?_; unfold RetQ; refine ⟨(), trivial, ?_, Keeps.nil⟩)
       rfl
      ·have he' : asv = x.asn := he.symm
       repeat' (first | refine SW ?_ | ((refine HO_g 2 rfl ?_); (refine HO_skip rfl rfl rfl rfl rdA ?_)) | refine SD ?_ | (refine HO_k 12 rfl ?_; refine HO_callq rfl rfl rfl rfl (c1) (fun _ _ => rfl) (trivial) rfl rfl sqA ?_) | exact HO_seg rfl rfl | refine S1 ?_ | (refine S2 ?_; intro _) | (refine S3 ?_; intro _ _) | (refine S4 ?_; intro _ _ _) | (refine HO_g 2 rfl ?_; first | apply HO_a1 rfl | apply HO_o1 rfl) | refine S5 ?_ | (intro hb; try replace hb := simB hb; try exact kill hb))
       exact HX_at (i + 1) ⟨⟨hlt, hgo (by simp [hm])⟩, by show l.length - (i + 1) < l.length - i; omega⟩ ⟨rfl, by rw [hsn]; rfl, rfl, rfl, rfl, rfl, trivial⟩ rfl
     ·have he' : ¬ asv = x.asn := fun h => he h.symm
      repeat' (first | refine SW ?_ | ((refine HO_g 2 rfl ?_); (refine HO_skip rfl rfl rfl rfl rdA ?_)) | refine SD ?_ | (refine HO_k 12 rfl ?_; refine HO_callq rfl rfl rfl rfl (c1) (fun _ _ => rfl) (trivial) rfl rfl sqA ?_) | exact HO_seg rfl rfl | refine S1 ?_ | (refine S2 ?_; intro _) | (refine S3 ?_; intro _ _) | (refine S4 ?_; intro _ _ _) | (refine HO_g 2 rfl ?_; first | apply HO_a1 rfl | apply HO_o1 rfl) | refine S5 ?_ | (intro hb; try replace hb := simB hb; try exact kill hb))
      exact HX_at (i + 1) ⟨⟨hlt, hgo (by simp [he])⟩, by show l.length - (i + 1) < l.length - i; omega⟩ ⟨rfl, by rw [hsn]; rfl, rfl, rfl, rfl, rfl, trivial⟩ rfl
 ·obtain rfl : i = l.length := by omega
  rw [List.take_length] at hno ⊢
  rw [stQ_loop (la := (asv, is)) hno]
  repeat' (first | refine SW ?_ | ((refine HO_g 2 rfl ?_); (refine HO_skip rfl rfl rfl rfl rdA ?_)) | refine SD ?_ | exact HO_seg rfl rfl | refine S1 ?_ | (refine S2 ?_; intro _) | (refine S3 ?_; intro _ _) | (refine S4 ?_; intro _ _ _) | (refine HO_g 2 rfl ?_; first | apply HO_a1 rfl | apply HO_o1 rfl) | refine S5 ?_ | (intro hb; try replace hb := simB hb; try exact kill hb))
  (refine SRt ?_; unfold RetQ; refine ⟨(), trivial, ?_, Keeps.nil⟩)
  rfl
end Go.Proofs.YtbhiojedmkcfoaaGreatDoor
