/- Part of a proof. -/
import Derived.Test.YteeogabkkblkgaaGreatDoorXGLpZ
namespace Go.Proofs.YteeogabkkblkgaaGreatDoor
set_option maxHeartbeats 1000000000
set_option linter.unusedVariables false
set_option linter.unusedSimpArgs false
open Go.RowKit
attribute [local irreducible] HC HX HO Tri eP adr
theorem dos_mem {os : List DoS} {o : DoS} (h : o ∈ os) {e : SL} (he : e ∈ o.ro) : e ∈ dosL os := List.mem_flatMap.2 ⟨o, h, he⟩
theorem dos_src {os : List DoS} {o : DoS} (h : o ∈ os) {src l : List SL} (k : Nat) (hk : src[k]? = some (inn (dosL os))) (hl : AllSrc src l) : AllSrc src (o.ro ++ l) := by
 refine AllSrc.via k hk (inn_arr (dos_mem h (by simp [DoS.ro]))) ?_
 refine AllSrc.via k hk (inn_arr (dos_mem h (by simp [DoS.ro, UpS.ro]))) ?_
 refine AllSrc.via k hk (inn_arr (dos_mem h (by simp [DoS.ro, UpS.ro]))) ?_
 refine AllSrc.via k hk (inn_inn (dos_mem h (by simp [DoS.ro, UpS.ro]))) ?_
 refine AllSrc.via k hk (inn_arr (dos_mem h (by simp [DoS.ro, UpS.ro]))) ?_
 refine AllSrc.via k hk (inn_arr (dos_mem h (by simp [DoS.ro, UpS.ro]))) ?_
 exact AllSrc.via k hk (inn_arr (dos_mem h (by simp [DoS.ro, UpS.ro]))) hl
theorem dos_src0 {os : List DoS} {o : DoS} (h : o ∈ os) {src : List SL} (k : Nat) (hk : src[k]? = some (inn (dosL os))) : AllSrc src o.ro := by
 have := dos_src h k hk (l := []) trivial
 rwa [List.append_nil] at this
theorem tm_nil : TmEq [] [] := ⟨fun _ => rfl, rfl, List.nodup_nil⟩
@[reducible] def dsE (n : Int) (A : Option Addr) (m c t u p x : Nat) (y : Nat × PrQ) : Env := [(0, .int .i64 n), (3, .slice A m c), (9, pt t), (10, pt u), (11, pt p), (13, pt x), (14, .int .i64 y.1)]
@[reducible] def dsP (p t x u : Nat) (y : Nat × PrQ) : List SL := [peP p t y.2, rpP x u y.2]
set_option maxRecDepth 100000 in
theorem does_t (n : Int) (l : Loc) (room : Int) (A : Option Addr) (c : Nat) (os : List DoS) (hid : 0 ≤ l.id ∧ l.id ≤ 4294967295) (hv : ∀ o ∈ os, UpV o.u) :
  Tri Tryz.prog 7 [.int .i64 n, locV l, .int .i64 room, .slice A os.length c] [leW, arr DoS.e 16 A os, inn (dosL os)] [] (fun _ : Unit => True) (fun _ => .bool true) (fun _ => []) := by
 have cl := lives_t
 cases hok : (locOk l.asn l.hold l.id l.paths l.retry l.four && roomOk room) with
 | false =>
  have c1 := fun t => pnew_no n l room t hok
  have c2 := fun t => rpnew_no n l room t hok
  dsimp only [locV, nilV] at c1 c2 ⊢
  by_cases h0 : (0 : Int) < (os.length : Int)
  ·refine Tri_in Tryz.func7 rfl (fun w0 S0 => ?_)
   repeat' (first | refine SY ?_ | (refine KC ?_; refine HO_callP rfl rfl rfl rfl (tnew_t) findA (trivial) rfl rfl soA ?_; intro t ht; dsimp only [lca, lna]) | (refine KC ?_; refine HO_callP rfl rfl rfl rfl (c1 _) findA (trivial) rfl rfl soA ?_; intro e he; dsimp only [lca, lna]) | (refine KC ?_; refine HO_callq rfl rfl rfl rfl (c2 _) (fun _ _ => rfl) (trivial) rfl rfl sqA ?_) | (refine KC ?_; refine HO_callq rfl rfl rfl rfl (cl) (fun _ _ => rfl) (srcsA) rfl rfl sqA ?_) | refine SB ?_ | (refine S2 ?_; intro _) | fail)
   refine HC_keeps (rw' := []) Keeps.nil ?_
   refine HC_loop (α := Unit) (fun _ => True) (fun _ => [(14, .int .i64 0), (13, .pointer none), (3, .slice A os.length c)]) (fun _ => []) (fun _ => 0) rfl () trivial ⟨rfl, rfl, rfl, trivial⟩ rfl ?_
   rintro ⟨⟩ -
   repeat' (first | refine SY ?_ | refine SB ?_ | (refine S2 ?_; intro _) | fail)
   (refine SRt ?_; refine RU ?_)
   rfl
  ·refine Tri_in Tryz.func7 rfl (fun w0 S0 => ?_)
   repeat' (first | refine SY ?_ | (refine KC ?_; refine HO_callP rfl rfl rfl rfl (tnew_t) findA (trivial) rfl rfl soA ?_; intro t ht; dsimp only [lca, lna]) | (refine KC ?_; refine HO_callP rfl rfl rfl rfl (c1 _) findA (trivial) rfl rfl soA ?_; intro e he; dsimp only [lca, lna]) | (refine KC ?_; refine HO_callq rfl rfl rfl rfl (c2 _) (fun _ _ => rfl) (trivial) rfl rfl sqA ?_) | (refine KC ?_; refine HO_callq rfl rfl rfl rfl (cl) (fun _ _ => rfl) (srcsA) rfl rfl sqA ?_) | refine SB ?_ | (refine S2 ?_; intro _) | fail)
   refine HC_keeps (rw' := []) Keeps.nil ?_
   refine HC_loop (α := Unit) (fun _ => True) (fun _ => [(14, .int .i64 0), (13, .pointer none), (3, .slice A os.length c)]) (fun _ => []) (fun _ => 0) rfl () trivial ⟨rfl, rfl, rfl, trivial⟩ rfl ?_
   rintro ⟨⟩ -
   repeat' (first | refine SY ?_ | refine SB ?_ | (refine S2 ?_; intro _) | fail)
   (refine SRt ?_; refine RU ?_)
   rfl
 | true =>
  rw [Bool.and_eq_true] at hok
  obtain ⟨hl, hr⟩ := hok
  have hr2 := hr
  simp only [roomOk, Bool.and_eq_true, decide_eq_true_eq] at hr2
  obtain ⟨rm, rfl⟩ : ∃ k : Nat, room = (k : Int) := ⟨room.toNat, by omega⟩
  have c1 := fun t => pnew_t n l rm t [] hl hr
  have c2 := fun u => rpnew_t n l rm u [] hl hr
  have hI0 := PdI.new (n := n) hl hr
  obtain ⟨Y0, hY⟩ : ∃ Y, newP n l rm [] = Y := ⟨_, rfl⟩
  rw [hY] at c1 c2 hI0
  clear hY
  dsimp only [locV] at c1 c2 ⊢
  refine Tri_in Tryz.func7 rfl (fun w0 S0 => ?_)
  repeat' (first | refine SY ?_ | (refine KC ?_; refine HO_callP rfl rfl rfl rfl (tnew_t) findA (trivial) rfl rfl soA ?_; intro t ht; dsimp only [lca, lna]) | (refine KC ?_; refine HO_callP rfl rfl rfl rfl (c1 _) findA (trivial) rfl rfl soA ?_; intro p hp; dsimp only [lca, lna]) | (refine KC ?_; refine HO_keeps ((Keeps.close (φ := fun y : TmM × OA => TmEq y.1 []) (f := rtmF _) ([], (none, 0)) tm_nil (Keeps.pick 1 rfl rfl (Keeps.add (fun w => own_nil w) Keeps.refl)))) ?_; refine HO_callP rfl rfl rfl rfl (c2 _) findA (trivial) rfl rfl soA ?_; intro x hx; dsimp only [lca, lna]) | (refine KC ?_; refine HO_callq rfl rfl rfl rfl (cl) (fun _ _ => rfl) (srcsA) rfl rfl sqA ?_) | refine SB ?_ | (refine S2 ?_; intro _) | fail)
  rename_i b5 b10
  refine HC_keeps (rw' := dsP p t x b10 (0, Y0)) permA ?_
  refine HC_loop (α := Nat × PrQ) (fun y => y.1 ≤ os.length ∧ PdI l n rm y.2) (dsE n A os.length c t b10 p x) (dsP p t x b10) (fun y => os.length - y.1) rfl (0, Y0) ⟨Nat.zero_le _, hI0⟩ ⟨rfl, rfl, rfl, rfl, rfl, rfl, rfl, trivial⟩ rfl ?_
  rintro ⟨i, Y⟩ ⟨hi, hY⟩
  dsimp only [dsE, dsP] at hi hY ⊢
  by_cases h1 : i < os.length
  case neg =>
   have h1z : ¬ (i : Int) < (os.length : Int) := by omega
   repeat' (first | refine SY ?_ | refine SB ?_ | (refine S2 ?_; intro _) | fail)
   (refine SRt ?_; refine RU ?_)
   rfl
  have h1z : (i : Int) < (os.length : Int) := by omega
  by_cases h2 : (i : Int) < 60
  case neg =>
   repeat' (first | refine SY ?_ | refine SB ?_ | (refine S2 ?_; intro _) | fail)
   (refine SRt ?_; refine RU ?_)
   rfl
  obtain ⟨o, ho⟩ : ∃ o, os[i]? = some o := ⟨os[i], List.getElem?_eq_getElem h1⟩
  have hmem := List.mem_of_getElem? ho
  have c3 := large12_t o
  have src0 : ∀ src : List SL, src[2]? = some (inn (dosL os)) → AllSrc src o.ro := fun src h => dos_src0 hmem 2 h
  cases hb : bigO o with
  | true =>
   rw [hb] at c3
   dsimp only [DoS.e] at c3
   repeat' (first | refine SY ?_ | (refine KC ?_; refine HO_callq rfl rfl rfl rfl (c3) (fun _ _ => rfl) (src0 _ rfl) rfl rfl sqA ?_) | refine SB ?_ | (refine S2 ?_; intro _) | fail)
   exact HX_at (i + 1, Y) ⟨⟨h1, hY⟩, by show os.length - (i + 1) < os.length - i; omega⟩ ⟨rfl, rfl, rfl, rfl, rfl, rfl, rfl, trivial⟩ rfl
  | false =>
   rw [hb] at c3
   have c4 := both_t p t x b10 l n rm Y hY hid o hb (hv o hmem)
   have hY2 := hY.o o
   obtain ⟨Y2, hE⟩ : ∃ Y2, doO Y o = Y2 := ⟨_, rfl⟩
   rw [hE] at c4 hY2
   clear hE
   have c5 := pstate_t p t Y2
   have c6 := pwaiting_t p t Y2
   have c7 := pnumber_t p t Y2
   have c8 := tlen_t t Y2.tm
   dsimp only [DoS.e, staV] at c3 c4 c5
   repeat' (first | refine SY ?_ | (refine KC ?_; refine HO_callq rfl rfl rfl rfl (c3) (fun _ _ => rfl) (src0 _ rfl) rfl rfl sqA ?_) | refine S1 ?_ | (refine S2 ?_; intro _) | refine S5n ?_ | fail)
   refine HC_lex rfl rfl (by decide +kernel) rfl rfl ?_
   refine HO_names (l' := [0, 1, 2, 3, 4, 5, 6, 7, 8, 9, 11, 12, 13, 14, 10, 15, 16, 17, 18, 20, 21, 22, 23, 24, 25, 26, 27, 19, 28, 29, 30, 31, 33, 32, 34, 35, 36, 37, 39, 40, 41, 42, 43, 38, 44, 45]) (by decide +kernel) ?_
   repeat' (first | refine SY ?_ | (refine KC ?_; refine HO_callP rfl rfl rfl rfl (c4) findA ((AllSrc.at_ 0 rfl (src0 _ rfl))) rfl rfl soA ?_; intro v hv1; dsimp only [lca, lna]) | refine S1 ?_ | (refine S2 ?_; intro _) | refine S5n ?_ | fail)
   refine HO_open (β := RpZ) 1 rfl rfl rfl (fun z hz => ?_)
   dsimp only [rpF, rpC, lca, lna]
   refine HO_open (β := OA) 2 rfl rfl rfl (fun zq hzq => ?_)
   dsimp only [rquF, lca, lna]
   refine HO_open (β := TmM × OA) 4 rfl rfl rfl (fun zt hzt => ?_)
   obtain ⟨tl, zt⟩ := zt
   have hzt : TmEq tl Y2.tm := hzt
   dsimp only [rtmF, lca, lna]
   have hst : (!(decide (Y2.st.ph = Y2.st.ph) && (decide (Y2.st.hold = Y2.st.hold) && (decide (Y2.st.four = Y2.st.four) && (decide (Y2.st.paths = Y2.st.paths) && decide (Y2.st.id = Y2.st.id)))))) = false := by simp
   rw [hY2.n] at c7
   rw [← hzt.len] at c8
   repeat' (first | refine SY ?_ | (with_reducible refine HO_rw (congrArg Value.bool hst) ?_) | (refine KC ?_; refine HO_callP rfl rfl rfl rfl (c5) findA (trivial) rfl rfl soA ?_; intro v hv5; dsimp only [lca, lna]) | (refine KC ?_; refine HO_callP rfl rfl rfl rfl (c6) findA (trivial) rfl rfl soA ?_; intro v hv6; dsimp only [lca, lna]) | (refine KC ?_; refine HO_callP rfl rfl rfl rfl (c7) findA (trivial) rfl rfl soA ?_; intro v hv7; dsimp only [lca, lna]) | refine S1 ?_ | (refine S2 ?_; intro _) | refine S5n ?_ | fail)
   refine HO_open (β := Nat × Nat) 0 rfl rfl rfl (fun wz hwz => ?_)
   dsimp only [peF, peC, lca, lna]
   repeat' (first | refine SY ?_ | (refine KC ?_; refine HO_callP rfl rfl rfl rfl (c8) findA (trivial) rfl rfl soA ?_; intro v hv8; dsimp only [lca, lna]) | refine S1 ?_ | (refine S2 ?_; intro _) | refine S5n ?_ | fail)
   refine HC_keeps (rw' := dsP p t x b10 (i, Y2)) (Keeps.comp (Keeps.close (φ := fun _ : Nat × Nat => True) (f := peF p t Y2) wz trivial findA) (Keeps.comp (Keeps.close (φ := fun _ : OA => True) (f := rquF z.q Y2.room Y2.q) zq trivial findA) (Keeps.comp (Keeps.close (φ := fun y : TmM × OA => TmEq y.1 Y2.tm) (f := rtmF b10) (tl, zt) hzt findA) (Keeps.comp (Keeps.close (φ := fun _ : RpZ => True) (f := rpF x b10 Y2) z trivial findA) permA)))) ?_
   refine HC_loop (α := Nat) (fun j => 1 ≤ j ∧ j ≤ 4) (fun j => (15, .int .i64 (j : Nat)) :: dsE n A os.length c t b10 p x (i, Y2)) (fun _ => dsP p t x b10 (i, Y2)) (fun j => 4 - j) rfl 1 ⟨by decide, by decide⟩ ⟨rfl, rfl, rfl, rfl, rfl, rfl, rfl, rfl, trivial⟩ rfl ?_
   intro j ⟨hj1, hj4⟩
   dsimp only [dsE, dsP]
   by_cases hj : (j : Int) ≤ 3
   case neg =>
    repeat' (first | refine SY ?_ | refine SB ?_ | (refine S2 ?_; intro _) | fail)
    exact HX_at (i + 1, Y2) ⟨⟨h1, hY2⟩, by show os.length - (i + 1) < os.length - i; omega⟩ ⟨rfl, rfl, rfl, rfl, rfl, rfl, rfl, trivial⟩ rfl
   have htl := hY2.ok.tl
   have c9 := tat_t t Y2.tm ⟨n, j⟩
   have d1 := rtat_t b10 Y2.tm ⟨n, j⟩ (by omega)
   obtain ⟨⟨at_, is_⟩, hat⟩ : ∃ a, tmAt Y2.tm ⟨n, j⟩ = a := ⟨_, rfl⟩
   rw [hat] at c9 d1
   clear hat
   dsimp only [tkV, tkC] at c9 d1
   refine HC_open (β := Nat × Nat) 0 rfl rfl (fun wz hwz => ?_)
   dsimp only [peF, peC, lca, lna]
   refine HC_open (β := RpZ) 4 rfl rfl (fun z hz => ?_)
   dsimp only [rpF, rpC, lca, lna]
   cases is_
   all_goals
    repeat' (first | refine SY ?_ | (refine KC ?_; refine HO_callP rfl rfl rfl rfl (c9) findA (trivial) rfl rfl soA ?_; intro v hv9; dsimp only [lca, lna]) | (refine KC ?_; refine HO_callP rfl rfl rfl rfl (d1) findA (trivial) rfl rfl soA ?_; intro v hv10; dsimp only [lca, lna]) | refine SB ?_ | (refine S2 ?_; intro _) | fail)
    refine HX_keeps (rw' := dsP p t x b10 (i, Y2)) (Keeps.comp (Keeps.close (φ := fun _ : Nat × Nat => True) (f := peF p t Y2) wz trivial findA) (Keeps.comp (Keeps.close (φ := fun _ : RpZ => True) (f := rpF x b10 Y2) z trivial findA) permA)) ?_
    exact HX_at (j + 1) ⟨⟨by omega, by omega⟩, by show 4 - (j + 1) < 4 - j; omega⟩ ⟨rfl, rfl, rfl, rfl, rfl, rfl, rfl, rfl, trivial⟩ rfl
end Go.Proofs.YteeogabkkblkgaaGreatDoor
