/- Part of a proof of many texts: what the theorem at its end leans on. -/
import Derived.Test.YtbhiojedmkcfoaaGreatDoorZAdV
import Derived.Test.YtbhiojedmkcfoaaGreatDoorZCfB
import Derived.Test.YtbhiojedmkcfoaaGreatDoorZKc
import Derived.LoopIn
import Derived.LoopNIn
import Derived.TacticsInMore
import Derived.RegionIn
import Derived.Shelf.Abstract
import Derived.ArgAppend
namespace Go.Proofs.YtbhiojedmkcfoaaGreatDoor
set_option linter.unusedVariables false
set_option linter.unusedSimpArgs false
open Go.RowKit
attribute [local irreducible] HC HX HO Tri eP adr
theorem nleft_t (b : Nat) (A : Option Addr) (n c : Nat) (bad : Bool) :
  Tri Tryz.prog 120 [pt b] [cel b TR [.slice A n c, .bool bad]] [] (fun _ : Unit => True) (fun _ => .int .i64 (if bad = true then 0 else n)) (fun _ => []) := by
 cases bad
 all_goals
  refine Tri_of (N := Tryz.f120.ntmps) (c := bodyOf Tryz.f120) Tryz.func120 rfl rfl rfl rfl (fun w0 S0 => ?_)
  dsimp only [pt]
  repeat' (first | refine SW ?_ | refine SD ?_ | (refine HO_k 12 rfl ?_; refine HO_callq rfl rfl rfl rfl (nbad_t _ _ _ _ _) (fun _ _ => rfl) (AllSrc.at_ 0 rfl trivial) rfl rfl sqA ?_) | exact HO_seg rfl rfl | refine S1 ?_ | (refine S2 ?_; intro _) | (refine S3 ?_; intro _ _) | (refine S4 ?_; intro _ _ _) | (refine HO_g 2 rfl ?_; first | apply HO_a1 rfl | apply HO_o1 rfl) | refine S5 ?_ | (intro hb; try replace hb := simB hb; try exact kill hb))
  (refine SR ?_; unfold RetQ; refine ⟨(), trivial, ?_, Keeps.nil⟩)
  rfl
theorem shl_one (w : Nat) (h : w ≤ 4) : bShl .i64 1 (8 * w) = ((256 ^ w : Nat) : Int) := by
 have : w = 0 ∨ w = 1 ∨ w = 2 ∨ w = 3 ∨ w = 4 := by omega
 rcases this with rfl | rfl | rfl | rfl | rfl <;> decide
theorem fits_t (n : Int) (w : Nat) (h1 : 1 ≤ w) (h4 : w ≤ 4) :
  Tri Tryz.prog 211 [.int .i64 n, .int .i64 w] [] [] (fun _ : Unit => True) (fun _ => .bool (decide (0 ≤ n) && decide (n < (256 ^ w : Nat)))) (fun _ => []) := by
 have hs := shl_one w h4
 refine Tri_of (N := Tryz.f211.ntmps) (c := bodyOf Tryz.f211) Tryz.func211 rfl rfl rfl rfl (fun w0 S0 => ?_)
 repeat' (first | refine SW ?_ | exact HO_seg rfl rfl | refine S1 ?_ | (refine S2 ?_; intro _) | (refine S3 ?_; intro _ _) | (refine S4 ?_; intro _ _ _) | (refine HO_g 2 rfl ?_; first | apply HO_a1 rfl | apply HO_o1 rfl) | refine S5 ?_ | (intro hb; try replace hb := simB hb; try exact kill hb))
 (refine SR ?_; unfold RetQ; refine ⟨(), trivial, ?_, Keeps.nil⟩)
 rw [hs]
 rfl
@[reducible] def TQ : Nat := 196
@[reducible] def rqP (b : Nat) (A : Option Addr) (c : Nat) (bad : Bool) (l : List UInt8) : List SL := [cel b TQ [.slice A l.length c, .bool bad], arr bE 1 A l]
theorem rbytes_t (b : Nat) (A : Option Addr) (c : Nat) (bad : Bool) (l : List UInt8) (n : Int) (hb : l.length ≤ 1000000000) (hc : l.length ≤ c) :
  Tri Tryz.prog 125 [pt b, .int .i64 n] [] (rqP b A c bad l) (fun x : OA × OA => (rdB bad l n).1.length ≤ x.1.2 ∧ (rdB bad l n).2.2.length ≤ x.2.2) (fun x => .slice x.1.1 (rdB bad l n).1.length x.1.2)
   (fun x => ownB x.1 (rdB bad l n).1 :: rqP b x.2.1 x.2.2 (rdB bad l n).2.1 (rdB bad l n).2.2) := by
 by_cases h : bad = true ∨ n < 0 ∨ l.length < n
 ·rw [show rdB bad l n = ([], true, l) from if_pos h]
  rcases h with rfl | h | h
  all_goals
   refine Tri_of (N := Tryz.f125.ntmps) (c := bodyOf Tryz.f125) Tryz.func125 rfl rfl rfl rfl (fun w0 S0 => ?_)
   dsimp only [rqP, pt]
   repeat' (first | refine SW ?_ | refine SD ?_ | exact HO_seg rfl rfl | refine S1 ?_ | (refine S2 ?_; intro _) | (refine S3 ?_; intro _ _) | (refine S4 ?_; intro _ _ _) | (refine HO_g 2 rfl ?_; first | apply HO_a1 rfl | apply HO_o1 rfl) | refine S5 ?_ | (intro hb; try replace hb := simB hb; try exact kill hb) | refine HC_cond rfl rfl ?_ ?_)
  all_goals try exact false
  all_goals (refine SR ?_; unfold RetQ; refine ⟨((none, 0), (A, c)), ⟨Nat.le_refl _, hc⟩, rfl, Keeps.add (fun w => own_nil w) Keeps.refl⟩)
 ·rw [show rdB bad l n = (l.take n.toNat, bad, l.drop n.toNat) from if_neg h]
  have hbad : bad = false := by cases bad <;> simp_all
  subst hbad
  have hn : 0 ≤ n ∧ n ≤ l.length := by simp at h; omega
  refine Tri_of (N := Tryz.f125.ntmps) (c := bodyOf Tryz.f125) Tryz.func125 rfl rfl rfl rfl (fun w0 S0 => ?_)
  dsimp only [rqP, pt]
  repeat' (first | refine SW ?_ | refine SD ?_ | exact HO_seg rfl rfl | refine S1 ?_ | (refine S2 ?_; intro _) | (refine S3 ?_; intro _ _) | (refine S4 ?_; intro _ _ _) | (refine HO_g 2 rfl ?_; first | apply HO_a1 rfl | apply HO_o1 rfl) | refine S5 ?_ | (intro hb; try replace hb := simB hb; try exact kill hb))
  have hn0 : 0 + n.toNat = (l.take n.toNat).length := by simp; omega
  refine HO_k 11 rfl ?_
  refine HO_app (k := 0) (k2 := 2) (l2 := (l.take n.toNat).map bE) rfl rfl rfl rfl rfl rfl rfl rfl ⟨_, rfl, fun _ S w h => arr_raw S w (arr_take _ S w h)⟩ (by simp; omega) WfL.map rfl rfl (by simp; omega) (by simp; omega) rfl rfl rfl soA ?_
  intro A' c'
  rw [hn0]
  repeat' (first | refine SW ?_ | refine SD ?_ | exact HO_seg rfl rfl | refine S1 ?_ | (refine S2 ?_; intro _) | (refine S3 ?_; intro _ _) | (refine S4 ?_; intro _ _ _) | (refine HO_g 2 rfl ?_; first | apply HO_a1 rfl | apply HO_o1 rfl) | refine S5 ?_ | (intro hb; try replace hb := simB hb; try exact kill hb))
  refine HX_know (C := (l.take n.toNat).length ≤ c') (fun w h => own_cap 0 rfl h) (fun hc' => ?_)
  have e : (l.drop n.toNat).length = l.length - n.toNat := by simp
  (refine SR ?_; unfold RetQ; refine ⟨((A', c'), (cutA A 1 c n.toNat, c - n.toNat)), ⟨hc', by rw [e]; simp only; omega⟩, rfl, Keeps.cons Ent.rfl_ (Keeps.cons (by rw [e]; exact Ent.rfl_) (Keeps.cons (arr_drop _ _ (fun h => by omega)) Keeps.nil))⟩)
theorem rnum_t (b : Nat) (A : Option Addr) (c : Nat) (bad : Bool) (l : List UInt8) (w : Int) (hw : 1 ≤ w ∧ w ≤ 4) (hb : l.length ≤ 1000000000) (hc : l.length ≤ c) :
  Tri Tryz.prog 126 [pt b, .int .i64 w] [] (rqP b A c bad l) (fun x : OA => (rdB bad l w).2.2.length ≤ x.2) (fun _ => .int .i64 (ge (rdB bad l w).1))
   (fun x => rqP b x.1 x.2 (rdB bad l w).2.1 (rdB bad l w).2.2) := by
 have hby := rbytes_t b A c bad l w hb hc
 have h4 : (rdB bad l w).1.length ≤ 4 := by unfold rdB; split <;> simp; omega
 obtain ⟨out, bad', l', hr⟩ : ∃ out bad' l', rdB bad l w = (out, bad', l') := ⟨_, _, _, rfl⟩
 rw [hr] at hby h4 ⊢
 refine Tri_of (N := Tryz.f126.ntmps) (c := bodyOf Tryz.f126) Tryz.func126 rfl rfl rfl rfl (fun w0 S0 => ?_)
 dsimp only [rqP, pt]
 repeat' (first | refine SW ?_ | refine SD ?_ | (refine HO_k 12 rfl ?_; refine HO_callq rfl rfl rfl rfl (rget_t _ _ _ out rfl h4) (fun _ _ => rfl) (AllSrc.via 0 rfl own_byte trivial) rfl rfl sqA ?_) | (refine HO_k 12 rfl ?_; refine HO_call rfl rfl rfl rfl (hby) rfl (trivial) rfl rfl soA ?_; intro ⟨⟨xA, xc⟩, ⟨yA, yc⟩⟩ hx; dsimp only [lca, lna]) | exact HO_seg rfl rfl | refine S1 ?_ | (refine S2 ?_; intro _) | (refine S3 ?_; intro _ _) | (refine S4 ?_; intro _ _ _) | (refine HO_g 2 rfl ?_; first | apply HO_a1 rfl | apply HO_o1 rfl) | refine S5 ?_ | (intro hb; try replace hb := simB hb; try exact kill hb))
 (refine SR ?_; unfold RetQ; refine ⟨(yA, yc), hx.2, rfl, Keeps.skip Keeps.refl⟩)
theorem rleft_t (b : Nat) (A : Option Addr) (n c : Nat) (bad : Bool) :
  Tri Tryz.prog 127 [pt b] [cel b TQ [.slice A n c, .bool bad]] [] (fun _ : Unit => True) (fun _ => .int .i64 (if bad = true then 0 else n)) (fun _ => []) := by
 cases bad
 all_goals
  refine Tri_of (N := Tryz.f127.ntmps) (c := bodyOf Tryz.f127) Tryz.func127 rfl rfl rfl rfl (fun w0 S0 => ?_)
  dsimp only [pt]
  repeat' (first | refine SW ?_ | refine SD ?_ | exact HO_seg rfl rfl | refine S1 ?_ | (refine S2 ?_; intro _) | (refine S3 ?_; intro _ _) | (refine S4 ?_; intro _ _ _) | (refine HO_g 2 rfl ?_; first | apply HO_a1 rfl | apply HO_o1 rfl) | refine S5 ?_ | (intro hb; try replace hb := simB hb; try exact kill hb))
  (refine SR ?_; unfold RetQ; refine ⟨(), trivial, ?_, Keeps.nil⟩)
  rfl
structure SegS where
 set : Bool
 A : Option Addr
 c : Nat
 ns : List Int
def SegS.e (s : SegS) : List Value := [.bool s.set, .slice s.A s.ns.length s.c]
instance : EncOk SegS.e 2 := ⟨fun _ => ⟨rfl, rfl⟩⟩
structure AttS where
 org : Int
 pA : Option Addr
 pc : Nat
 path : List SegS
 nxt : Int
 med : Int
 pref : Int
 cA : Option Addr
 cc : Nat
 comms : List Int
def AttS.e (a : AttS) : List Value := [.int .i64 a.org, .slice a.pA a.path.length a.pc, .int .u32 a.nxt, .int .i64 a.med, .int .i64 a.pref, .slice a.cA a.comms.length a.cc]
def segPs (l : List SegS) : List SL := l.map fun s => arr iE 1 s.A s.ns
@[reducible] def AttS.ro (a : AttS) : List SL := [inn (segPs a.path), arr SegS.e 2 a.pA a.path, arr iE 1 a.cA a.comms]
theorem seg_mem {l : List SegS} {s : SegS} (h : s ∈ l) : arr iE 1 s.A s.ns ∈ segPs l := List.mem_map.2 ⟨s, h, rfl⟩
def fitsB (w : Nat) (n : Int) : Bool := decide (0 ≤ n) && decide (n < (256 ^ w : Nat))
def szF (four : Bool) : Nat := if four = true then 4 else 2
theorem szF_bd (four : Bool) : 1 ≤ szF four ∧ szF four ≤ 4 := by cases four <;> decide
theorem rsize_t (four : Bool) : Tri Tryz.prog 269 [.bool four] [] [] (fun _ : Unit => True) (fun _ => .int .i64 (szF four)) (fun _ => []) := by
 cases four
 all_goals
  refine Tri_of (N := Tryz.f269.ntmps) (c := bodyOf Tryz.f269) Tryz.func269 rfl rfl rfl rfl (fun w0 S0 => ?_)
  repeat' (first | refine SW ?_ | exact HO_seg rfl rfl | refine S1 ?_ | (refine S2 ?_; intro _) | (refine S3 ?_; intro _ _) | (refine S4 ?_; intro _ _ _) | (refine HO_g 2 rfl ?_; first | apply HO_a1 rfl | apply HO_o1 rfl) | refine S5 ?_ | (intro hb; try replace hb := simB hb; try exact kill hb))
  (refine SR ?_; unfold RetQ; refine ⟨(), trivial, ?_, Keeps.nil⟩)
  rfl
def sgOk (four : Bool) (s : SegS) : Bool := decide (1 ≤ s.ns.length ∧ s.ns.length ≤ 64) && !s.ns.any (fun n => !fitsB (szF four) n)
def attOk (four : Bool) (a : AttS) : Bool := decide (0 ≤ a.org ∧ a.org ≤ 2 ∧ a.nxt ≠ 0 ∧ -1 ≤ a.med ∧ a.med ≤ 4294967295 ∧ -1 ≤ a.pref ∧ a.pref ≤ 4294967295 ∧ a.path.length ≤ 8 ∧ a.comms.length ≤ 32) &&
 !a.path.any (fun s => !sgOk four s) && !a.comms.any (fun n => !fitsB 4 n)
def nb (w : Nat) (l : List Int) : List UInt8 := l.flatMap fun n => be w n.toNat
theorem nb_length (w : Nat) (l : List Int) : (nb w l).length = l.length * w := by
 induction l with
 | nil => simp [nb]
 | cons n l ih =>
  have : nb w (n :: l) = be w n.toNat ++ nb w l := rfl
  rw [this, List.length_append, be_length, ih, List.length_cons, Nat.add_mul]
  omega
theorem nb_snoc (w : Nat) (l : List Int) (n : Int) : nb w (l ++ [n]) = nb w l ++ be w n.toNat := by simp [nb]
theorem fitsB_nat {w : Nat} {n : Int} (h : fitsB w n = true) : ∃ k : Nat, n = k ∧ k < 256 ^ w := by
 simp only [fitsB, Bool.and_eq_true, decide_eq_true_eq] at h
 exact ⟨n.toNat, by omega, by omega⟩
def segB (w : Nat) (s : Bool × List Int) : List UInt8 := (if s.1 = true then 1 else 2) :: UInt8.ofNat s.2.length :: nb w s.2
def pathB (w : Nat) (l : List (Bool × List Int)) : List UInt8 := l.flatMap (segB w)
def attB (f k : Nat) (d : List UInt8) : List UInt8 := if 255 < d.length then UInt8.ofNat (f + 16) :: UInt8.ofNat k :: (be 2 d.length ++ d) else UInt8.ofNat f :: UInt8.ofNat k :: (be 1 d.length ++ d)
def medB (n : Int) : List UInt8 := if 0 ≤ n then attB 128 4 (be 4 n.toNat) else []
def prefB (n : Int) : List UInt8 := if 0 ≤ n then attB 64 5 (be 4 n.toNat) else []
def commB (l : List Int) : List UInt8 := if 0 < l.length then attB 192 8 (nb 4 l) else []
def putB (w : Nat) (p : PA) : List UInt8 :=
 attB 64 1 [UInt8.ofNat p.org.toNat] ++ attB 64 2 (pathB w p.path) ++ attB 64 3 (be 4 p.nxt.toNat) ++ medB p.med ++ prefB p.pref ++ commB p.comms
def pz : PA := ⟨0, [], 0, 0, 0, []⟩
def okSeg (w : Nat) (s : Bool × List Int) : Bool := decide (1 ≤ s.2.length ∧ s.2.length ≤ 64) && !s.2.any (fun n => !fitsB w n)
theorem any_not {α : Type} {p : α → Bool} {l : List α} (h : (!l.any fun n => !p n) = true) : ∀ n ∈ l, p n = true := by
 intro n hn
 cases hp : p n with
 | true => rfl
 | false =>
  rw [List.any_eq_true.2 ⟨n, hn, by rw [hp]; rfl⟩] at h
  cases h
theorem pathB_len (w : Nat) (h4 : w ≤ 4) : ∀ (l : List (Bool × List Int)), (∀ s ∈ l, okSeg w s = true) → (pathB w l).length ≤ l.length * 258 := by
 intro l
 induction l with
 | nil => intro _; simp [pathB]
 | cons s l ih =>
  intro h
  have h1 := ih fun t ht => h t (by simp [ht])
  have h2 := h s (by simp)
  simp only [okSeg, Bool.and_eq_true, decide_eq_true_eq] at h2
  have h3 : s.2.length * w ≤ 64 * 4 := Nat.mul_le_mul h2.1.2 h4
  rw [show pathB w (s :: l) = segB w s ++ pathB w l from rfl, List.length_append, segB, List.length_cons, List.length_cons, nb_length, List.length_cons]
  omega
def okP (w : Nat) (p : PA) : Bool := decide (0 ≤ p.org ∧ p.org ≤ 2 ∧ p.nxt ≠ 0 ∧ -1 ≤ p.med ∧ p.med ≤ 4294967295 ∧ -1 ≤ p.pref ∧ p.pref ≤ 4294967295 ∧ p.path.length ≤ 8 ∧ p.comms.length ≤ 32) &&
 !p.path.any (fun s => !okSeg w s) && !p.comms.any (fun n => !fitsB 4 n)
structure OkP (w : Nat) (p : PA) : Prop where
 o : 0 ≤ p.org ∧ p.org ≤ 2
 n : 0 < p.nxt ∧ p.nxt ≤ 4294967295
 m : -1 ≤ p.med ∧ p.med ≤ 4294967295
 f : -1 ≤ p.pref ∧ p.pref ≤ 4294967295
 l : p.path.length ≤ 8
 c : p.comms.length ≤ 32
 s : ∀ s ∈ p.path, okSeg w s = true
 cs : ∀ n ∈ p.comms, fitsB 4 n = true
theorem okP_of {w : Nat} {p : PA} (hn : 0 ≤ p.nxt ∧ p.nxt ≤ 4294967295) (h : okP w p = true) : OkP w p := by
 simp only [okP, Bool.and_eq_true, decide_eq_true_eq] at h
 obtain ⟨⟨h1, h2⟩, h3⟩ := h
 exact ⟨by omega, by omega, by omega, by omega, by omega, by omega, any_not h2, any_not h3⟩
theorem HO_u8n {m : Md} {P : Program} {N : Nat} {w0 : World} {S0 : Foot} {ops : List Oper} {d : Nat} {env : Env} {ro rw : List SL} {K : Act → World → Prop} {l : List Nat} {k : Nat}
  (h : HO m P N w0 S0 ops l ((d, .int .u8 ((UInt8.ofNat k).toNat : Int)) :: env) ro rw K) : HO m P N w0 S0 ops l ((d, .int .u8 (IntKind.u8.wrap (k : Int))) :: env) ro rw K :=
 HO_rw (by rw [u8_wrap _ (Int.natCast_nonneg _), Int.toNat_natCast]) h
def spl (l : List SegS) : List (Bool × List Int) := l.map fun s => (s.set, s.ns)
theorem pathB_snoc (w : Nat) (l : List SegS) (s : SegS) : pathB w (spl (l ++ [s])) = pathB w (spl l) ++ segB w (s.set, s.ns) := by simp [pathB, spl]
theorem pathB_le (w : Nat) (l : List SegS) (j : Nat) : (pathB w (spl (l.take j))).length ≤ (pathB w (spl l)).length := by
 have : pathB w (spl l) = pathB w (spl (l.take j)) ++ pathB w (spl (l.drop j)) := by
  unfold pathB spl
  rw [← List.flatMap_append, ← List.map_append, List.take_append_drop]
 rw [this, List.length_append]
 omega
def AttS.pa (a : AttS) : PA := ⟨a.org, spl a.path, a.nxt, a.med, a.pref, a.comms⟩
theorem ok_pa (four : Bool) (a : AttS) : attOk four a = okP (szF four) a.pa := by
 unfold attOk okP AttS.pa spl
 simp only [List.length_map, List.any_map]
 rfl
theorem attB_len (f k : Nat) (d : List UInt8) : (attB f k d).length ≤ d.length + 4 := by
 unfold attB
 split <;> simp [be_length] <;> omega
def sameB (p q : PA) : Bool := decide (p.org = q.org) && decide (p.nxt = q.nxt) && decide (p.med = q.med) && decide (p.pref = q.pref) && decide (p.comms = q.comms) && decide (p.path = q.path)
structure Lim (a : AttS) : Prop where
 p : a.path.length ≤ 1000
 c : a.comms.length ≤ 1000
 s : ∀ s ∈ a.path, s.ns.length ≤ 1000
set_option maxHeartbeats 4000000 in
theorem one_t (f k : Nat) (hf : f ≤ 1000) (dA : Option Addr) (dc : Nat) (d : List UInt8) (hd : d.length ≤ 65535) :
  Tri Tryz.prog 268 [.int .i64 f, .int .i64 k, .slice dA d.length dc] [arr bE 1 dA d] [] (fun _ : OA => True) (fun x => .slice x.1 (attB f k d).length x.2) (fun x => [ownB x (attB f k d)]) := by
 by_cases hlen : 255 < d.length
 ·have e : attB f k d = UInt8.ofNat (f + 16) :: UInt8.ofNat k :: (be 2 d.length ++ d) := by unfold attB; rw [if_pos hlen]
  have hbe := be_length 2 d.length
  have hf16 : ((f : Int) + 16) = ((f + 16 : Nat) : Int) := by omega
  rw [e]
  refine Tri_of (N := Tryz.f268.ntmps) (c := bodyOf Tryz.f268) Tryz.func268 rfl rfl rfl rfl (fun w0 S0 => ?_)
  repeat' (first | refine SW ?_ | refine SD ?_ | (with_reducible refine HO_rw (congrArg (Value.int .i64) hf16) ?_) | (with_reducible refine HO_u8n ?_) | (refine HO_k 12 rfl ?_; refine HO_call rfl rfl rfl rfl (rput_t 2 d.length (by decide) (by omega)) rfl (trivial) rfl rfl soA ?_; intro ⟨xA, xc⟩ hx; dsimp only [lca, lna]) | exact HO_seg rfl rfl | refine S1 ?_ | (refine S2 ?_; intro _) | (refine S3 ?_; intro _ _) | (refine S4 ?_; intro _ _ _) | (refine HO_g 2 rfl ?_; first | apply HO_a1 rfl | apply HO_o1 rfl) | refine S5 ?_ | (intro hb; try replace hb := simB hb; try exact kill hb))
  rename_i A1 c1 A' c'
  have eL : 2 + 2 + d.length = (UInt8.ofNat (f + 16) :: UInt8.ofNat k :: (be 2 d.length ++ d)).length := by simp only [List.length_cons, List.length_append, hbe]; omega
  have eM : [[Value.int .u8 ((UInt8.ofNat (f + 16)).toNat : Int)], [Value.int .u8 ((UInt8.ofNat k).toNat : Int)]] ++ List.map bE (be 2 d.length) ++ List.map bE d = List.map bE (UInt8.ofNat (f + 16) :: UInt8.ofNat k :: (be 2 d.length ++ d)) := by
   rw [List.map_cons, List.map_cons, List.map_append]; rfl
  rw [eL, eM]
  (refine SR ?_; unfold RetQ; refine ⟨(A', c'), trivial, rfl, Keeps.cons Ent.rfl_ Keeps.nil⟩)
 ·have e : attB f k d = UInt8.ofNat f :: UInt8.ofNat k :: (be 1 d.length ++ d) := by unfold attB; rw [if_neg hlen]
  have hbe := be_length 1 d.length
  have e1 : be 1 d.length = [UInt8.ofNat d.length] := by simp [be]
  have e2 : ((UInt8.ofNat d.length).toNat : Int) = d.length := by simp; omega
  rw [e]
  refine Tri_of (N := Tryz.f268.ntmps) (c := bodyOf Tryz.f268) Tryz.func268 rfl rfl rfl rfl (fun w0 S0 => ?_)
  repeat' (first | refine SW ?_ | refine SD ?_ | (with_reducible refine HO_u8n ?_) | exact HO_seg rfl rfl | refine S1 ?_ | (refine S2 ?_; intro _) | (refine S3 ?_; intro _ _) | (refine S4 ?_; intro _ _ _) | (refine HO_g 2 rfl ?_; first | apply HO_a1 rfl | apply HO_o1 rfl) | refine S5 ?_ | (intro hb; try replace hb := simB hb; try exact kill hb))
  rename_i A' c'
  have eL : 3 + d.length = (UInt8.ofNat f :: UInt8.ofNat k :: (be 1 d.length ++ d)).length := by simp only [List.length_cons, List.length_append, hbe]; omega
  have eM : [[Value.int .u8 ((UInt8.ofNat f).toNat : Int)], [Value.int .u8 ((UInt8.ofNat k).toNat : Int)], [Value.int .u8 (d.length : Int)]] ++ List.map bE d = List.map bE (UInt8.ofNat f :: UInt8.ofNat k :: (be 1 d.length ++ d)) := by
   rw [List.map_cons, List.map_cons, List.map_append, e1, ← e2]; rfl
  rw [eL, eM]
  (refine SR ?_; unfold RetQ; refine ⟨(A', c'), trivial, rfl, Keeps.cons Ent.rfl_ Keeps.nil⟩)
set_option maxHeartbeats 16000000 in
set_option maxRecDepth 100000 in
theorem rput5_t (a : AttS) (four : Bool) (h : attOk four a = true) (hn : 0 ≤ a.nxt ∧ a.nxt ≤ 4294967295) :
  Tri Tryz.prog 242 [.agg a.e.toArray, .bool four] a.ro [] (fun _ : OA => True) (fun x => .slice x.1 (putB (szF four) a.pa).length x.2) (fun x => [ownB x (putB (szF four) a.pa)]) := by
 have hok := okP_of hn (by rw [← ok_pa]; exact h)
 have hz := szF_bd four
 have hpl := pathB_len (szF four) hz.2 a.pa.path hok.s
 have hl8 := hok.l
 have hc32 := hok.c
 have hsl : ∀ s ∈ a.path, s.ns.length ≤ 64 ∧ ∀ x ∈ s.ns, fitsB (szF four) x = true := fun s hs => by
  have := hok.s (s.set, s.ns) (List.mem_map.2 ⟨s, hs, rfl⟩)
  simp only [okSeg, Bool.and_eq_true, decide_eq_true_eq] at this
  exact ⟨this.1.2, any_not this.2⟩
 obtain ⟨org, pA, pc, path, nxt, med, pref, cA, cc, comms⟩ := a
 simp only [AttS.pa] at hpl hl8 hc32 hok ⊢
 dsimp only at hn hsl
 have ho := hok.o
 have hm := hok.m
 have hf := hok.f
 dsimp only at ho hm hf
 obtain ⟨o, rfl⟩ : ∃ o : Nat, org = o := ⟨org.toNat, by omega⟩
 obtain ⟨o8, rfl⟩ : ∃ u : UInt8, o = u.toNat := ⟨UInt8.ofNat o, by simp; omega⟩
 obtain ⟨nx, rfl⟩ : ∃ o : Nat, nxt = o := ⟨nxt.toNat, by omega⟩
 have hsp : (spl path).length = path.length := by simp [spl]
 have hb1 := attB_len 64 1 [o8]
 have hb2 := attB_len 64 2 (pathB (szF four) (spl path))
 have hb3 := attB_len 64 3 (be 4 nx)
 have hbe := be_length 4 nx
 simp only [List.length_cons, List.length_nil] at hb1
 refine Tri_of (N := Tryz.f242.ntmps) (c := bodyOf Tryz.f242) Tryz.func242 rfl rfl rfl rfl (fun w0 S0 => ?_)
 dsimp only [AttS.ro, AttS.e]
 repeat' (first | refine SW ?_ | refine SD ?_ | (with_reducible refine HO_u8n ?_) | (refine HO_k 12 rfl ?_; refine HO_call rfl rfl rfl rfl (one_t 64 1 (by decide) _ 1 [o8] (by simp)) rfl (srcsA) rfl rfl soA ?_; intro ⟨x1, c1⟩ h1; dsimp only [lca, lna]) | exact HO_seg rfl rfl | refine S1 ?_ | (refine S2 ?_; intro _) | (refine S3 ?_; intro _ _) | (refine S4 ?_; intro _ _ _) | (refine HO_g 2 rfl ?_; first | apply HO_a1 rfl | apply HO_o1 rfl) | refine S5 ?_ | (intro hb; try replace hb := simB hb; try exact kill hb))
 rename_i ba br
 refine HC_keeps (rw' := [ownB (x1, c1) (attB 64 1 [o8]), cel ba 52 [.int .i64 o8.toNat, .slice pA path.length pc, .int .u32 nx, .int .i64 med, .int .i64 pref, .slice cA comms.length cc]]) permA ?_
 refine HC_add (e := ownB (none, 0) []) (fun w => own_nil w) ?_
 refine HC_loop (α := Nat × OA) (fun x => x.1 ≤ path.length) (fun x => [(7, .int .i64 x.1), (6, .slice x.2.1 (pathB (szF four) (spl (path.take x.1))).length x.2.2), (5, .slice x1 (attB 64 1 [o8]).length c1), (2, pt ba), (1, .bool four)])
  (fun x => [ownB x.2 (pathB (szF four) (spl (path.take x.1))), ownB (x1, c1) (attB 64 1 [o8]), cel ba 52 [.int .i64 o8.toNat, .slice pA path.length pc, .int .u32 nx, .int .i64 med, .int .i64 pref, .slice cA comms.length cc]]) (fun x => path.length - x.1) rfl (0, (none, 0)) (Nat.zero_le _) ⟨rfl, rfl, rfl, rfl, rfl, trivial⟩ rfl ?_
 intro ⟨j, ⟨xA, xc⟩⟩ hj
 dsimp only [pt] at hj ⊢
 have hjl := pathB_le (szF four) path j
 rcases Nat.lt_or_ge j path.length with hlt | hge
 ·obtain ⟨s, hs0⟩ : ∃ s, path[j]? = some s := ⟨path[j], List.getElem?_eq_getElem hlt⟩
  have hsm := List.mem_of_getElem? hs0
  obtain ⟨h64, hfs⟩ := hsl s hsm
  have e1 : path.take (j + 1) = path.take j ++ [s] := by rw [List.take_add_one, hs0]; rfl
  obtain ⟨set, sA, sc, ns⟩ := s
  dsimp only at h64 hfs
  cases set
  ·have ekk : pathB (szF four) (spl (path.take (j + 1))) = pathB (szF four) (spl (path.take j)) ++ 2 :: UInt8.ofNat ns.length :: nb (szF four) ns := by rw [e1, pathB_snoc]; rfl
   repeat' (first | refine SW ?_ | refine SD ?_ | (with_reducible refine HO_u8n ?_) | exact HO_seg rfl rfl | refine S1 ?_ | (refine S2 ?_; intro _) | (refine S3 ?_; intro _ _) | (refine S4 ?_; intro _ _ _) | (refine HO_g 2 rfl ?_; first | apply HO_a1 rfl | apply HO_o1 rfl) | refine S5 ?_ | (intro hb; try replace hb := simB hb; try exact kill hb))
   rename_i bs b2 A2 c2
   obtain ⟨P2, hP2⟩ : ∃ P2, P2 = pathB (szF four) (spl (path.take j)) ++ [2, UInt8.ofNat ns.length] := ⟨_, rfl⟩
   have hP2l : P2.length = (pathB (szF four) (spl (path.take j))).length + 2 := by rw [hP2, List.length_append]; rfl
   have eM : List.map bE (pathB (szF four) (spl (path.take j))) ++ [[Value.int .u8 2], [Value.int .u8 ((UInt8.ofNat ns.length).toNat : Int)]] = List.map bE P2 := by rw [hP2, List.map_append]; rfl
   rw [eM, ← hP2l]
   refine HC_see (enc := iE) (sz := 1) (A := sA) (xs := ns) List.mem_cons_self (seg_mem hsm) ?_
   have e0 : P2 = P2 ++ nb (szF four) (ns.take 0) := by simp [nb]
   refine HC_keeps (rw' := [ownB (A2, c2) P2, ownB (x1, c1) (attB 64 1 [o8]), cel ba 52 [.int .i64 o8.toNat, .slice pA path.length pc, .int .u32 nx, .int .i64 med, .int .i64 pref, .slice cA comms.length cc], cel bs 146 [.bool false, .slice sA ns.length sc]]) permA ?_
   refine HC_loop (α := Nat × OA) (fun x => x.1 ≤ ns.length) (fun x => [(10, .int .i64 x.1), (8, pt bs), (7, .int .i64 j), (6, .slice x.2.1 (P2 ++ nb (szF four) (ns.take x.1)).length x.2.2), (5, .slice x1 (attB 64 1 [o8]).length c1), (2, pt ba), (1, .bool four)])
    (fun x => [ownB x.2 (P2 ++ nb (szF four) (ns.take x.1)), ownB (x1, c1) (attB 64 1 [o8]), cel ba 52 [.int .i64 o8.toNat, .slice pA path.length pc, .int .u32 nx, .int .i64 med, .int .i64 pref, .slice cA comms.length cc], cel bs 146 [.bool false, .slice sA ns.length sc]]) (fun x => ns.length - x.1) rfl (0, (A2, c2)) (Nat.zero_le _) ⟨rfl, rfl, rfl, by rw [← e0]; rfl, rfl, rfl, rfl, trivial⟩ (by rw [← e0]) ?_
   intro ⟨k, ⟨yA, yc⟩⟩ hk
   dsimp only [pt] at hk ⊢
   have hnl := nb_length (szF four) (ns.take k)
   have htk : (ns.take k).length ≤ 64 := by simp; omega
   have hmul : (ns.take k).length * szF four ≤ 64 * 4 := Nat.mul_le_mul htk hz.2
   rcases Nat.lt_or_ge k ns.length with hklt | hkge
   ·obtain ⟨m, hm0⟩ : ∃ m, ns[k]? = some m := ⟨ns[k], List.getElem?_eq_getElem hklt⟩
    obtain ⟨q, rfl, hq⟩ := fitsB_nat (hfs m (List.mem_of_getElem? hm0))
    have hq9 : q ≤ 9223372036854775807 := by
     have := Nat.pow_le_pow_right (show 0 < 256 by decide) hz.2
     omega
    have e2 : ns.take (k + 1) = ns.take k ++ [(q : Int)] := by rw [List.take_add_one, hm0]; rfl
    have hbe2 := be_length (szF four) q
    have eL : (P2 ++ nb (szF four) (ns.take k)).length + szF four = (P2 ++ nb (szF four) (ns.take (k + 1))).length := by rw [e2, nb_snoc, Int.toNat_natCast]; simp only [List.length_append, hbe2]; omega
    have eN : List.map bE (P2 ++ nb (szF four) (ns.take k)) ++ List.map bE (be (szF four) q) = List.map bE (P2 ++ nb (szF four) (ns.take (k + 1))) := by rw [e2, nb_snoc, Int.toNat_natCast, ← List.append_assoc, List.map_append (l₁ := P2 ++ _)]
    repeat' (first | refine SW ?_ | refine SD ?_ | (refine HO_k 12 rfl ?_; refine HO_callq rfl rfl rfl rfl (rsize_t four) (fun _ _ => rfl) (trivial) rfl rfl sqA ?_) | (refine HO_k 12 rfl ?_; refine HO_call rfl rfl rfl rfl (rput_t (szF four) q hz.2 hq9) rfl (trivial) rfl rfl soA ?_; intro ⟨zA, zc⟩ hz1; dsimp only [lca, lna]) | exact HO_seg rfl rfl | refine S1 ?_ | (refine S2 ?_; intro _) | (refine S3 ?_; intro _ _) | (refine S4 ?_; intro _ _ _) | (refine HO_g 2 rfl ?_; first | apply HO_a1 rfl | apply HO_o1 rfl) | refine S5 ?_ | (intro hb; try replace hb := simB hb; try exact kill hb))
    rename_i A' c'
    rw [eL, eN]
    refine HX_keeps (rw' := [ownB (A', c') (P2 ++ nb (szF four) (ns.take (k + 1))), ownB (x1, c1) (attB 64 1 [o8]), cel ba 52 [.int .i64 o8.toNat, .slice pA path.length pc, .int .u32 nx, .int .i64 med, .int .i64 pref, .slice cA comms.length cc], cel bs 146 [.bool false, .slice sA ns.length sc]]) permA ?_
    exact HX_at (k + 1, (A', c')) ⟨hklt, by simp only; omega⟩ ⟨rfl, rfl, rfl, rfl, rfl, rfl, rfl, trivial⟩ rfl
   ·obtain rfl : k = ns.length := by omega
    have e3 : P2 ++ nb (szF four) (ns.take ns.length) = pathB (szF four) (spl (path.take (j + 1))) := by rw [List.take_length, ekk, hP2]; simp
    rw [e3]
    repeat' (first | refine SW ?_ | refine SD ?_ | exact HO_seg rfl rfl | refine S1 ?_ | (refine S2 ?_; intro _) | (refine S3 ?_; intro _ _) | (refine S4 ?_; intro _ _ _) | (refine HO_g 2 rfl ?_; first | apply HO_a1 rfl | apply HO_o1 rfl) | refine S5 ?_ | (intro hb; try replace hb := simB hb; try exact kill hb))
    refine HX_unsee ?_
    refine HX_keeps (rw' := [ownB (yA, yc) (pathB (szF four) (spl (path.take (j + 1)))), ownB (x1, c1) (attB 64 1 [o8]), cel ba 52 [.int .i64 o8.toNat, .slice pA path.length pc, .int .u32 nx, .int .i64 med, .int .i64 pref, .slice cA comms.length cc]]) permA ?_
    exact HX_at (j + 1, (yA, yc)) ⟨hlt, by simp only; omega⟩ ⟨rfl, rfl, rfl, rfl, rfl, trivial⟩ rfl
  ·have ekk : pathB (szF four) (spl (path.take (j + 1))) = pathB (szF four) (spl (path.take j)) ++ 1 :: UInt8.ofNat ns.length :: nb (szF four) ns := by rw [e1, pathB_snoc]; rfl
   repeat' (first | refine SW ?_ | refine SD ?_ | (with_reducible refine HO_u8n ?_) | exact HO_seg rfl rfl | refine S1 ?_ | (refine S2 ?_; intro _) | (refine S3 ?_; intro _ _) | (refine S4 ?_; intro _ _ _) | (refine HO_g 2 rfl ?_; first | apply HO_a1 rfl | apply HO_o1 rfl) | refine S5 ?_ | (intro hb; try replace hb := simB hb; try exact kill hb))
   rename_i bs b2 A2 c2
   obtain ⟨P2, hP2⟩ : ∃ P2, P2 = pathB (szF four) (spl (path.take j)) ++ [1, UInt8.ofNat ns.length] := ⟨_, rfl⟩
   have hP2l : P2.length = (pathB (szF four) (spl (path.take j))).length + 2 := by rw [hP2, List.length_append]; rfl
   have eM : List.map bE (pathB (szF four) (spl (path.take j))) ++ [[Value.int .u8 1], [Value.int .u8 ((UInt8.ofNat ns.length).toNat : Int)]] = List.map bE P2 := by rw [hP2, List.map_append]; rfl
   rw [eM, ← hP2l]
   refine HC_see (enc := iE) (sz := 1) (A := sA) (xs := ns) List.mem_cons_self (seg_mem hsm) ?_
   have e0 : P2 = P2 ++ nb (szF four) (ns.take 0) := by simp [nb]
   refine HC_keeps (rw' := [ownB (A2, c2) P2, ownB (x1, c1) (attB 64 1 [o8]), cel ba 52 [.int .i64 o8.toNat, .slice pA path.length pc, .int .u32 nx, .int .i64 med, .int .i64 pref, .slice cA comms.length cc], cel bs 146 [.bool true, .slice sA ns.length sc]]) permA ?_
   refine HC_loop (α := Nat × OA) (fun x => x.1 ≤ ns.length) (fun x => [(10, .int .i64 x.1), (8, pt bs), (7, .int .i64 j), (6, .slice x.2.1 (P2 ++ nb (szF four) (ns.take x.1)).length x.2.2), (5, .slice x1 (attB 64 1 [o8]).length c1), (2, pt ba), (1, .bool four)])
    (fun x => [ownB x.2 (P2 ++ nb (szF four) (ns.take x.1)), ownB (x1, c1) (attB 64 1 [o8]), cel ba 52 [.int .i64 o8.toNat, .slice pA path.length pc, .int .u32 nx, .int .i64 med, .int .i64 pref, .slice cA comms.length cc], cel bs 146 [.bool true, .slice sA ns.length sc]]) (fun x => ns.length - x.1) rfl (0, (A2, c2)) (Nat.zero_le _) ⟨rfl, rfl, rfl, by rw [← e0]; rfl, rfl, rfl, rfl, trivial⟩ (by rw [← e0]) ?_
   intro ⟨k, ⟨yA, yc⟩⟩ hk
   dsimp only [pt] at hk ⊢
   have hnl := nb_length (szF four) (ns.take k)
   have htk : (ns.take k).length ≤ 64 := by simp; omega
   have hmul : (ns.take k).length * szF four ≤ 64 * 4 := Nat.mul_le_mul htk hz.2
   rcases Nat.lt_or_ge k ns.length with hklt | hkge
   ·obtain ⟨m, hm0⟩ : ∃ m, ns[k]? = some m := ⟨ns[k], List.getElem?_eq_getElem hklt⟩
    obtain ⟨q, rfl, hq⟩ := fitsB_nat (hfs m (List.mem_of_getElem? hm0))
    have hq9 : q ≤ 9223372036854775807 := by
     have := Nat.pow_le_pow_right (show 0 < 256 by decide) hz.2
     omega
    have e2 : ns.take (k + 1) = ns.take k ++ [(q : Int)] := by rw [List.take_add_one, hm0]; rfl
    have hbe2 := be_length (szF four) q
    have eL : (P2 ++ nb (szF four) (ns.take k)).length + szF four = (P2 ++ nb (szF four) (ns.take (k + 1))).length := by rw [e2, nb_snoc, Int.toNat_natCast]; simp only [List.length_append, hbe2]; omega
    have eN : List.map bE (P2 ++ nb (szF four) (ns.take k)) ++ List.map bE (be (szF four) q) = List.map bE (P2 ++ nb (szF four) (ns.take (k + 1))) := by rw [e2, nb_snoc, Int.toNat_natCast, ← List.append_assoc, List.map_append (l₁ := P2 ++ _)]
    repeat' (first | refine SW ?_ | refine SD ?_ | (refine HO_k 12 rfl ?_; refine HO_callq rfl rfl rfl rfl (rsize_t four) (fun _ _ => rfl) (trivial) rfl rfl sqA ?_) | (refine HO_k 12 rfl ?_; refine HO_call rfl rfl rfl rfl (rput_t (szF four) q hz.2 hq9) rfl (trivial) rfl rfl soA ?_; intro ⟨zA, zc⟩ hz1; dsimp only [lca, lna]) | exact HO_seg rfl rfl | refine S1 ?_ | (refine S2 ?_; intro _) | (refine S3 ?_; intro _ _) | (refine S4 ?_; intro _ _ _) | (refine HO_g 2 rfl ?_; first | apply HO_a1 rfl | apply HO_o1 rfl) | refine S5 ?_ | (intro hb; try replace hb := simB hb; try exact kill hb))
    rename_i A' c'
    rw [eL, eN]
    refine HX_keeps (rw' := [ownB (A', c') (P2 ++ nb (szF four) (ns.take (k + 1))), ownB (x1, c1) (attB 64 1 [o8]), cel ba 52 [.int .i64 o8.toNat, .slice pA path.length pc, .int .u32 nx, .int .i64 med, .int .i64 pref, .slice cA comms.length cc], cel bs 146 [.bool true, .slice sA ns.length sc]]) permA ?_
    exact HX_at (k + 1, (A', c')) ⟨hklt, by simp only; omega⟩ ⟨rfl, rfl, rfl, rfl, rfl, rfl, rfl, trivial⟩ rfl
   ·obtain rfl : k = ns.length := by omega
    have e3 : P2 ++ nb (szF four) (ns.take ns.length) = pathB (szF four) (spl (path.take (j + 1))) := by rw [List.take_length, ekk, hP2]; simp
    rw [e3]
    repeat' (first | refine SW ?_ | refine SD ?_ | exact HO_seg rfl rfl | refine S1 ?_ | (refine S2 ?_; intro _) | (refine S3 ?_; intro _ _) | (refine S4 ?_; intro _ _ _) | (refine HO_g 2 rfl ?_; first | apply HO_a1 rfl | apply HO_o1 rfl) | refine S5 ?_ | (intro hb; try replace hb := simB hb; try exact kill hb))
    refine HX_unsee ?_
    refine HX_keeps (rw' := [ownB (yA, yc) (pathB (szF four) (spl (path.take (j + 1)))), ownB (x1, c1) (attB 64 1 [o8]), cel ba 52 [.int .i64 o8.toNat, .slice pA path.length pc, .int .u32 nx, .int .i64 med, .int .i64 pref, .slice cA comms.length cc]]) permA ?_
    exact HX_at (j + 1, (yA, yc)) ⟨hlt, by simp only; omega⟩ ⟨rfl, rfl, rfl, rfl, rfl, trivial⟩ rfl
 obtain rfl : j = path.length := by omega
 rw [List.take_length]
 repeat' (first | refine SW ?_ | refine SD ?_ | (refine HO_k 12 rfl ?_; refine HO_call rfl rfl rfl rfl (one_t 64 2 (by decide) xA xc (pathB (szF four) (spl path)) (by omega)) rfl (srcsA) rfl rfl soA ?_; intro ⟨y2, d2⟩ h2; dsimp only [lca, lna]) | (refine HO_k 12 rfl ?_; refine HO_call rfl rfl rfl rfl (rput_t 4 nx (by decide) (by omega)) rfl (trivial) rfl rfl soA ?_; intro ⟨zA, zc⟩ hz1; dsimp only [lca, lna]) | (refine HO_k 12 rfl ?_; refine HO_call rfl rfl rfl rfl (one_t 64 3 (by decide) zA zc (be 4 nx) (by omega)) rfl (srcsA) rfl rfl soA ?_; intro ⟨y3, d3⟩ h3; dsimp only [lca, lna]) | exact HO_seg rfl rfl | refine S1 ?_ | (refine S2 ?_; intro _) | (refine S3 ?_; intro _ _) | (refine S4 ?_; intro _ _ _) | (refine HO_g 2 rfl ?_; first | apply HO_a1 rfl | apply HO_o1 rfl) | refine S5 ?_ | (intro hb; try replace hb := simB hb; try exact kill hb))
 rename_i A3 c3
 obtain ⟨l3, hl3⟩ : ∃ l, l = attB 64 1 [o8] ++ attB 64 2 (pathB (szF four) (spl path)) ++ attB 64 3 (be 4 nx) := ⟨_, rfl⟩
 have hb3' : l3.length ≤ 3000 := by rw [hl3, List.length_append, List.length_append]; omega
 have eL : (attB 64 1 [o8]).length + (attB 64 2 (pathB (szF four) (spl path))).length + (attB 64 3 (be 4 nx)).length = l3.length := by rw [hl3, List.length_append, List.length_append]
 have eM : List.map bE (attB 64 1 [o8]) ++ List.map bE (attB 64 2 (pathB (szF four) (spl path))) ++ List.map bE (attB 64 3 (be 4 nx)) = List.map bE l3 := by rw [hl3, List.map_append, List.map_append]
 rw [eL, eM]
 refine HC_cutP (α := OA) (fun _ => True) (fun x => [(5, .slice x.1 (l3 ++ medB med).length x.2), (2, pt ba)]) (fun x => [ownB x (l3 ++ medB med), cel ba 52 [.int .i64 o8.toNat, .slice pA path.length pc, .int .u32 nx, .int .i64 med, .int .i64 pref, .slice cA comms.length cc]]) ?_ ?_
 ·refine HC_cond rfl rfl (fun hb => ?_) (fun hb => ?_)
  ·replace hb := simB hb
   obtain ⟨mn, hmn⟩ : ∃ n : Nat, med = n := ⟨med.toNat, by omega⟩
   have hv : Value.int .i64 med = Value.int .i64 mn := by rw [hmn]
   have e : medB med = attB 128 4 (be 4 mn) := by unfold medB; rw [if_pos hb, hmn, Int.toNat_natCast]
   have hba := attB_len 128 4 (be 4 mn)
   rw [be_length] at hba
   repeat' (first | refine SW ?_ | refine SD ?_ | (with_reducible refine HO_rw hv ?_) | (refine HO_k 12 rfl ?_; refine HO_call rfl rfl rfl rfl (rput_t 4 mn (by decide) (by omega)) rfl (trivial) rfl rfl soA ?_; intro ⟨zA, zc⟩ hz1; dsimp only [lca, lna]) | (refine HO_k 12 rfl ?_; refine HO_call rfl rfl rfl rfl (one_t 128 4 (by decide) zA zc (be 4 mn) (by rw [be_length]; decide)) rfl (srcsA) rfl rfl soA ?_; intro ⟨yA, yc⟩ hy1; dsimp only [lca, lna]) | exact HO_seg rfl rfl | refine S1 ?_ | (refine S2 ?_; intro _) | (refine S3 ?_; intro _ _) | (refine S4 ?_; intro _ _ _) | (refine HO_g 2 rfl ?_; first | apply HO_a1 rfl | apply HO_o1 rfl) | refine S5 ?_ | (intro hb; try replace hb := simB hb; try exact kill hb))
   rename_i A9 c9
   have eL : l3.length + (attB 128 4 (be 4 mn)).length = (l3 ++ medB med).length := by rw [e, List.length_append]
   have eM : List.map bE l3 ++ List.map bE (attB 128 4 (be 4 mn)) = List.map bE (l3 ++ medB med) := by rw [e, List.map_append]
   rw [eL, eM]
   refine HX_keeps (rw' := [ownB (A9, c9) (l3 ++ medB med), cel ba 52 [.int .i64 o8.toNat, .slice pA path.length pc, .int .u32 nx, .int .i64 med, .int .i64 pref, .slice cA comms.length cc]]) permA ?_
   exact HX_at (A9, c9) trivial ⟨rfl, rfl, trivial⟩ rfl
  ·replace hb := simB hb
   have e : l3 ++ medB med = l3 := by unfold medB; rw [if_neg (by omega), List.append_nil]
   repeat' (first | refine SW ?_ | exact HO_seg rfl rfl | refine S1 ?_ | (refine S2 ?_; intro _) | (refine S3 ?_; intro _ _) | (refine S4 ?_; intro _ _ _) | (refine HO_g 2 rfl ?_; first | apply HO_a1 rfl | apply HO_o1 rfl) | refine S5 ?_ | (intro hb; try replace hb := simB hb; try exact kill hb))
   rw [e]
   refine HX_keeps (rw' := [ownB (_, _) l3, cel ba 52 [.int .i64 o8.toNat, .slice pA path.length pc, .int .u32 nx, .int .i64 med, .int .i64 pref, .slice cA comms.length cc]]) permA ?_
   exact HX_at (_, _) trivial ⟨rfl, rfl, trivial⟩ rfl
 intro ⟨wA, wc⟩ _
 obtain ⟨l4, hl4⟩ : ∃ l, l = l3 ++ medB med := ⟨_, rfl⟩
 have hbl4 : l4.length ≤ l3.length + 8 := by
  rw [hl4, List.length_append]
  unfold medB
  have := attB_len 128 4 (be 4 med.toNat)
  rw [be_length] at this
  split
  ·omega
  ·simp
 rw [← hl4]
 dsimp only
 repeat' (first | refine SW ?_ | exact HO_seg rfl rfl | refine S1 ?_ | (refine S2 ?_; intro _) | (refine S3 ?_; intro _ _) | (refine S4 ?_; intro _ _ _) | (refine HO_g 2 rfl ?_; first | apply HO_a1 rfl | apply HO_o1 rfl) | refine S5 ?_ | (intro hb; try replace hb := simB hb; try exact kill hb))
 refine HC_cutP (α := OA) (fun _ => True) (fun x => [(5, .slice x.1 (l4 ++ prefB pref).length x.2), (2, pt ba)]) (fun x => [ownB x (l4 ++ prefB pref), cel ba 52 [.int .i64 o8.toNat, .slice pA path.length pc, .int .u32 nx, .int .i64 med, .int .i64 pref, .slice cA comms.length cc]]) ?_ ?_
 ·refine HC_cond rfl rfl (fun hb => ?_) (fun hb => ?_)
  ·replace hb := simB hb
   obtain ⟨mn, hmn⟩ : ∃ n : Nat, pref = n := ⟨pref.toNat, by omega⟩
   have hv : Value.int .i64 pref = Value.int .i64 mn := by rw [hmn]
   have e : prefB pref = attB 64 5 (be 4 mn) := by unfold prefB; rw [if_pos hb, hmn, Int.toNat_natCast]
   have hba := attB_len 64 5 (be 4 mn)
   rw [be_length] at hba
   repeat' (first | refine SW ?_ | refine SD ?_ | (with_reducible refine HO_rw hv ?_) | (refine HO_k 12 rfl ?_; refine HO_call rfl rfl rfl rfl (rput_t 4 mn (by decide) (by omega)) rfl (trivial) rfl rfl soA ?_; intro ⟨zA, zc⟩ hz1; dsimp only [lca, lna]) | (refine HO_k 12 rfl ?_; refine HO_call rfl rfl rfl rfl (one_t 64 5 (by decide) zA zc (be 4 mn) (by rw [be_length]; decide)) rfl (srcsA) rfl rfl soA ?_; intro ⟨yA, yc⟩ hy1; dsimp only [lca, lna]) | exact HO_seg rfl rfl | refine S1 ?_ | (refine S2 ?_; intro _) | (refine S3 ?_; intro _ _) | (refine S4 ?_; intro _ _ _) | (refine HO_g 2 rfl ?_; first | apply HO_a1 rfl | apply HO_o1 rfl) | refine S5 ?_ | (intro hb; try replace hb := simB hb; try exact kill hb))
   rename_i A9 c9
   have eL : l4.length + (attB 64 5 (be 4 mn)).length = (l4 ++ prefB pref).length := by rw [e, List.length_append]
   have eM : List.map bE l4 ++ List.map bE (attB 64 5 (be 4 mn)) = List.map bE (l4 ++ prefB pref) := by rw [e, List.map_append]
   rw [eL, eM]
   refine HX_keeps (rw' := [ownB (A9, c9) (l4 ++ prefB pref), cel ba 52 [.int .i64 o8.toNat, .slice pA path.length pc, .int .u32 nx, .int .i64 med, .int .i64 pref, .slice cA comms.length cc]]) permA ?_
   exact HX_at (A9, c9) trivial ⟨rfl, rfl, trivial⟩ rfl
  ·replace hb := simB hb
   have e : l4 ++ prefB pref = l4 := by unfold prefB; rw [if_neg (by omega), List.append_nil]
   repeat' (first | refine SW ?_ | exact HO_seg rfl rfl | refine S1 ?_ | (refine S2 ?_; intro _) | (refine S3 ?_; intro _ _) | (refine S4 ?_; intro _ _ _) | (refine HO_g 2 rfl ?_; first | apply HO_a1 rfl | apply HO_o1 rfl) | refine S5 ?_ | (intro hb; try replace hb := simB hb; try exact kill hb))
   rw [e]
   refine HX_keeps (rw' := [ownB (_, _) l4, cel ba 52 [.int .i64 o8.toNat, .slice pA path.length pc, .int .u32 nx, .int .i64 med, .int .i64 pref, .slice cA comms.length cc]]) permA ?_
   exact HX_at (_, _) trivial ⟨rfl, rfl, trivial⟩ rfl
 intro ⟨wA, wc⟩ _
 obtain ⟨l5, hl5⟩ : ∃ l, l = l4 ++ prefB pref := ⟨_, rfl⟩
 have hbl5 : l5.length ≤ l4.length + 8 := by
  rw [hl5, List.length_append]
  unfold prefB
  have := attB_len 64 5 (be 4 pref.toNat)
  rw [be_length] at this
  split
  ·omega
  ·simp
 rw [← hl5]
 dsimp only
 repeat' (first | refine SW ?_ | exact HO_seg rfl rfl | refine S1 ?_ | (refine S2 ?_; intro _) | (refine S3 ?_; intro _ _) | (refine S4 ?_; intro _ _ _) | (refine HO_g 2 rfl ?_; first | apply HO_a1 rfl | apply HO_o1 rfl) | refine S5 ?_ | (intro hb; try replace hb := simB hb; try exact kill hb))
 refine HC_add (e := ownB (none, 0) []) (fun w => own_nil w) ?_
 refine HC_loop (α := Nat × OA) (fun x => x.1 ≤ comms.length) (fun x => [(12, .int .i64 x.1), (11, .slice x.2.1 (nb 4 (comms.take x.1)).length x.2.2), (5, .slice wA l5.length wc), (2, pt ba)])
  (fun x => [ownB x.2 (nb 4 (comms.take x.1)), ownB (wA, wc) l5, cel ba 52 [.int .i64 o8.toNat, .slice pA path.length pc, .int .u32 nx, .int .i64 med, .int .i64 pref, .slice cA comms.length cc]]) (fun x => comms.length - x.1) rfl (0, (none, 0)) (Nat.zero_le _) ⟨rfl, rfl, rfl, rfl, trivial⟩ rfl ?_
 intro ⟨j, ⟨vA, vc⟩⟩ hj
 dsimp only [pt] at hj ⊢
 have hnl := nb_length 4 (comms.take j)
 have htk : (comms.take j).length ≤ 32 := by simp; omega
 rcases Nat.lt_or_ge j comms.length with hlt | hge
 ·obtain ⟨m, hm0⟩ : ∃ m, comms[j]? = some m := ⟨comms[j], List.getElem?_eq_getElem hlt⟩
  obtain ⟨q, rfl, hq⟩ := fitsB_nat (hok.cs m (List.mem_of_getElem? hm0))
  have e2 : comms.take (j + 1) = comms.take j ++ [(q : Int)] := by rw [List.take_add_one, hm0]; rfl
  have hbe2 := be_length 4 q
  have eL : (nb 4 (comms.take j)).length + 4 = (nb 4 (comms.take (j + 1))).length := by rw [e2, nb_snoc, Int.toNat_natCast]; simp only [List.length_append, hbe2]
  have eN : List.map bE (nb 4 (comms.take j)) ++ List.map bE (be 4 q) = List.map bE (nb 4 (comms.take (j + 1))) := by rw [e2, nb_snoc, Int.toNat_natCast, List.map_append]
  repeat' (first | refine SW ?_ | refine SD ?_ | (refine HO_k 12 rfl ?_; refine HO_call rfl rfl rfl rfl (rput_t 4 q (by decide) (by omega)) rfl (trivial) rfl rfl soA ?_; intro ⟨zA, zc⟩ hz1; dsimp only [lca, lna]) | exact HO_seg rfl rfl | refine S1 ?_ | (refine S2 ?_; intro _) | (refine S3 ?_; intro _ _) | (refine S4 ?_; intro _ _ _) | (refine HO_g 2 rfl ?_; first | apply HO_a1 rfl | apply HO_o1 rfl) | refine S5 ?_ | (intro hb; try replace hb := simB hb; try exact kill hb))
  rename_i A' c'
  rw [eL, eN]
  refine HX_keeps (rw' := [ownB (A', c') (nb 4 (comms.take (j + 1))), ownB (wA, wc) l5, cel ba 52 [.int .i64 o8.toNat, .slice pA path.length pc, .int .u32 nx, .int .i64 med, .int .i64 pref, .slice cA comms.length cc]]) permA ?_
  exact HX_at (j + 1, (A', c')) ⟨hlt, by simp only; omega⟩ ⟨rfl, rfl, rfl, rfl, trivial⟩ rfl
 obtain rfl : j = comms.length := by omega
 rw [List.take_length]
 have hnc := nb_length 4 comms
 have hfin : putB (szF four) ⟨o8.toNat, spl path, nx, med, pref, comms⟩ = l5 ++ commB comms := by
  have e1 : UInt8.ofNat (Int.toNat (o8.toNat : Int)) = o8 := by simp
  have e2 : Int.toNat (nx : Int) = nx := by simp
  unfold putB
  rw [hl5, hl4, hl3, e1, e2]
 rw [hfin]
 by_cases h0 : 0 < comms.length
 ·have hba := attB_len 192 8 (nb 4 comms)
  have e : commB comms = attB 192 8 (nb 4 comms) := by unfold commB; rw [if_pos h0]
  rw [e]
  repeat' (first | refine SW ?_ | refine SD ?_ | (refine HO_k 12 rfl ?_; refine HO_call rfl rfl rfl rfl (one_t 192 8 (by decide) vA vc (nb 4 comms) (by omega)) rfl (srcsA) rfl rfl soA ?_; intro ⟨yA, yc⟩ hy1; dsimp only [lca, lna]) | exact HO_seg rfl rfl | refine S1 ?_ | (refine S2 ?_; intro _) | (refine S3 ?_; intro _ _) | (refine S4 ?_; intro _ _ _) | (refine HO_g 2 rfl ?_; first | apply HO_a1 rfl | apply HO_o1 rfl) | refine S5 ?_ | (intro hb; try replace hb := simB hb; try exact kill hb))
  rename_i A9 c9
  rw [show l5.length + (attB 192 8 (nb 4 comms)).length = (l5 ++ attB 192 8 (nb 4 comms)).length by rw [List.length_append], show List.map bE l5 ++ List.map bE (attB 192 8 (nb 4 comms)) = List.map bE (l5 ++ attB 192 8 (nb 4 comms)) by rw [List.map_append]]
  (refine SR ?_; unfold RetQ; refine ⟨(A9, c9), trivial, rfl, permA⟩)
 ·have e : commB comms = [] := by unfold commB; rw [if_neg h0]
  rw [e, List.append_nil]
  repeat' (first | refine SW ?_ | refine SD ?_ | exact HO_seg rfl rfl | refine S1 ?_ | (refine S2 ?_; intro _) | (refine S3 ?_; intro _ _) | (refine S4 ?_; intro _ _ _) | (refine HO_g 2 rfl ?_; first | apply HO_a1 rfl | apply HO_o1 rfl) | refine S5 ?_ | (intro hb; try replace hb := simB hb; try exact kill hb))
  (refine SR ?_; unfold RetQ; refine ⟨(wA, wc), trivial, rfl, permA⟩)
@[reducible] def nlV (i : Int) (a : Nat) (n : Int) : Value := .agg #[.int .i64 i, .int .u32 a, .int .i64 n]
def oneN (paths : Bool) (i : Int) (a : Nat) (n : Int) : Bool := decide (0 ≤ i) && decide (i ≤ 4294967295) && (paths || decide (i = 0)) && okX a n
structure Nl where
 i : Int
 a : Nat
 n : Int
def Nl.e (x : Nl) : List Value := [.int .i64 x.i, .int .u32 x.a, .int .i64 x.n]
instance : EncOk Nl.e 3 := ⟨fun _ => ⟨rfl, rfl⟩⟩
def NlsOk (l : List Nl) : Prop := ∀ x ∈ l, x.a < 4294967296
def oneX (paths : Bool) (x : Nl) : Bool := oneN paths x.i x.a x.n
def allX (paths : Bool) (l : List Nl) : Bool := l.all (oneX paths) && decide (l.length ≤ 1024)
def idB (paths : Bool) (i : Int) : List UInt8 := if paths = true then be 4 i.toNat else []
def nlB (paths : Bool) (x : Nl) : List UInt8 := idB paths x.i ++ pfB x.a x.n.toNat
theorem one_id {paths : Bool} {i : Int} {a : Nat} {n : Int} (h : oneN paths i a n = true) : 0 ≤ i ∧ i ≤ 4294967295 ∧ okX a n = true := by
 unfold oneN at h
 simp only [Bool.and_eq_true, decide_eq_true_eq] at h
 exact ⟨h.1.1.1, h.1.1.2, h.2⟩
set_option maxHeartbeats 8000000 in
theorem rnlb_t (i a k : Nat) (ha : a < 4294967296) (hi : i ≤ 4294967295) (hk : k ≤ 32) (paths : Bool) : Tri Tryz.prog 267 [nlV i a k, .bool paths] [] [] (fun _ : OA => True) (fun x => .slice x.1 (nlB paths ⟨i, a, k⟩).length x.2) (fun x => [ownB x (nlB paths ⟨i, a, k⟩)]) := by
 have hp := rput_t 4 i (by decide) (by omega)
 have hb := rpput_t a ha k hk
 dsimp only [pfV] at hb
 have hbl : (pfB a k).length ≤ 5 := by unfold pfB; simp [be_length]; omega
 have hb4 := be_length 4 i
 cases paths
 ·refine Tri_of (N := Tryz.f267.ntmps) (c := bodyOf Tryz.f267) Tryz.func267 rfl rfl rfl rfl (fun w0 S0 => ?_)
  dsimp only [nlV]
  repeat' (first | refine SW ?_ | refine SD ?_ | (refine HO_k 12 rfl ?_; refine HO_call rfl rfl rfl rfl (hb) rfl (trivial) rfl rfl soA ?_; intro ⟨x1, c1⟩ h1; dsimp only [lca, lna]) | exact HO_seg rfl rfl | refine S1 ?_ | (refine S2 ?_; intro _) | (refine S3 ?_; intro _ _) | (refine S4 ?_; intro _ _ _) | (refine HO_g 2 rfl ?_; first | apply HO_a1 rfl | apply HO_o1 rfl) | refine S5 ?_ | (intro hb; try replace hb := simB hb; try exact kill hb))
  rename_i b2 A' c'
  have eL : 0 + (pfB a k).length = (nlB false ⟨i, a, k⟩).length := by rw [Nat.zero_add]; rfl
  have eM : [] ++ List.map bE (pfB a k) = List.map bE (nlB false ⟨i, a, k⟩) := rfl
  rw [eL, eM]
  (refine SR ?_; unfold RetQ; refine ⟨(A', c'), trivial, rfl, Keeps.cons Ent.rfl_ Keeps.nil⟩)
 ·refine Tri_of (N := Tryz.f267.ntmps) (c := bodyOf Tryz.f267) Tryz.func267 rfl rfl rfl rfl (fun w0 S0 => ?_)
  dsimp only [nlV]
  repeat' (first | refine SW ?_ | refine SD ?_ | (refine HO_k 12 rfl ?_; refine HO_call rfl rfl rfl rfl (hp) rfl (trivial) rfl rfl soA ?_; intro ⟨y1, d1⟩ h1; dsimp only [lca, lna]) | (refine HO_k 12 rfl ?_; refine HO_call rfl rfl rfl rfl (hb) rfl (trivial) rfl rfl soA ?_; intro ⟨x1, c1⟩ h1; dsimp only [lca, lna]) | exact HO_seg rfl rfl | refine S1 ?_ | (refine S2 ?_; intro _) | (refine S3 ?_; intro _ _) | (refine S4 ?_; intro _ _ _) | (refine HO_g 2 rfl ?_; first | apply HO_a1 rfl | apply HO_o1 rfl) | refine S5 ?_ | (intro hb; try replace hb := simB hb; try exact kill hb))
  rename_i b2 A' c'
  have eL : 4 + (pfB a k).length = (nlB true ⟨i, a, k⟩).length := by
   show _ = (be 4 i ++ pfB a k).length
   rw [List.length_append, hb4]
  have eM : List.map bE (be 4 i) ++ List.map bE (pfB a k) = List.map bE (nlB true ⟨i, a, k⟩) := List.map_append.symm
  rw [eL, eM]
  (refine SR ?_; unfold RetQ; refine ⟨(A', c'), trivial, rfl, Keeps.cons Ent.rfl_ Keeps.nil⟩)
def nlsB (paths : Bool) (l : List Nl) : List UInt8 := l.flatMap (nlB paths)
theorem nlB_le (paths : Bool) (x : Nl) : (nlB paths x).length ≤ 9 := by
 unfold nlB idB pfB
 cases paths <;> simp [be_length] <;> omega
theorem nlsB_le (paths : Bool) (l : List Nl) : (nlsB paths l).length ≤ 9 * l.length := by
 induction l with
 | nil => simp [nlsB]
 | cons x l ih =>
  have h := nlB_le paths x
  have e : nlsB paths (x :: l) = nlB paths x ++ nlsB paths l := rfl
  rw [e, List.length_append, List.length_cons]
  omega
theorem nlsB_snoc (paths : Bool) (l : List Nl) (x : Nl) : nlsB paths (l ++ [x]) = nlsB paths l ++ nlB paths x := by simp [nlsB]
theorem one_nat {paths : Bool} {x : Nl} (h : oneX paths x = true) : ∃ i k : Nat, x = ⟨i, x.a, k⟩ ∧ i ≤ 4294967295 ∧ k ≤ 32 ∧ okX x.a k = true := by
 obtain ⟨h1, h2, h3⟩ := one_id h
 have h4 := okX_len h3
 have e1 : ((x.i.toNat : Nat) : Int) = x.i := by omega
 have e2 : ((x.n.toNat : Nat) : Int) = x.n := by omega
 exact ⟨x.i.toNat, x.n.toNat, by rw [e1, e2], by omega, by omega, by rw [e2]; exact h3⟩
set_option maxHeartbeats 8000000 in
theorem rnlsput_t (A : Option Addr) (c : Nat) (l : List Nl) (hl : NlsOk l) (paths : Bool) (hall : ∀ x ∈ l, oneX paths x = true) (h1 : l.length ≤ 1024) :
  Tri Tryz.prog 241 [.slice A l.length c, .bool paths] [arr Nl.e 3 A l] [] (fun _ : OA => True) (fun x => .slice x.1 (nlsB paths l).length x.2) (fun x => [ownB x (nlsB paths l)]) := by
 refine Tri_of (N := Tryz.f241.ntmps) (c := bodyOf Tryz.f241) Tryz.func241 rfl rfl rfl rfl (fun w0 S0 => ?_)
 repeat' (first | refine SW ?_ | exact HO_seg rfl rfl | refine S1 ?_ | (refine S2 ?_; intro _) | (refine S3 ?_; intro _ _) | (refine S4 ?_; intro _ _ _) | (refine HO_g 2 rfl ?_; first | apply HO_a1 rfl | apply HO_o1 rfl) | refine S5 ?_ | (intro hb; try replace hb := simB hb; try exact kill hb))
 refine HC_add (e := ownB (none, 0) []) (fun w => own_nil w) ?_
 refine HC_loop (α := Nat × OA) (fun x => x.1 ≤ l.length) (fun x => [(6, .int .i64 x.1), (5, .slice x.2.1 (nlsB paths (l.take x.1)).length x.2.2), (1, .bool paths), (0, .slice A l.length c)]) (fun x => [ownB x.2 (nlsB paths (l.take x.1))]) (fun x => l.length - x.1) rfl (0, (none, 0)) (Nat.zero_le _) ⟨rfl, rfl, rfl, rfl, trivial⟩ rfl ?_
 intro ⟨j, ⟨xA, xc⟩⟩ hj
 dsimp only at hj ⊢
 rcases Nat.lt_or_ge j l.length with hlt | hge
 ·obtain ⟨x, hx⟩ : ∃ x, l[j]? = some x := ⟨l[j], List.getElem?_eq_getElem hlt⟩
  have hmem := List.mem_of_getElem? hx
  have ha := hl x hmem
  obtain ⟨i, k, e, hi, hk, hok⟩ := one_nat (hall x hmem)
  have hb := rnlb_t i x.a k ha hi hk paths
  rw [← e] at hb
  have e1 : l.take (j + 1) = l.take j ++ [x] := by rw [List.take_add_one, hx]; rfl
  have hle1 := nlB_le paths x
  have hle2 := nlsB_le paths (l.take j)
  rw [List.length_take] at hle2
  have hle3 : (nlsB paths (l.take j)).length ≤ 9216 := by omega
  obtain ⟨cur, hcur⟩ : ∃ cur, nlsB paths (l.take j) = cur := ⟨_, rfl⟩
  obtain ⟨nb, hnb⟩ : ∃ nb, nlB paths x = nb := ⟨_, rfl⟩
  have e2 : nlsB paths (l.take (j + 1)) = cur ++ nb := by rw [e1, nlsB_snoc, hcur, hnb]
  rw [hcur] at hle3 ⊢
  rw [hnb] at hle1 hb
  have ei : x.i = (i : Int) := congrArg Nl.i e
  have en : x.n = (k : Int) := congrArg Nl.n e
  rw [← ei, ← en] at hb
  dsimp only [nlV] at hb
  repeat' (first | refine SW ?_ | refine SD ?_ | (refine HO_k 12 rfl ?_; refine HO_call rfl rfl rfl rfl (hb) rfl (trivial) rfl rfl soA ?_; intro ⟨y1, d1⟩ g1; dsimp only [lca, lna]) | exact HO_seg rfl rfl | refine S1 ?_ | (refine S2 ?_; intro _) | (refine S3 ?_; intro _ _) | (refine S4 ?_; intro _ _ _) | (refine HO_g 2 rfl ?_; first | apply HO_a1 rfl | apply HO_o1 rfl) | refine S5 ?_ | (intro hb; try replace hb := simB hb; try exact kill hb))
  rename_i A' c'
  rw [show cur.length + nb.length = (nlsB paths (l.take (j + 1))).length by rw [e2, List.length_append], show List.map bE cur ++ List.map bE nb = List.map bE (nlsB paths (l.take (j + 1))) by rw [e2, List.map_append]]
  refine HX_keeps (rw' := [ownB (A', c') (nlsB paths (l.take (j + 1)))]) permA ?_
  exact HX_at (j + 1, (A', c')) ⟨hlt, by simp only; omega⟩ ⟨rfl, rfl, rfl, rfl, trivial⟩ rfl
 ·obtain rfl : j = l.length := by omega
  rw [List.take_length]
  repeat' (first | refine SW ?_ | refine SD ?_ | exact HO_seg rfl rfl | refine S1 ?_ | (refine S2 ?_; intro _) | (refine S3 ?_; intro _ _) | (refine S4 ?_; intro _ _ _) | (refine HO_g 2 rfl ?_; first | apply HO_a1 rfl | apply HO_o1 rfl) | refine S5 ?_ | (intro hb; try replace hb := simB hb; try exact kill hb))
  (refine SR ?_; unfold RetQ; refine ⟨(xA, xc), trivial, rfl, Keeps.refl⟩)
def pcB (l : List UInt8) : List UInt8 := be 2 l.length ++ l
def bodyB (gone said come : List UInt8) : List UInt8 := pcB gone ++ (pcB said ++ come)
section
variable {m : Md} {P : Program} {N : Nat} {w0 : World} {S0 : Foot} {ops : List Oper} {i : Nat} {lq : List Nat} {env : Env} {ro rw : List SL} {K : Act → World → Prop} {d : Nat} {op : Op} {ty : TypeId} {pos : String} {aft : Array Edge} {g : Option (Nat × Bool)}
end
theorem putB_leU (w : Nat) (h4 : w ≤ 4) (p : PA) (h : OkP w p) : (putB w p).length ≤ 5000 := by
 have h1 := attB_len 64 1 [UInt8.ofNat p.org.toNat]
 have h2 := attB_len 64 2 (pathB w p.path)
 have h3 := attB_len 64 3 (be 4 p.nxt.toNat)
 have h2' := pathB_len w h4 p.path h.s
 have hl := h.l
 have hc := h.c
 have h5 : (medB p.med).length ≤ 8 := by
  unfold medB
  have := attB_len 128 4 (be 4 p.med.toNat)
  rw [be_length] at this
  split
  ·exact this
  ·simp
 have h6 : (prefB p.pref).length ≤ 8 := by
  unfold prefB
  have := attB_len 64 5 (be 4 p.pref.toNat)
  rw [be_length] at this
  split
  ·exact this
  ·simp
 have h7 : (commB p.comms).length ≤ 132 := by
  unfold commB
  have := attB_len 192 8 (nb 4 p.comms)
  rw [nb_length] at this
  split
  ·omega
  ·simp
 rw [be_length] at h3
 simp only [List.length_cons, List.length_nil] at h1
 unfold putB
 simp only [List.length_append]
 omega
structure UpS where
 gA : Option Addr
 gc : Nat
 gone : List Nl
 rA : Option Addr
 rc : Nat
 routes : List Nl
 a : AttS
 soft : Bool
def UpS.e (u : UpS) : List Value := [.slice u.gA u.gone.length u.gc, .slice u.rA u.routes.length u.rc, .int .i64 u.a.org, .slice u.a.pA u.a.path.length u.a.pc, .int .u32 u.a.nxt, .int .i64 u.a.med, .int .i64 u.a.pref, .slice u.a.cA u.a.comms.length u.a.cc, .bool u.soft]
@[reducible] def UpS.ro (u : UpS) : List SL := [arr Nl.e 3 u.gA u.gone, arr Nl.e 3 u.rA u.routes, inn (segPs u.a.path), arr SegS.e 2 u.a.pA u.a.path, arr iE 1 u.a.cA u.a.comms]
structure UpW (u : UpS) : Prop where
 g : NlsOk u.gone
 r : NlsOk u.routes
 n : 0 ≤ u.a.nxt ∧ u.a.nxt ≤ 4294967295
 l : Lim u.a
 gl : u.gone.length ≤ 1000000
 rl : u.routes.length ≤ 1000000
def saidOk (four : Bool) (u : UpS) : Bool := if u.routes.length = 0 then sameB u.a.pa pz else attOk four u.a
def saidB (four : Bool) (u : UpS) : List UInt8 := if u.routes.length = 0 then [] else putB (szF four) u.a.pa
def upB (four paths : Bool) (u : UpS) : List UInt8 := bodyB (nlsB paths u.gone) (saidB four u) (nlsB paths u.routes)
def saidC (four : Bool) (u : UpS) : List UInt8 := if saidOk four u = true then saidB four u else []
def nlsC (paths : Bool) (l : List Nl) : List UInt8 := if allX paths l = true then nlsB paths l else []
theorem allX_spec {paths : Bool} {l : List Nl} (h : allX paths l = true) : (∀ x ∈ l, oneX paths x = true) ∧ l.length ≤ 1024 := by
 unfold allX at h
 rw [Bool.and_eq_true, List.all_eq_true, decide_eq_true_eq] at h
 exact h
theorem nlsC_le (paths : Bool) (l : List Nl) : (nlsC paths l).length ≤ 9216 := by
 unfold nlsC
 split
 ·rename_i h
  have h1 := nlsB_le paths l
  have h2 := (allX_spec h).2
  omega
 ·simp
theorem saidC_le (four : Bool) (u : UpS) (hu : UpW u) : (saidC four u).length ≤ 5000 := by
 unfold saidC
 split
 ·rename_i h
  unfold saidB
  unfold saidOk at h
  split
  ·simp
  ·rename_i h0
   rw [if_neg h0] at h
   exact putB_leU (szF four) (szF_bd four).2 u.a.pa (okP_of hu.n (by rw [← ok_pa]; exact h))
 ·simp
theorem be2 (n : Nat) : be 2 n = [UInt8.ofNat (n / 256), UInt8.ofNat n] := by simp [be]
theorem up_parts (four paths : Bool) (u : UpS) (p2 : allX paths u.gone = true) (p3 : allX paths u.routes = true) (p4 : saidOk four u = true) : nlsC paths u.gone = nlsB paths u.gone ∧ nlsC paths u.routes = nlsB paths u.routes ∧ saidC four u = saidB four u := by
 unfold nlsC saidC
 rw [p2, p3, p4]
 exact ⟨rfl, rfl, rfl⟩
set_option maxHeartbeats 16000000 in
set_option maxRecDepth 100000 in
theorem rbody_t (u : UpS) (hu : UpW u) (four paths : Bool) (p2 : allX paths u.gone = true) (p3 : allX paths u.routes = true) (p4 : saidOk four u = true) :
  Tri Tryz.prog 205 [.agg u.e.toArray, .bool four, .bool paths] u.ro [] (fun _ : OA => True) (fun x => .slice x.1 (upB four paths u).length x.2) (fun x => [ownB x (upB four paths u)]) := by
 obtain ⟨a1, a2⟩ := allX_spec p2
 obtain ⟨b1, b2⟩ := allX_spec p3
 have h1 := rnlsput_t u.gA u.gc u.gone hu.g paths a1 a2
 have h2 := rnlsput_t u.rA u.rc u.routes hu.r paths b1 b2
 have l1 := nlsC_le paths u.gone
 have l2 := nlsC_le paths u.routes
 have l3 := saidC_le four u hu
 obtain ⟨e1, e2, e3⟩ := up_parts four paths u p2 p3 p4
 rw [e1] at l1
 rw [e2] at l2
 rw [e3] at l3
 have e : upB four paths u = pcB (nlsB paths u.gone) ++ (pcB (saidB four u) ++ nlsB paths u.routes) := rfl
 obtain ⟨g, hg⟩ : ∃ b, nlsB paths u.gone = b := ⟨_, rfl⟩
 obtain ⟨r, hr⟩ : ∃ b, nlsB paths u.routes = b := ⟨_, rfl⟩
 obtain ⟨s, hs⟩ : ∃ b, saidB four u = b := ⟨_, rfl⟩
 rw [hg, hr, hs] at e
 rw [hg] at l1 h1
 rw [hr] at l2 h2
 rw [hs] at l3
 have hq1 := rput_quo g.length (by omega)
 have hq3 := rput_quo s.length (by omega)
 obtain ⟨out, hout⟩ : ∃ out, upB four paths u = out := ⟨_, rfl⟩
 rw [hout] at e ⊢
 have hol : out.length = 2 + g.length + 2 + s.length + r.length := by
  rw [e]
  unfold pcB
  simp only [List.length_append, be_length]
  omega
 have u1 : (UInt8.ofNat (g.length / 256)).toNat = g.length / 256 := by simp; omega
 have u3 : (UInt8.ofNat (s.length / 256)).toNat = s.length / 256 := by simp; omega
 have hoe : [Value.int .u8 ((g.length / 256 : Nat) : Int)] :: [Value.int .u8 ((UInt8.ofNat g.length).toNat : Int)] :: (List.map bE g ++ ([Value.int .u8 ((s.length / 256 : Nat) : Int)] :: [Value.int .u8 ((UInt8.ofNat s.length).toNat : Int)] :: (List.map bE s ++ List.map bE r))) = List.map bE out := by
  rw [← u1, ← u3, e]
  unfold pcB
  rw [be2, be2]
  simp only [List.map_append, List.map_cons, List.map_nil, List.append_assoc]
  rfl
 by_cases h0 : u.routes.length = 0
 ·have es : s = [] := by rw [← hs]; unfold saidB; rw [if_pos h0]
  subst es
  refine Tri_of (N := Tryz.f205.ntmps) (c := bodyOf Tryz.f205) Tryz.func205 rfl rfl rfl rfl (fun w0 S0 => ?_)
  dsimp only [UpS.ro, UpS.e]
  refine HC_add (e := ownB (none, 0) []) (fun w => own_nil w) ?_
  repeat' (first | refine SW ?_ | refine SD ?_ | (with_reducible refine HO_rw (congrArg (Value.int .i64) hq1) ?_) | (with_reducible refine HO_rw (congrArg (Value.int .i64) hq3) ?_) | (with_reducible refine HO_u8n ?_) | (refine HO_k 12 rfl ?_; refine HO_call rfl rfl rfl rfl (h1) rfl (srcsA) rfl rfl soA ?_; intro ⟨x1, c1⟩ g1; dsimp only [lca, lna]) | (refine HO_k 12 rfl ?_; refine HO_call rfl rfl rfl rfl (h2) rfl (srcsA) rfl rfl soA ?_; intro ⟨x2, c2⟩ g2; dsimp only [lca, lna]) | exact HO_seg rfl rfl | refine S1 ?_ | (refine S2 ?_; intro _) | (refine S3 ?_; intro _ _) | (refine S4 ?_; intro _ _ _) | (refine HO_g 2 rfl ?_; first | apply HO_a1 rfl | apply HO_o1 rfl) | refine S5 ?_ | (intro hb; try replace hb := simB hb; try exact kill hb))
  rename_i A' c'
  (refine SR ?_; unfold RetQ; apply Exists.intro ((A', c')); refine ⟨trivial, ?_, ?_⟩; rotate_left 1; (repeat (first | exact Keeps.nil | refine Keeps.own_cons ?_ ?_ ?_ | refine Keeps.arr_cons ?_ ?_ | refine Keeps.cons Ent.rfl_ ?_ | refine Keeps.skip ?_ | refine Keeps.own_none ?_ ?_ ?_ | refine Keeps.arr_none ?_ ?_)))
  all_goals first
   | exact congrArg (fun n => Value.slice A' n c') hol.symm
   | exact hol.symm
   | (rw [← hoe]; simp)
 ·have hs4 : attOk four u.a = true := by unfold saidOk at p4; rw [if_neg h0] at p4; exact p4
  have es : putB (szF four) u.a.pa = s := by rw [← hs]; unfold saidB; rw [if_neg h0]
  have h3 := rput5_t u.a four hs4 hu.n
  rw [es] at h3
  refine Tri_of (N := Tryz.f205.ntmps) (c := bodyOf Tryz.f205) Tryz.func205 rfl rfl rfl rfl (fun w0 S0 => ?_)
  dsimp only [UpS.ro, UpS.e]
  repeat' (first | refine SW ?_ | refine SD ?_ | (with_reducible refine HO_rw (congrArg (Value.int .i64) hq1) ?_) | (with_reducible refine HO_rw (congrArg (Value.int .i64) hq3) ?_) | (with_reducible refine HO_u8n ?_) | (refine HO_k 12 rfl ?_; refine HO_call rfl rfl rfl rfl (h1) rfl (srcsA) rfl rfl soA ?_; intro ⟨x1, c1⟩ g1; dsimp only [lca, lna]) | (refine HO_k 12 rfl ?_; refine HO_call rfl rfl rfl rfl (h2) rfl (srcsA) rfl rfl soA ?_; intro ⟨x2, c2⟩ g2; dsimp only [lca, lna]) | (refine HO_k 12 rfl ?_; refine HO_call rfl rfl rfl rfl (h3) rfl (srcsA) rfl rfl soA ?_; intro ⟨x3, c3⟩ g3; dsimp only [lca, lna]) | exact HO_seg rfl rfl | refine S1 ?_ | (refine S2 ?_; intro _) | (refine S3 ?_; intro _ _) | (refine S4 ?_; intro _ _ _) | (refine HO_g 2 rfl ?_; first | apply HO_a1 rfl | apply HO_o1 rfl) | refine S5 ?_ | (intro hb; try replace hb := simB hb; try exact kill hb))
  rename_i A' c'
  (refine SR ?_; unfold RetQ; apply Exists.intro ((A', c')); refine ⟨trivial, ?_, ?_⟩; rotate_left 1; (repeat (first | exact Keeps.nil | refine Keeps.own_cons ?_ ?_ ?_ | refine Keeps.arr_cons ?_ ?_ | refine Keeps.cons Ent.rfl_ ?_ | refine Keeps.skip ?_ | refine Keeps.own_none ?_ ?_ ?_ | refine Keeps.arr_none ?_ ?_)))
  all_goals first
   | exact congrArg (fun n => Value.slice A' n c') hol.symm
   | exact hol.symm
   | (rw [← hoe]; simp)
theorem ba_loop (l : List UInt8) : ∀ (n i : Nat) (r : List UInt8), l.length - i = n → i ≤ l.length → ByteArray.toList.loop ⟨l.toArray⟩ i r = r.reverse ++ l.drop i := by
 intro n
 induction n with
 | zero =>
  intro i r h hi
  rw [ByteArray.toList.loop, if_neg (by show ¬ i < l.toArray.size; rw [List.size_toArray]; omega), List.drop_of_length_le (by omega), List.append_nil]
 | succ n ih =>
  intro i r h hi
  have hil : i < l.length := by omega
  have hg : ByteArray.get! ⟨l.toArray⟩ i = l[i] := by
   show l.toArray[i]! = l[i]
   rw [getElem!_pos l.toArray i (by rw [List.size_toArray]; exact hil), List.getElem_toArray]
  rw [ByteArray.toList.loop, if_pos (by show i < l.toArray.size; rw [List.size_toArray]; omega), ih _ _ (by omega) (by omega), hg, List.drop_eq_getElem_cons hil, List.reverse_cons, List.append_assoc]
  rfl
theorem ba_list (l : List UInt8) : ByteArray.toList ⟨l.toArray⟩ = l := by
 unfold ByteArray.toList
 rw [ba_loop l _ 0 [] rfl (Nat.zero_le _)]
 rfl
theorem ba_eq (l l' : List UInt8) : (ByteArray.toList ⟨l.toArray⟩ == ByteArray.toList ⟨l'.toArray⟩) = decide (l = l') := by
 rw [ba_list, ba_list, Bool.eq_iff_iff, beq_iff_eq, decide_eq_true_eq]
set_option maxHeartbeats 4000000 in
theorem bequal_t (A A' : Option Addr) (c c' : Nat) (l l' : List UInt8) : Tri Tryz.prog 168 [.slice A l.length c, .slice A' l'.length c'] [arr bE 1 A l, arr bE 1 A' l'] [] (fun _ : Unit => True) (fun _ => .bool (decide (l = l'))) (fun _ => []) := by
 have hstr := ba_eq l l'
 refine Tri_of (N := Tryz.f168.ntmps) (c := bodyOf Tryz.f168) Tryz.func168 rfl rfl rfl rfl (fun w0 S0 => ?_)
 repeat' (first | refine SW ?_ | (refine HO_k 7 rfl ?_; (first | refine HO_b2s (l := l) rfl rfl ⟨_, seeL_ro List.mem_cons_self, arr_raw⟩ rfl rfl rfl rfl ?_ | refine HO_b2s (l := l') rfl rfl ⟨_, seeL_ro (List.mem_cons_of_mem _ List.mem_cons_self), arr_raw⟩ rfl rfl rfl rfl ?_)) | (with_reducible refine HO_rw (congrArg Value.bool hstr) ?_) | exact HO_seg rfl rfl | refine S1 ?_ | (refine S2 ?_; intro _) | (refine S3 ?_; intro _ _) | (refine S4 ?_; intro _ _ _) | (refine HO_g 2 rfl ?_; first | apply HO_a1 rfl | apply HO_o1 rfl) | refine S5 ?_ | (intro hb; try replace hb := simB hb; try exact kill hb))
 (refine SR ?_; unfold RetQ; refine ⟨(), trivial, ?_, Keeps.nil⟩)
 rfl
theorem Keeps.pickE {rw rw2 rw' : List SL} {e e' : SL} (k : Nat) (hk : rw[k]? = some e) (hr : eraseO rw k = some rw2) (he : Ent e e') (h : Keeps rw2 rw') : Keeps rw (e' :: rw') := by
 have e := eraseO_eq hr
 subst e
 exact Keeps.pull k hk (Keeps.cons he h)
def lSg (n : Int) (b1 : Nat) : SegS := ⟨false, some ⟨b1, 0, none⟩, 1, [n]⟩
def lAt (n : Int) (nx : Nat) (b1 b2 : Nat) : AttS := ⟨0, some ⟨b2, 0, none⟩, 1, [lSg n b1], nx, -1, -1, none, 0, []⟩
theorem own_i1 {T : Nat} {A : Option Addr} {n : Int} : Ent (own idE T 1 A 1 1 [[.int .i64 n]]) (arr iE 1 A [n]) := fun S w h => arr_typed [n] S w (own_wf (WfL.map (enc := iE)) S w h)
theorem own_s1 {T : Nat} {A : Option Addr} {s : SegS} : Ent (own idE T 2 A 1 1 [s.e]) (arr SegS.e 2 A [s]) := fun S w h => arr_typed [s] S w (own_wf (WfL.map (enc := SegS.e) (l := [s])) S w h)
set_option maxHeartbeats 4000000 in
theorem said14_t (n : Int) (nx : Nat) : Tri Tryz.prog 89 [.int .i64 n, .int .u32 nx] [] [] (fun _ : Nat × Nat => True) (fun x => .agg (lAt n nx x.1 x.2).e.toArray)
  (fun x => [arr iE 1 (some ⟨x.1, 0, none⟩) [n], arr SegS.e 2 (some ⟨x.2, 0, none⟩) [lSg n x.1]]) := by
 refine Tri_of (N := Tryz.f89.ntmps) (c := bodyOf Tryz.f89) Tryz.func89 rfl rfl rfl rfl (fun w0 S0 => ?_)
 repeat' (first | refine SW ?_ | refine SD ?_ | exact HO_seg rfl rfl | refine S1 ?_ | (refine S2 ?_; intro _) | (refine S3 ?_; intro _ _) | (refine S4 ?_; intro _ _ _) | (refine HO_g 2 rfl ?_; first | apply HO_a1 rfl | apply HO_o1 rfl) | refine S5 ?_ | (intro hb; try replace hb := simB hb; try exact kill hb))
 rename_i b4 b1 b2
 (refine SR ?_; unfold RetQ; refine ⟨(b1, b2), trivial, rfl, (by first | exact Keeps.pickE 1 rfl rfl own_i1 (Keeps.pickE 0 rfl rfl (own_s1 (s := lSg n b1)) Keeps.nil) | exact Keeps.pickE 2 rfl rfl own_i1 (Keeps.pickE 0 rfl rfl (own_s1 (s := lSg n b1)) Keeps.nil) | exact Keeps.pickE 2 rfl rfl own_i1 (Keeps.pickE 1 rfl rfl (own_s1 (s := lSg n b1)) Keeps.nil) | exact Keeps.pickE 0 rfl rfl own_i1 (Keeps.pickE 0 rfl rfl (own_s1 (s := lSg n b1)) Keeps.nil))⟩)
set_option maxHeartbeats 4000000 in
theorem ten17a_t : Tri Tryz.prog 161 [.int .i64 1] [] [] (fun _ : Unit => True) (fun _ => pfV 167837696 16) (fun _ => []) := by
 refine Tri_of (N := Tryz.f161.ntmps) (c := bodyOf Tryz.f161) Tryz.func161 rfl rfl rfl rfl (fun w0 S0 => ?_)
 repeat' (first | refine SW ?_ | refine SD ?_ | exact HO_seg rfl rfl | refine S1 ?_ | (refine S2 ?_; intro _) | (refine S3 ?_; intro _ _) | (refine S4 ?_; intro _ _ _) | (refine HO_g 2 rfl ?_; first | apply HO_a1 rfl | apply HO_o1 rfl) | refine S5 ?_ | (intro hb; try replace hb := simB hb; try exact kill hb))
 (refine SR ?_; unfold RetQ; refine ⟨(), trivial, ?_, Keeps.nil⟩)
 rfl
set_option maxHeartbeats 4000000 in
theorem ten17b_t : Tri Tryz.prog 161 [.int .i64 2] [] [] (fun _ : Unit => True) (fun _ => pfV 167903232 16) (fun _ => []) := by
 refine Tri_of (N := Tryz.f161.ntmps) (c := bodyOf Tryz.f161) Tryz.func161 rfl rfl rfl rfl (fun w0 S0 => ?_)
 repeat' (first | refine SW ?_ | refine SD ?_ | exact HO_seg rfl rfl | refine S1 ?_ | (refine S2 ?_; intro _) | (refine S3 ?_; intro _ _) | (refine S4 ?_; intro _ _ _) | (refine HO_g 2 rfl ?_; first | apply HO_a1 rfl | apply HO_o1 rfl) | refine S5 ?_ | (intro hb; try replace hb := simB hb; try exact kill hb))
 (refine SR ?_; unfold RetQ; refine ⟨(), trivial, ?_, Keeps.nil⟩)
 rfl
end Go.Proofs.YtbhiojedmkcfoaaGreatDoor
