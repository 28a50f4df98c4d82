/- Part of a proof of many texts: what the theorem at its end leans on. -/
import Derived.Test.YteeogabkkblkgaaGreatDoorVPeQ
import Derived.Test.YteeogabkkblkgaaGreatDoorVPgF
import Derived.Test.YteeogabkkblkgaaGreatDoorVPgB
import Derived.Test.YteeogabkkblkgaaGreatDoorVRfA
import Derived.Test.YteeogabkkblkgaaGreatDoorVRfB
import Derived.Test.YteeogabkkblkgaaGreatDoorVRfD
import Derived.Test.YteeogabkkblkgaaGreatDoorVRfE
namespace Go.Proofs.YteeogabkkblkgaaGreatDoor
set_option maxHeartbeats 1000000000
set_option linter.unusedVariables false
set_option linter.unusedSimpArgs false
open Go.RowKit
theorem addM_eq {now n : Int} (h0 : 0 ≤ now) (hn : 0 ≤ n ∧ n ≤ 1000000) : addM now n = if now < 9007199254740991 - n then now + n else 9007199254740991 := by
 unfold addM nearM
 repeat' split
 all_goals omega
def HoOk (s : Sta) : Prop := 0 ≤ s.hold ∧ s.hold ≤ 65535
theorem step_hold (l : Loc) (s : Sta) (e : EvS) (hl : locOk l.asn l.hold l.id l.paths l.retry l.four = true) (hs : HoOk s) (he : 0 ≤ e.ohold ∧ e.ohold ≤ 65535) : HoOk (stepR l s e).t := by
 have z : HoOk conS := ⟨by decide, by decide⟩
 have z1 : HoOk idlS := ⟨by decide, by decide⟩
 have z3 : HoOk ⟨3, 0, false, false, 0⟩ := ⟨by decide, by decide⟩
 have hh : 0 ≤ l.hold ∧ l.hold ≤ 65535 := by
  simp [locOk, openOk] at hl
  omega
 have ho : ∀ oh oi op f, 0 ≤ oh → HoOk (opSta l oh oi op f) := fun oh oi op f h0 => by
  unfold opSta HoOk
  dsimp only
  split <;> omega
 unfold stepR
 split
 ·split
  ·unfold stopR
   split
   ·exact hs
   ·exact z1
  split
  ·split
   ·exact z
   ·exact hs
  split
  ·unfold waitingR
   repeat' split
   ·exact z3
   ·exact z
   ·exact z
   ·exact hs
  ·unfold talkingR
   split
   ·unfold openedR strayR
    repeat' split
    ·exact z
    ·exact z
    ·exact z
    ·exact ho _ _ _ _ he.1
   split
   ·unfold heardR strayR
    repeat' split
    ·exact hs
    ·exact hs
    ·exact z
   split
   ·unfold beatR
    split <;> exact hs
   split
   ·exact z
   split
   ·exact z
   split
   ·exact z
   ·exact hs
 ·exact hs
theorem quo3 {h : Int} (hh : 0 ≤ h ∧ h ≤ 65535) : 0 ≤ bQuo .i64 h 3 ∧ bQuo .i64 h 3 ≤ 65535 := by
 unfold bQuo
 rw [Int.tdiv_eq_ediv_of_nonneg hh.1]
 have e : IntKind.wrap .i64 (h / 3) = h / 3 := by
  have := wrap_i64 (e := h / 3) (by omega)
  injection this
 rw [e]
 omega
def ActN (a : ActS) : Prop := 0 ≤ a.n ∧ a.n ≤ 1000000
theorem end_n (ph retry code sub : Int) (hr : 0 ≤ retry ∧ retry ≤ 65535) (dA : Option Addr) (dn dc : Nat) : ∀ a ∈ endA ph retry code sub dA dn dc, ActN a := by
 intro a ha
 have n0 : (0 : Int) ≤ 0 ∧ (0 : Int) ≤ 1000000 := by decide
 unfold endA at ha
 rcases List.mem_append.1 ha with ha | ha
 ·rcases List.mem_append.1 ha with ha | ha
  ·split at ha
   ·rw [List.mem_singleton.1 ha]
    exact n0
   ·cases ha
  ·simp only [List.mem_cons, List.not_mem_nil, or_false] at ha
   rcases ha with rfl | rfl | rfl | rfl
   ·exact n0
   ·exact n0
   ·exact n0
   ·exact ⟨hr.1, by show retry ≤ 1000000; omega⟩
 ·split at ha
  ·rw [List.mem_singleton.1 ha]
   exact n0
  ·cases ha
theorem step_n (l : Loc) (s : Sta) (e : EvS) (hs : HoOk s) (he : 0 ≤ e.ohold ∧ e.ohold ≤ 65535) (dA : Option Addr) (dc : Nat) : ∀ a ∈ (stepR l s e).acts dA dc, ActN a := by
 by_cases hl : locOk l.asn l.hold l.id l.paths l.retry l.four = true
 case neg =>
  intro a ha
  unfold stepR at ha
  rw [if_neg (fun h => hl h.1)] at ha
  cases ha
 have hh : 0 ≤ l.hold ∧ l.hold ≤ 65535 ∧ 0 ≤ l.retry ∧ l.retry ≤ 65535 := by
  simp [locOk, openOk] at hl
  omega
 have hr : 0 ≤ l.retry ∧ l.retry ≤ 65535 := hh.2.2
 have n0 : (0 : Int) ≤ 0 ∧ (0 : Int) ≤ 1000000 := by decide
 have nr : 0 ≤ l.retry ∧ l.retry ≤ 1000000 := by omega
 have nh : 0 ≤ s.hold ∧ s.hold ≤ 1000000 := ⟨hs.1, by have := hs.2; omega⟩
 have n240 : (0 : Int) ≤ 240 ∧ (240 : Int) ≤ 1000000 := by decide
 have nil : ∀ a ∈ ([] : List ActS), ActN a := fun a ha => (by cases ha)
 have one : ∀ x : ActS, ActN x → ∀ a ∈ [x], ActN a := fun x hx a ha => by rw [List.mem_singleton.1 ha]; exact hx
 have two : ∀ x y : ActS, ActN x → ActN y → ∀ a ∈ [x, y], ActN a := fun x y hx hy a ha => by
  simp only [List.mem_cons, List.not_mem_nil, or_false] at ha
  rcases ha with rfl | rfl
  ·exact hx
  ·exact hy
 have three : ∀ x y z : ActS, ActN x → ActN y → ActN z → ∀ a ∈ [x, y, z], ActN a := fun x y z hx hy hz a ha => by
  simp only [List.mem_cons, List.not_mem_nil, or_false] at ha
  rcases ha with rfl | rfl | rfl
  ·exact hx
  ·exact hy
  ·exact hz
 have q3 : ∀ h : Int, 0 ≤ h ∧ h ≤ 65535 → 0 ≤ bQuo .i64 h 3 ∧ bQuo .i64 h 3 ≤ 1000000 := fun h hh => ⟨(quo3 hh).1, by have := (quo3 hh).2; omega⟩
 unfold stepR
 split
 ·split
  ·unfold stopR
   split
   ·exact nil
   ·exact end_n _ _ _ _ (by decide) _ _ _
  split
  ·split
   ·exact two _ _ nr n0
   ·exact nil
  split
  ·unfold waitingR
   repeat' split
   ·exact three _ _ _ n0 n0 n240
   ·exact two _ _ nr n0
   ·exact one _ nr
   ·exact nil
  ·unfold talkingR
   split
   ·unfold openedR strayR
    repeat' split
    ·exact end_n _ _ _ _ hr _ _ _
    ·exact end_n _ _ _ _ hr _ _ _
    ·exact end_n _ _ _ _ hr _ _ _
    ·have ho : 0 ≤ (opSta l e.ohold e.oid e.opaths e.ofour).hold ∧ (opSta l e.ohold e.oid e.opaths e.ofour).hold ≤ 65535 := by
      unfold opSta
      dsimp only
      split <;> omega
     exact three _ _ _ n0 (q3 _ ho) ⟨ho.1, by show (opSta l e.ohold e.oid e.opaths e.ofour).hold ≤ 1000000; omega⟩
   split
   ·unfold heardR strayR
    repeat' split
    ·exact one _ nh
    ·exact two _ _ nh n0
    ·exact end_n _ _ _ _ hr _ _ _
   split
   ·unfold beatR
    split
    ·exact nil
    ·exact two _ _ n0 (q3 _ hs)
   split
   ·exact end_n _ _ _ _ hr _ _ _
   split
   ·exact end_n _ _ _ _ hr _ _ _
   split
   ·exact end_n _ _ _ _ hr _ _ _
   ·exact nil
 ·exact nil
theorem acs_n (l : Loc) (s : Sta) (e : EvS) (hs : HoOk s) (he : 0 ≤ e.ohold ∧ e.ohold ≤ 65535) : ∀ a ∈ acsR (stepR l s e), 0 ≤ a.n ∧ a.n ≤ 1000000 := by
 intro a ha
 unfold acsR at ha
 obtain ⟨b, hb, rfl⟩ := List.mem_map.1 ha
 exact step_n l s e hs he none 0 b hb
theorem step_dat (l : Loc) (s : Sta) (e : EvS) : (stepR l s e).data = [] ∨ (stepR l s e).data = e.data := by
 have endl : ∀ (code : Int) (d : List UInt8), endD code d = [] ∨ endD code d = d := fun code d => by
  unfold endD
  split
  ·exact .inr rfl
  ·exact .inl rfl
 have en : ∀ (code : Int), endD code [] = [] := fun code => by unfold endD; split <;> rfl
 unfold stepR
 split
 ·split
  ·unfold stopR
   split <;> exact .inl rfl
  split
  ·split <;> exact .inl rfl
  split
  ·unfold waitingR
   repeat' split
   all_goals exact .inl rfl
  ·unfold talkingR
   split
   ·unfold openedR
    repeat' split
    all_goals first | exact .inl rfl | exact .inl (en _)
   split
   ·unfold heardR
    repeat' split
    all_goals first | exact .inl rfl | exact .inl (en _)
   split
   ·unfold beatR
    split <;> exact .inl rfl
   split
   ·exact .inl (en 4)
   split
   ·exact .inl (en 0)
   split
   ·exact endl _ _
   ·exact .inl rfl
 ·exact .inl rfl
def EvH (e : EvQ) : Prop := 0 ≤ e.o.hold ∧ e.o.hold ≤ 65535
theorem evh0 (k : Int) (n : NtQ) : EvH ⟨k, op0, n⟩ := (by decide : (0 : Int) ≤ op0.hold ∧ op0.hold ≤ 65535)
theorem once_hold {υ : Type} {now : Int} {p : PrQ} {r : RsQ υ} {e : EvQ} (hl : locOk p.lo.asn p.lo.hold p.lo.id p.lo.paths p.lo.retry p.lo.four = true) (hs : HoOk p.st) (he : EvH e) : HoOk (onceM now p r e).1.st := by
 rw [(onceM_st now p r e).1]
 exact step_hold _ _ _ hl hs he
theorem hap_hold {υ : Type} {now : Int} {p : PrQ} {r : RsQ υ} {e : EvQ} (hl : locOk p.lo.asn p.lo.hold p.lo.id p.lo.paths p.lo.retry p.lo.four = true) (hs : HoOk p.st) (he : EvH e) : HoOk (hapM now p r e).1.st := by
 unfold hapM
 split
 ·exact once_hold hl hs he
 ·exact once_hold (by rw [(onceM_st now p r e).2.1]; exact hl) (once_hold hl hs he) (evh0 _ _)
theorem opM_hold (b : List UInt8) : 0 ≤ (opM b).1.hold ∧ (opM b).1.hold ≤ 65535 := by
 have z : (0 : Int) ≤ op0.hold ∧ op0.hold ≤ 65535 := by decide
 by_cases h1 : b.length = 0 ∨ b.getD 0 0 ≠ 4
 ·rw [opM_0 h1]
  exact z
 by_cases h2 : b.length < 10 ∨ (b.getD 9 0).toNat + 10 ≠ b.length
 ·rw [opM_1 h1 h2]
  exact z
 rw [opM_2 h1 h2]
 split
 ·exact z
 ·have cap : ∀ (o : OpQ) (c : Nat) (d : List UInt8), (capM o c d).1.hold = o.hold := fun o c d => by
   unfold capM
   repeat' split
   all_goals rfl
  have each : ∀ (take : OpQ → Nat → List UInt8 → OpQ × Int), (∀ o c d, (take o c d).1.hold = o.hold) → ∀ (k : Nat) (o : OpQ) (d : List UInt8), (eachM take k o d).1.hold = o.hold := fun take ht k => by
   induction k with
   | zero => intro o d; rfl
   | succ k ih =>
    intro o d
    match d with
    | [] => rfl
    | [c] => exact ht _ _ _
    | c :: n :: r =>
     by_cases h1 : r.length < n.toNat
     ·rw [eachM_2 _ _ _ _ _ _ h1]
      exact ht _ _ _
     ·by_cases h2 : 0 ≤ (take o c.toNat (r.take n.toNat)).2
      ·rw [eachM_3 _ _ _ _ _ _ h1 h2]
       exact ht _ _ _
      ·rw [eachM_4 _ _ _ _ _ _ h1 h2, ih, ht]
  have par : ∀ (o : OpQ) (c : Nat) (d : List UInt8), (parM o c d).1.hold = o.hold := fun o c d => by
   unfold parM
   split
   ·rfl
   ·exact each capM cap _ _ _
  have h := each parM par (b.length - 10) ⟨(ge ((b.drop 1).take 2) : Nat), (ge ((b.drop 3).take 2) : Nat), (ge ((b.drop 5).take 4) : Nat), false, 0⟩ (b.drop 10)
  have h : (opS b).1.hold = ((ge ((b.drop 3).take 2) : Nat) : Int) := h
  show 0 ≤ (opS b).1.hold ∧ (opS b).1.hold ≤ 65535
  rw [h]
  have hg := ge_lt ((b.drop 3).take 2)
  have hl : ((b.drop 3).take 2).length ≤ 2 := by rw [List.length_take]; omega
  have hp : 256 ^ ((b.drop 3).take 2).length ≤ 256 ^ 2 := Nat.pow_le_pow_right (by decide) hl
  have h65 : (256 : Nat) ^ 2 = 65536 := by decide
  omega
theorem msg_hold (x : PrQ) (r : RsQ UpP) (k : Int) (b : List UInt8) : EvH (msgM updM x r k b).2 := by
 unfold msgM
 split
 ·split
  ·exact evh0 _ _
  ·exact opM_hold b
 split
 ·exact evh0 _ _
 split
 ·split
  ·split <;> exact evh0 _ _
  ·exact evh0 _ _
 ·exact evh0 _ _
attribute [local irreducible] HC HX HO Tri eP adr
structure RpZ where
 q : Nat
 z : OA
 d : OA
@[reducible] def rpC (x : PrQ) (y : RpZ) (t : Nat) : List Value := [.int .i64 x.n, .int .i64 x.lo.asn, .int .i64 x.lo.hold, .int .u32 x.lo.id, .bool x.lo.four, .int .i64 x.lo.paths, .int .i64 x.lo.retry,
 .int .i64 x.st.ph, .int .i64 x.st.hold, .bool x.st.four, .bool x.st.paths, .int .u32 x.st.id, .slice y.z.1 x.s.b.length y.z.2, .int .i64 x.s.n.c, .int .i64 x.s.n.s, .slice y.d.1 x.s.n.d.length y.d.2, pt y.q, pt t]
@[reducible] def rpF (p t : Nat) (x : PrQ) (y : RpZ) : List SL := [cel p 89 (rpC x y t), ownB y.z x.s.b, rquP y.q x.room x.q, rtmP t x.tm]
def rpP (p t : Nat) (x : PrQ) : SL := exP (fun _ : RpZ => True) (rpF p t x)
@[reducible] def rrF (h : Nat) (r : RsQ UpP) (z : RsZ) : List SL := cel h 29 (rsC r z) :: rsP r z
def rrP (h : Nat) (r : RsQ UpP) : SL := exP (RsOk r) (rrF h r)
theorem rpset_t (p t : Nat) (x : PrQ) (hx : PrOk x) (k n now : Int) (h0 : 0 ≤ now) (hn0 : 0 ≤ n ∧ n ≤ 1000000) :
  Tri Tryz.prog 159 [pt p, .int .i64 k, .int .i64 n, .int .i64 now] [] [rpP p t x] (fun _ : Unit => True) (fun _ => .tuple #[]) (fun _ => [rpP p t (timeM x k n now)]) := by
 have htl := hx.tl
 refine Tri_open (fun z hz => ?_)
 dsimp only [rpF, rpC, lca, lna]
 unfold timeM
 by_cases hn : n = 0
 ·rw [if_pos hn]
  have c1 := rtstop_t t x.tm ⟨x.n, k⟩ (by omega) hx.tn
  dsimp only [tkV, tkC] at c1
  refine Tri_in Tryz.func159 rfl (fun w0 S0 => ?_)
  repeat' (first | refine SX ?_ | (refine HC_lex rfl rfl (by decide +kernel) rfl rfl ?_) | (refine KC ?_; refine HO_callP rfl rfl rfl rfl (c1) findA (trivial) rfl rfl soA ?_; intro y hy; dsimp only [lca, lna]) | refine SB ?_ | (refine S2 ?_; intro _) | fail)
  (refine SRt ?_; unfold RetQ; refine ⟨(), trivial, rfl, (Keeps.close (φ := fun _ : RpZ => True) (f := rpF p t { x with tm := dlL ⟨x.n, k⟩ x.tm }) z trivial permA)⟩)
 ·rw [if_neg hn, addM_eq h0 hn0]
  by_cases hb : now < 9007199254740991 - n
  ·rw [if_pos hb]
   have c2 := rtset_t t x.tm ⟨x.n, k⟩ (now + n) (by omega) hx.tn
   dsimp only [tkV, tkC] at c2
   refine Tri_in Tryz.func159 rfl (fun w0 S0 => ?_)
   repeat' (first | refine SX ?_ | (refine HC_lex rfl rfl (by decide +kernel) rfl rfl ?_) | (refine KC ?_; refine HO_callP rfl rfl rfl rfl (c2) findA (trivial) rfl rfl soA ?_; intro y hy; dsimp only [lca, lna]) | refine SB ?_ | (refine S2 ?_; intro _) | fail)
   (refine SRt ?_; unfold RetQ; refine ⟨(), trivial, rfl, (Keeps.close (φ := fun _ : RpZ => True) (f := rpF p t { x with tm := (tmSet x.tm ⟨x.n, k⟩ (now + n)).1 }) z trivial permA)⟩)
  ·rw [if_neg hb]
   have c2 := rtset_t t x.tm ⟨x.n, k⟩ 9007199254740991 (by omega) hx.tn
   dsimp only [tkV, tkC] at c2
   refine Tri_in Tryz.func159 rfl (fun w0 S0 => ?_)
   repeat' (first | refine SX ?_ | (refine HC_lex rfl rfl (by decide +kernel) rfl rfl ?_) | (refine KC ?_; refine HO_callP rfl rfl rfl rfl (c2) findA (trivial) rfl rfl soA ?_; intro y hy; dsimp only [lca, lna]) | refine SB ?_ | (refine S2 ?_; intro _) | fail)
   (refine SRt ?_; unfold RetQ; refine ⟨(), trivial, rfl, (Keeps.close (φ := fun _ : RpZ => True) (f := rpF p t { x with tm := (tmSet x.tm ⟨x.n, k⟩ 9007199254740991).1 }) z trivial permA)⟩)
theorem rpsend_t (p t : Nat) (x : PrQ) (hx : PrOk x) (k : Int) (A : Option Addr) (c : Nat) (b : List UInt8) (hb : msgOk k b.length = true) :
  Tri Tryz.prog 84 [pt p, mgV k A b.length c] [arr bE 1 A b] [rpP p t x] (fun _ : Unit => True) (fun _ => .bool (sendM x k b).2) (fun _ => [rpP p t (sendM x k b).1]) := by
 refine Tri_open (fun z hz => ?_)
 have hl := (msgOk_iff.1 hb).2.2.1
 have c1 := rput3_t k A c b hb
 have hfl := frB_len k b
 have hql := hx.q
 have hrm := hx.room
 have c2 := fun A2 c2 => rqput_t z.q x.room x.q (by omega) A2 c2 (frB k b) (by omega)
 unfold sendM
 obtain ⟨F, hF⟩ : ∃ F, frB k b = F := ⟨_, rfl⟩
 rw [hF] at c1 c2 ⊢
 dsimp only [rpF, rpC, mgV, lca, lna] at c1 ⊢
 by_cases hr : x.q.length + F.length ≤ x.room
 ·rw [if_pos hr]
  rw [if_pos hr, decide_eq_true hr] at c2
  refine Tri_in Tryz.func84 rfl (fun w0 S0 => ?_)
  repeat' (first | (refine HC_lex rfl rfl (by decide +kernel) rfl rfl ?_) | (refine KC ?_; refine HO_callP rfl rfl rfl rfl (c1) findA (srcsA) rfl rfl soA ?_; intro ⟨y1, y2⟩ hy; dsimp only [lca, lna]) | (refine KC ?_; refine HO_callP rfl rfl rfl rfl (c2 _ _) findA (srcsA) rfl rfl soA ?_; intro y hy; dsimp only [lca, lna]) | refine SB ?_ | (refine S2 ?_; intro _) | fail)
  (refine SRt ?_; unfold RetQ; refine ⟨(), trivial, rfl, (Keeps.close (φ := fun _ : RpZ => True) (f := rpF p t { x with q := x.q ++ F }) z trivial permA)⟩)
 ·rw [if_neg hr]
  rw [if_neg hr, decide_eq_false hr] at c2
  refine Tri_in Tryz.func84 rfl (fun w0 S0 => ?_)
  repeat' (first | (refine HC_lex rfl rfl (by decide +kernel) rfl rfl ?_) | (refine KC ?_; refine HO_callP rfl rfl rfl rfl (c1) findA (srcsA) rfl rfl soA ?_; intro ⟨y1, y2⟩ hy; dsimp only [lca, lna]) | (refine KC ?_; refine HO_callP rfl rfl rfl rfl (c2 _ _) findA (srcsA) rfl rfl soA ?_; intro y hy; dsimp only [lca, lna]) | refine SB ?_ | (refine S2 ?_; intro _) | fail)
  (refine SRt ?_; unfold RetQ; refine ⟨(), trivial, rfl, (Keeps.close (φ := fun _ : RpZ => True) (f := rpF p t x) z trivial permA)⟩)
theorem rpact_t (h p t : Nat) (now : Int) (h0 : 0 ≤ now) (r : RsQ UpP) (x : PrQ) (hx : PrOk x) (hid : 0 ≤ x.lo.id ∧ x.lo.id ≤ 4294967295) (k n nc ns : Int) (hn : 0 ≤ n ∧ n ≤ 1000000) (A : Option Addr) (c : Nat) (d : List UInt8) (hd : d.length ≤ 1000000) :
  Tri Tryz.prog 113 [pt p, .agg #[.int .i64 k, .int .i64 n, .int .i64 nc, .int .i64 ns, .slice A d.length c], .int .i64 now, pt h] [arr bE 1 A d] [rrP h r, rpP p t x] (fun _ : Unit => True)
   (fun _ => .bool (actM now x r ⟨k, n, ⟨nc, ns, d⟩⟩).2.2) (fun _ => [rrP h (actM now x r ⟨k, n, ⟨nc, ns, d⟩⟩).2.1, rpP p t (actM now x r ⟨k, n, ⟨nc, ns, d⟩⟩).1]) := by
 by_cases h1 : k = 1
 ·subst h1
  have e : actM now x r ⟨1, n, ⟨nc, ns, d⟩⟩ = (x, { r with con := true }, true) := rfl
  rw [e]
  refine Tri_open (fun z hz => ?_)
  dsimp only [rrF, rsC, rsP, lca, lna]
  refine Tri_in Tryz.func113 rfl (fun w0 S0 => ?_)
  repeat' (first | refine SD ?_ | refine SB ?_ | (refine S2 ?_; intro _) | fail)
  (refine SRt ?_; unfold RetQ; refine ⟨(), trivial, rfl, (Keeps.close (φ := RsOk { r with con := true }) (f := rrF h { r with con := true }) z hz permA)⟩)
 by_cases h2 : k = 2
 ·subst h2
  obtain ⟨g1, g2, g3⟩ := ob_ok hx
  have e : actM now x r ⟨2, n, ⟨nc, ns, d⟩⟩ = ((sendM x 1 (opB (locOp x.lo))).1, r, (sendM x 1 (opB (locOp x.lo))).2) := rfl
  rw [e]
  have c1 := roput_t (locOp x.lo) hid g3
  have c2 := fun A c => rpsend_t p t x hx 1 A c (opB (locOp x.lo)) g2
  obtain ⟨B, hB⟩ : ∃ B, opB (locOp x.lo) = B := ⟨_, rfl⟩
  rw [hB] at c1 c2 ⊢
  obtain ⟨⟨x2, bo⟩, hx2⟩ : ∃ y, sendM x 1 B = y := ⟨_, rfl⟩
  rw [hx2] at c2 ⊢
  dsimp only [mgV, opV, locOp] at c1 c2 ⊢
  refine Tri_keeps (rw' := [rpP p t x, rrP h r]) (Keeps.pick 1 rfl rfl Keeps.refl) ?_
  refine Tri_open (fun y hy => ?_)
  dsimp only [rpF, rpC, lca, lna]
  refine Tri_in Tryz.func113 rfl (fun w0 S0 => ?_)
  repeat' (first | refine SD ?_ | (refine KC ?_; refine HO_callP rfl rfl rfl rfl (c1) findA (trivial) rfl rfl soA ?_; intro ⟨y1, y2⟩ hy1; dsimp only [lca, lna]) | (refine KC ?_; refine HO_keeps ((Keeps.close (φ := fun _ : RpZ => True) (f := rpF p t x) y hy findA)) ?_; refine HO_callP rfl rfl rfl rfl (c2 _ _) findA (srcsA) rfl rfl soA ?_; intro w hw; dsimp only [lca, lna]) | refine SB ?_ | (refine S2 ?_; intro _) | fail)
  (refine SRt ?_; unfold RetQ; refine ⟨(), trivial, rfl, permA⟩)
 by_cases h3 : k = 3
 ·subst h3
  have e : actM now x r ⟨3, n, ⟨nc, ns, d⟩⟩ = ((sendM x 4 []).1, r, (sendM x 4 []).2) := rfl
  rw [e]
  have c2 := rpsend_t p t x hx 4 none 0 [] rfl
  obtain ⟨⟨x2, bo⟩, hx2⟩ : ∃ y, sendM x 4 [] = y := ⟨_, rfl⟩
  rw [hx2] at c2 ⊢
  dsimp only [mgV] at c2 ⊢
  refine Tri_in Tryz.func113 rfl (fun w0 S0 => ?_)
  repeat' (first | refine SD ?_ | (refine KC ?_; refine HO_callP rfl rfl rfl rfl (c2) findA ((AllSrc.free (fun w => arr_nil _ w) trivial)) rfl rfl soA ?_; intro y hy; dsimp only [lca, lna]) | refine SB ?_ | (refine S2 ?_; intro _) | fail)
  (refine SRt ?_; unfold RetQ; refine ⟨(), trivial, rfl, permA⟩)
 by_cases h4 : k = 4
 ·subst h4
  have c1 := rcheck8_t ⟨nc, ns, d⟩ A c
  by_cases hk : ntOk ⟨nc, ns, d⟩ = true
  ·have e : actM now x r ⟨4, n, ⟨nc, ns, d⟩⟩ = (x, { r with last := frB 3 (ntB ⟨nc, ns, d⟩) }, true) := by
    show (x, (if ntOk ⟨nc, ns, d⟩ = true then { r with last := frB 3 (ntB ⟨nc, ns, d⟩) } else r), true) = _
    rw [if_pos hk]
   rw [e]
   have hm := ntB_ok hk
   have c2 := rbody8_t ⟨nc, ns, d⟩ A c hk
   have c3 := fun A c => rput3_t 3 A c (ntB ⟨nc, ns, d⟩) hm
   rw [hk] at c1
   obtain ⟨B, hB⟩ : ∃ B, ntB ⟨nc, ns, d⟩ = B := ⟨_, rfl⟩
   rw [hB] at c2 c3 ⊢
   obtain ⟨F, hF⟩ : ∃ F, frB 3 B = F := ⟨_, rfl⟩
   rw [hF] at c3 ⊢
   dsimp only [mgV, noV] at c1 c2 c3
   refine Tri_open (fun z hz => ?_)
   dsimp only [rrF, rsC, rsP, lca, lna]
   refine Tri_in Tryz.func113 rfl (fun w0 S0 => ?_)
   repeat' (first | refine SD ?_ | (refine KC ?_; refine HO_callq rfl rfl rfl rfl (c1) (fun _ _ => rfl) (trivial) rfl rfl sqA ?_) | (refine KC ?_; refine HO_callP rfl rfl rfl rfl (c2) findA (srcsA) rfl rfl soA ?_; intro ⟨y1, y2⟩ hy1; dsimp only [lca, lna]) | (refine KC ?_; refine HO_callP rfl rfl rfl rfl (c3 _ _) findA (srcsA) rfl rfl soA ?_; intro ⟨x1, x2⟩ hx1; dsimp only [lca, lna]) | refine SB ?_ | (refine S2 ?_; intro _) | fail)
   have hz2 : RsOk { r with last := F } ⟨z.us, z.u, (x1, x2)⟩ := hz
   (refine SRt ?_; unfold RetQ; refine ⟨(), trivial, rfl, (Keeps.close (φ := RsOk { r with last := F }) (f := rrF h { r with last := F }) ⟨z.us, z.u, (x1, x2)⟩ hz2 permA)⟩)
  ·have hk : ntOk ⟨nc, ns, d⟩ = false := by
    cases hh : ntOk ⟨nc, ns, d⟩
    ·rfl
    ·exact absurd hh hk
   have e : actM now x r ⟨4, n, ⟨nc, ns, d⟩⟩ = (x, r, true) := by
    show (x, (if ntOk ⟨nc, ns, d⟩ = true then { r with last := frB 3 (ntB ⟨nc, ns, d⟩) } else r), true) = _
    rw [if_neg (by rw [hk]; decide)]
   rw [e]
   rw [hk] at c1
   dsimp only [noV] at c1
   refine Tri_in Tryz.func113 rfl (fun w0 S0 => ?_)
   repeat' (first | refine SD ?_ | (refine KC ?_; refine HO_callq rfl rfl rfl rfl (c1) (fun _ _ => rfl) (trivial) rfl rfl sqA ?_) | refine SB ?_ | (refine S2 ?_; intro _) | fail)
   (refine SRt ?_; unfold RetQ; refine ⟨(), trivial, rfl, permA⟩)
 by_cases h5 : k = 5
 ·subst h5
  have e : actM now x r ⟨5, n, ⟨nc, ns, d⟩⟩ = ({ x with q := [], s := st0 }, { r with clo := true }, true) := rfl
  rw [e]
  refine Tri_open (fun z hz => ?_)
  refine Tri_keeps (rw' := rpP p t x :: rrF h r z) (Keeps.pick 4 rfl rfl Keeps.refl) ?_
  refine Tri_open (fun y hy => ?_)
  refine Tri_keeps (rw' := rquP y.q x.room x.q :: ([cel p 89 (rpC x y t), ownB y.z x.s.b, rtmP t x.tm] ++ rrF h r z)) (Keeps.pick 2 rfl rfl Keeps.refl) ?_
  refine Tri_open (fun v hv => ?_)
  dsimp only [rrF, rsC, rsP, rpF, rpC, rquF, lca, lna]
  refine Tri_in Tryz.func113 rfl (fun w0 S0 => ?_)
  repeat' (first | refine SD ?_ | refine SB ?_ | (refine S2 ?_; intro _) | fail)
  (refine SRt ?_; unfold RetQ; refine ⟨(), trivial, rfl, (Keeps.comp (b := [ownB (none, 0) [], ownB (none, 0) [], cel y.q 91 [.slice none 0 0, .int .i64 x.room], cel p 89 (rpC { x with q := [], s := st0 } ⟨y.q, (none, 0), (none, 0)⟩ t), rtmP t x.tm, cel h 29 (rsC { r with clo := true } z), own idE 55 9 z.u.1 z.us.length z.u.2 (z.us.map UpS.e), inn (upsL z.us), ownB z.l r.last]) (Keeps.add (fun w => own_nil w) (Keeps.add (fun w => own_nil w) permA)) (Keeps.comp (Keeps.close (φ := fun _ : OA => True) (f := rquF y.q x.room []) (none, 0) trivial findA) (Keeps.comp (Keeps.close (φ := fun _ : RpZ => True) (f := rpF p t { x with q := [], s := st0 }) ⟨y.q, (none, 0), (none, 0)⟩ trivial findA) (Keeps.close (φ := RsOk { r with clo := true }) (f := rrF h { r with clo := true }) z hz permA))))⟩)
 by_cases h6 : k = 6
 ·subst h6
  have e : actM now x r ⟨6, n, ⟨nc, ns, d⟩⟩ = (timeM x 1 n now, r, true) := rfl
  rw [e]
  have c1 := rpset_t p t x hx 1 n now h0 hn
  refine Tri_in Tryz.func113 rfl (fun w0 S0 => ?_)
  repeat' (first | refine SD ?_ | (refine KC ?_; refine HO_callP rfl rfl rfl rfl (c1) findA (trivial) rfl rfl soA ?_; intro y hy; dsimp only [lca, lna]) | refine SB ?_ | (refine S2 ?_; intro _) | fail)
  (refine SRt ?_; unfold RetQ; refine ⟨(), trivial, rfl, permA⟩)
 by_cases h7 : k = 7
 ·subst h7
  have e : actM now x r ⟨7, n, ⟨nc, ns, d⟩⟩ = (timeM x 2 n now, r, true) := rfl
  rw [e]
  have c1 := rpset_t p t x hx 2 n now h0 hn
  refine Tri_in Tryz.func113 rfl (fun w0 S0 => ?_)
  repeat' (first | refine SD ?_ | (refine KC ?_; refine HO_callP rfl rfl rfl rfl (c1) findA (trivial) rfl rfl soA ?_; intro y hy; dsimp only [lca, lna]) | refine SB ?_ | (refine S2 ?_; intro _) | fail)
  (refine SRt ?_; unfold RetQ; refine ⟨(), trivial, rfl, permA⟩)
 by_cases h8 : k = 8
 ·subst h8
  have e : actM now x r ⟨8, n, ⟨nc, ns, d⟩⟩ = (timeM x 3 n now, r, true) := rfl
  rw [e]
  have c1 := rpset_t p t x hx 3 n now h0 hn
  refine Tri_in Tryz.func113 rfl (fun w0 S0 => ?_)
  repeat' (first | refine SD ?_ | (refine KC ?_; refine HO_callP rfl rfl rfl rfl (c1) findA (trivial) rfl rfl soA ?_; intro y hy; dsimp only [lca, lna]) | refine SB ?_ | (refine S2 ?_; intro _) | fail)
  (refine SRt ?_; unfold RetQ; refine ⟨(), trivial, rfl, permA⟩)
 by_cases h9 : k = 9
 ·subst h9
  have e : actM now x r ⟨9, n, ⟨nc, ns, d⟩⟩ = (x, { r with up := true }, true) := rfl
  rw [e]
  refine Tri_open (fun z hz => ?_)
  dsimp only [rrF, rsC, rsP, lca, lna]
  refine Tri_in Tryz.func113 rfl (fun w0 S0 => ?_)
  repeat' (first | refine SD ?_ | refine SB ?_ | (refine S2 ?_; intro _) | fail)
  (refine SRt ?_; unfold RetQ; refine ⟨(), trivial, rfl, (Keeps.close (φ := RsOk { r with up := true }) (f := rrF h { r with up := true }) z hz permA)⟩)
 by_cases h10 : k = 10
 ·subst h10
  have e : actM now x r ⟨10, n, ⟨nc, ns, d⟩⟩ = (x, { r with dn := true }, true) := rfl
  rw [e]
  refine Tri_open (fun z hz => ?_)
  dsimp only [rrF, rsC, rsP, lca, lna]
  refine Tri_in Tryz.func113 rfl (fun w0 S0 => ?_)
  repeat' (first | refine SD ?_ | refine SB ?_ | (refine S2 ?_; intro _) | fail)
  (refine SRt ?_; unfold RetQ; refine ⟨(), trivial, rfl, (Keeps.close (φ := RsOk { r with dn := true }) (f := rrF h { r with dn := true }) z hz permA)⟩)
 have e : actM now x r ⟨k, n, ⟨nc, ns, d⟩⟩ = (x, r, true) := by
  unfold actM
  rw [if_neg h1, if_neg h2, if_neg h3, if_neg h4, if_neg h5, if_neg h6, if_neg h7, if_neg h8, if_neg h9, if_neg h10]
 rw [e]
 refine Tri_in Tryz.func113 rfl (fun w0 S0 => ?_)
 repeat' (first | refine SD ?_ | refine SB ?_ | (refine S2 ?_; intro _) | fail)
 (refine SRt ?_; unfold RetQ; refine ⟨(), trivial, rfl, permA⟩)
end Go.Proofs.YteeogabkkblkgaaGreatDoor
