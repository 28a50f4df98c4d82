/- Part of a proof of many texts: what the theorem at its end leans on. -/
import Derived.Test.YteeogabkkblkgaaGreatDoorVPeP
import Derived.Test.YteeogabkkblkgaaGreatDoorVKc
import Derived.Test.YteeogabkkblkgaaGreatDoorVAttM
namespace Go.Proofs.YteeogabkkblkgaaGreatDoor
set_option maxHeartbeats 1000000000
set_option linter.unusedVariables false
set_option linter.unusedSimpArgs false
open Go.RowKit
attribute [local irreducible] HC HX HO Tri eP adr
theorem HO_callB {m : Md} {P : Program} {N : Nat} {w0 : World} {S0 : Foot} {ops : List Oper} {i : Nat} {lq : List Nat} {env : Env} {ro rw : List SL} {K : Act → World → Prop} {ty : TypeId} {pos : String} {aft : Array Edge} {g : Option (Nat × Bool)}
  {f : Operand} {args : List Operand} {tys : Array TypeId} {d : Nat} {vs fst cap : List Value} {gn : Nat} [hf : FnOk P gn] {roC rwC rest : List SL} {α : Type} {φ : α → Prop} {val : α → Value} {es : α → List SL}
  (ho : ops[i]? = some ⟨some d, .call { callee := .value f, args := args.toArray, argTypes := tys }, ty, pos, aft, g⟩)
  (hvf : Env.ev env f = some (.func (.func gn) fst.toArray cap.toArray)) (hcap : cap = []) (hvs : evL env args = some vs)
  (hT : Tri P gn (fst ++ vs) roC rwC φ val es) (hrw : rw = rwC ++ rest) (hro : AllSrc (ro ++ rest) roC)
  (hw : wantE ops env g = some true) (hN : Nat.blt d N = true) (hs : soleB m ops i lq = true)
  (h : ∀ x, φ x → HO (nmM m) P N w0 S0 ops lq ((d, val x) :: env) ro (es x ++ rest) K) : HO m P N w0 S0 ops (i :: lq) env ro rw K := by
 subst hrw hcap
 refine HO_do (φ := φ) (val := val) (rw' := fun x => es x ++ rest) ho hw hs hN (fun w1 S1 a S w n ha hf' hn => ?_) h
 have hfn := hf.h
 unfold fnB at hfn
 have henter : (execOp a.eval ⟨some d, .call { callee := .value f, args := args.toArray, argTypes := tys }, ty, pos, aft, g⟩).run P w = .ok (.enter gn (fst ++ vs).toArray) w := by
  cases hp : P.funcs[gn]? with
  | none => simp [hp] at hfn
  | some fn =>
   simp only [hp, Bool.and_eq_true, bne_iff_ne] at hfn
   have hm := evL_spec ha hvs
   have hb : fn.body.isNone = false := by cases hbb : fn.body <;> simp [hbb] at hfn ⊢
   have hn : (fn.name == "runtime.NumGoroutine") = false := by simpa using hfn.2
   simp only [execOp, resolve, ha.ev hvf, Deferred.ofValue, Sem.run_bind, Sem.run_pure, Result.andThen_ok, invoke, callFunc, run_program, hp, hn, hb, Bool.false_eq_true, if_false]
   simp [← hm]
 unfold Oper.wp
 rw [henter, Oper.upon_enter]
 obtain ⟨A, hA, hAS, hAl, hr1, hr2, hk⟩ := hf'.step
 have hfit : Fits w A roC rwC A w := ⟨Fr.refl _ _, hAl, fun b hb => .inl hb, hA, fun e he => by
  rcases hro.get e he with ⟨e0, h0, hent⟩ | hfree
  case inr => exact ⟨fun _ => False, fun _ h => h.elim, hfree w⟩
  rcases List.mem_append.1 h0 with h0 | h0
  ·obtain ⟨F, hF, hp⟩ := hr1 e0 h0
   exact ⟨F, hF, hent _ _ hp⟩
  ·obtain ⟨F, hF, hp⟩ := hr2 e0 h0
   exact ⟨F, hF, hent _ _ hp⟩⟩
 unfold Tri at hT
 refine (hT w A hfit).mono fun e w' ⟨x, T, hx, he, hfx⟩ => ?_
 subst he
 obtain ⟨T', hT'⟩ := hk w' T (es x) hfx.fr hfx.lt hfx.sub hfx.star
 exact hn x T' w' hx hT'
theorem HO_callBP {m : Md} {P : Program} {N : Nat} {w0 : World} {S0 : Foot} {ops : List Oper} {i : Nat} {lq : List Nat} {env : Env} {ro rw : List SL} {K : Act → World → Prop} {ty : TypeId} {pos : String} {aft : Array Edge} {g : Option (Nat × Bool)} [hm : NoQ m]
  {f : Operand} {args : List Operand} {tys : Array TypeId} {d : Nat} {vs fst cap : List Value} {gn : Nat} [hf : FnOk P gn] {roC rwC rest : List SL} {α : Type} {φ : α → Prop} {val : α → Value} {es : α → List SL}
  (ho : ops[i]? = some ⟨some d, .call { callee := .value f, args := args.toArray, argTypes := tys }, ty, pos, aft, g⟩)
  (hvf : Env.ev env f = some (.func (.func gn) fst.toArray cap.toArray)) (hcap : cap = []) (hvs : evL env args = some vs)
  (hT : Tri P gn (fst ++ vs) roC rwC φ val es) (hk : Keeps rw (rwC ++ rest)) (hro : AllSrc (ro ++ rest) roC)
  (hw : wantE ops env g = some true) (hN : Nat.blt d N = true) (hs : soleB m ops i lq = true)
  (h : ∀ x, φ x → HO (nmM m) P N w0 S0 ops lq ((d, val x) :: env) ro (es x ++ rest) K) : HO m P N w0 S0 ops (i :: lq) env ro rw K :=
 HO_keeps hk (HO_callB ho hvf hcap hvs hT rfl hro hw hN hs h)
theorem eachM_fuel {σ : Type} (take : σ → Nat → List UInt8 → σ × Int) : ∀ (k k' : Nat) (s : σ) (b : List UInt8), b.length ≤ k → b.length ≤ k' → eachM take k s b = eachM take k' s b
 | 0, 0, s, b, _, _ => rfl
 | 0, k' + 1, s, [], _, _ => rfl
 | 0, k' + 1, s, _ :: _, h, _ => by simp at h
 | k + 1, 0, s, [], _, _ => rfl
 | k + 1, 0, s, _ :: _, _, h => by simp at h
 | k + 1, k' + 1, s, [], _, _ => rfl
 | k + 1, k' + 1, s, [c], _, _ => rfl
 | k + 1, k' + 1, s, c :: n :: r, h1, h2 => by
  simp only [List.length_cons] at h1 h2
  unfold eachM
  rw [eachM_fuel take k k' _ (r.drop n.toNat) (by rw [List.length_drop]; omega) (by rw [List.length_drop]; omega)]
theorem eachM_1 {σ : Type} (take : σ → Nat → List UInt8 → σ × Int) (s : σ) (c : UInt8) (k : Nat) : eachM take (k + 1) s [c] = ((take s c.toNat []).1, if 0 < (take s c.toNat []).2 then (take s c.toNat []).2 else 0) := rfl
theorem eachM_2 {σ : Type} (take : σ → Nat → List UInt8 → σ × Int) (s : σ) (c n : UInt8) (r : List UInt8) (k : Nat) (h : r.length < n.toNat) : eachM take (k + 1) s (c :: n :: r) = ((take s c.toNat []).1, if 0 < (take s c.toNat []).2 then (take s c.toNat []).2 else 0) := if_pos h
theorem eachM_3 {σ : Type} (take : σ → Nat → List UInt8 → σ × Int) (s : σ) (c n : UInt8) (r : List UInt8) (k : Nat) (h : ¬ r.length < n.toNat) (h2 : 0 ≤ (take s c.toNat (r.take n.toNat)).2) : eachM take (k + 1) s (c :: n :: r) = take s c.toNat (r.take n.toNat) := by
 unfold eachM
 rw [if_neg h, if_pos h2]
theorem eachM_4 {σ : Type} (take : σ → Nat → List UInt8 → σ × Int) (s : σ) (c n : UInt8) (r : List UInt8) (k : Nat) (h : ¬ r.length < n.toNat) (h2 : ¬ 0 ≤ (take s c.toNat (r.take n.toNat)).2) : eachM take (k + 1) s (c :: n :: r) = eachM take k (take s c.toNat (r.take n.toNat)).1 (r.drop n.toNat) := by
 conv => lhs; unfold eachM
 rw [if_neg h, if_neg h2]
theorem ge_1 (c : UInt8) : ge [c] = c.toNat := by simp [ge]
theorem each_t {σ : Type} (SP : σ → SL) (g : Nat) [FnOk Tryz.prog g] (fst : List Value) (take : σ → Nat → List UInt8 → σ × Int)
  (hT : ∀ (s : σ) (k : Nat) (A : Option Addr) (c : Nat) (d : List UInt8), k < 256 → d.length ≤ 255 → d.length ≤ c → Tri Tryz.prog g (fst ++ [.int .i64 k, .slice A d.length c]) [arr bE 1 A d] [SP s] (fun _ : Unit => True) (fun _ => .int .i64 (take s k d).2) (fun _ => [SP (take s k d).1]))
  (s : σ) (A : Option Addr) (c : Nat) (b : List UInt8) (hb : b.length ≤ 100000) :
  Tri Tryz.prog 141 [.slice A b.length c, .func (.func g) fst.toArray #[]] [arr bE 1 A b] [SP s] (fun _ : Unit => True) (fun _ => .int .i64 (eachM take b.length s b).2) (fun _ => [SP (eachM take b.length s b).1]) := by
 have hfrom := nfrom_t A b.length c b rfl (by omega)
 refine Tri_in Tryz.func141 rfl (fun w0 S0 => ?_)
 repeat' (first | refine SK ?_ | refine SD ?_ | (refine KC ?_; refine HO_callP rfl rfl rfl rfl (hfrom) findA (srcsA) rfl rfl soA ?_; intro ⟨rb, ⟨rA, rc⟩⟩ hr; dsimp only [rdP, pt, lca, lna]) | refine SB ?_ | fail)
 refine HC_loop (α := σ × List UInt8 × OA) (fun x => x.2.1.length ≤ x.2.2.2 ∧ x.2.1.length ≤ 100000 ∧ eachM take x.2.1.length x.1 x.2.1 = eachM take b.length s b) (fun x => [(5, pt rb), (1, .func (.func g) fst.toArray #[])])
  (fun x => rdP rb x.2.2.1 x.2.2.2 false x.2.1 ++ [SP x.1]) (fun x => x.2.1.length) rfl (s, b, (rA, rc)) ⟨hr, hb, rfl⟩ ⟨rfl, rfl, trivial⟩ rfl ?_
 rintro ⟨s1, r, ⟨rA, rc⟩⟩ ⟨h1, h2, h3⟩
 dsimp only at h1 h2 h3 ⊢
 dsimp only [rdP, pt, lca, lna]
 rcases r with _ | ⟨x, r⟩
 ·have h3 : (s1, (-1 : Int)) = eachM take b.length s b := h3
  rw [← h3]
  repeat' (first | refine SK ?_ | refine SD ?_ | (refine KC ?_; refine HO_callq rfl rfl rfl rfl (nleftF_t _ _ _ _) (fun _ _ => rfl) (srcsA) rfl rfl sqA ?_) | refine SB ?_ | fail)
  (refine SRt ?_; unfold RetQ; refine ⟨(), trivial, rfl, permA⟩)
 have hl0 : (0 : Int) < ((x :: r).length : Nat) := by simp only [List.length_cons]; omega
 have hx := x.toNat_lt
 have k1 := numL_t rb rA rc (x :: r) 1 (by decide) (by simp) h2 h1
 rw [show (x :: r).take 1 = [x] from rfl, show (x :: r).drop 1 = r from rfl, ge_1] at k1
 have hr2 : r.length ≤ 100000 := by simp only [List.length_cons] at h2; omega
 rcases r with _ | ⟨n, r⟩
 ·have h3 : eachM take 1 s1 [x] = eachM take b.length s b := h3
  rw [eachM_1] at h3
  rw [← h3]
  have k2 := fun A c hc => numS_t rb A c [] 1 (by decide) (by simp) hc
  have k3 := fun A c hc => bytesB_t rb A c [] 0 (by simp) hc
  have k4 := fun A c hc => hT s1 x.toNat A c [] hx (by simp) hc
  obtain ⟨⟨s2, q⟩, hq⟩ : ∃ y, take s1 x.toNat [] = y := ⟨_, rfl⟩
  rw [hq] at k4 ⊢
  dsimp only [List.length_nil, rdP, pt] at k1 k2 k3 k4 ⊢
  rcases Int.lt_trichotomy q 0 with h0 | h0 | h0
  ·rw [if_neg (by omega)]
   repeat' (first | refine SK ?_ | refine SD ?_ | (refine KC ?_; refine HO_callq rfl rfl rfl rfl (nleftF_t _ _ _ _) (fun _ _ => rfl) (srcsA) rfl rfl sqA ?_) | (refine KC ?_; refine HO_callq rfl rfl rfl rfl (nbad_t _ _ _ _ _) (fun _ _ => rfl) (srcsA) rfl rfl sqA ?_) | (refine KC ?_; refine HO_callP rfl rfl rfl rfl (k1) findA (trivial) rfl rfl soA ?_; intro ⟨uA, uc⟩ hu; dsimp only [lca, lna]) | (refine KC ?_; refine HO_callP rfl rfl rfl rfl (k2 uA uc hu) findA (trivial) rfl rfl soA ?_; intro ⟨vA, vc⟩ hv; dsimp only [lca, lna]) | (refine KC ?_; refine HO_callP rfl rfl rfl rfl (k3 vA vc hv) findA (trivial) rfl rfl soA ?_; intro ⟨⟨wA, wc⟩, ⟨zA, zc⟩⟩ hw; dsimp only [lca, lna]) | (refine KC ?_; refine HO_callBP (fst := fst) rfl rfl rfl rfl (k4 wA wc hw.1) findA (AllSrc.free (fun w => arr_nil _ w) trivial) rfl rfl soA ?_; intro y hy; dsimp only [lca, lna]) | refine SB ?_ | fail)
   (refine SRt ?_; unfold RetQ; refine ⟨(), trivial, rfl, permA⟩)
  ·rw [if_neg (by omega)]
   repeat' (first | refine SK ?_ | refine SD ?_ | (refine KC ?_; refine HO_callq rfl rfl rfl rfl (nleftF_t _ _ _ _) (fun _ _ => rfl) (srcsA) rfl rfl sqA ?_) | (refine KC ?_; refine HO_callq rfl rfl rfl rfl (nbad_t _ _ _ _ _) (fun _ _ => rfl) (srcsA) rfl rfl sqA ?_) | (refine KC ?_; refine HO_callP rfl rfl rfl rfl (k1) findA (trivial) rfl rfl soA ?_; intro ⟨uA, uc⟩ hu; dsimp only [lca, lna]) | (refine KC ?_; refine HO_callP rfl rfl rfl rfl (k2 uA uc hu) findA (trivial) rfl rfl soA ?_; intro ⟨vA, vc⟩ hv; dsimp only [lca, lna]) | (refine KC ?_; refine HO_callP rfl rfl rfl rfl (k3 vA vc hv) findA (trivial) rfl rfl soA ?_; intro ⟨⟨wA, wc⟩, ⟨zA, zc⟩⟩ hw; dsimp only [lca, lna]) | (refine KC ?_; refine HO_callBP (fst := fst) rfl rfl rfl rfl (k4 wA wc hw.1) findA (AllSrc.free (fun w => arr_nil _ w) trivial) rfl rfl soA ?_; intro y hy; dsimp only [lca, lna]) | refine SB ?_ | fail)
   (refine SRt ?_; unfold RetQ; refine ⟨(), trivial, rfl, permA⟩)
  ·rw [if_pos h0]
   repeat' (first | refine SK ?_ | refine SD ?_ | (refine KC ?_; refine HO_callq rfl rfl rfl rfl (nleftF_t _ _ _ _) (fun _ _ => rfl) (srcsA) rfl rfl sqA ?_) | (refine KC ?_; refine HO_callq rfl rfl rfl rfl (nbad_t _ _ _ _ _) (fun _ _ => rfl) (srcsA) rfl rfl sqA ?_) | (refine KC ?_; refine HO_callP rfl rfl rfl rfl (k1) findA (trivial) rfl rfl soA ?_; intro ⟨uA, uc⟩ hu; dsimp only [lca, lna]) | (refine KC ?_; refine HO_callP rfl rfl rfl rfl (k2 uA uc hu) findA (trivial) rfl rfl soA ?_; intro ⟨vA, vc⟩ hv; dsimp only [lca, lna]) | (refine KC ?_; refine HO_callP rfl rfl rfl rfl (k3 vA vc hv) findA (trivial) rfl rfl soA ?_; intro ⟨⟨wA, wc⟩, ⟨zA, zc⟩⟩ hw; dsimp only [lca, lna]) | (refine KC ?_; refine HO_callBP (fst := fst) rfl rfl rfl rfl (k4 wA wc hw.1) findA (AllSrc.free (fun w => arr_nil _ w) trivial) rfl rfl soA ?_; intro y hy; dsimp only [lca, lna]) | refine SB ?_ | fail)
   (refine SRt ?_; unfold RetQ; refine ⟨(), trivial, rfl, permA⟩)
 have hn := n.toNat_lt
 have k2 := fun A c hc => numL_t rb A c (n :: r) 1 (by decide) (by simp) hr2 hc
 rw [show (n :: r).take 1 = [n] from rfl, show (n :: r).drop 1 = r from rfl, ge_1] at k2
 have hr3 : r.length ≤ 100000 := by simp only [List.length_cons] at hr2; omega
 by_cases hlen : r.length < n.toNat
 ·have h3 : eachM take ((n :: r).length + 1) s1 (x :: n :: r) = eachM take b.length s b := h3
  rw [eachM_2 take s1 x n r _ hlen] at h3
  rw [← h3]
  have k3 := fun A c hc => bytesS_t rb A c r n.toNat hlen hr3 hc
  have k4 := fun A c hc => hT s1 x.toNat A c [] hx (by simp) hc
  obtain ⟨⟨s2, q⟩, hq⟩ : ∃ y, take s1 x.toNat [] = y := ⟨_, rfl⟩
  rw [hq] at k4 ⊢
  dsimp only [List.length_nil, rdP, pt] at k1 k2 k3 k4 ⊢
  rcases Int.lt_trichotomy q 0 with h0 | h0 | h0
  ·rw [if_neg (by omega)]
   repeat' (first | refine SK ?_ | refine SD ?_ | (refine KC ?_; refine HO_callq rfl rfl rfl rfl (nleftF_t _ _ _ _) (fun _ _ => rfl) (srcsA) rfl rfl sqA ?_) | (refine KC ?_; refine HO_callq rfl rfl rfl rfl (nbad_t _ _ _ _ _) (fun _ _ => rfl) (srcsA) rfl rfl sqA ?_) | (refine KC ?_; refine HO_callP rfl rfl rfl rfl (k1) findA (trivial) rfl rfl soA ?_; intro ⟨uA, uc⟩ hu; dsimp only [lca, lna]) | (refine KC ?_; refine HO_callP rfl rfl rfl rfl (k2 uA uc hu) findA (trivial) rfl rfl soA ?_; intro ⟨vA, vc⟩ hv; dsimp only [lca, lna]) | (refine KC ?_; refine HO_callP rfl rfl rfl rfl (k3 vA vc hv) findA (trivial) rfl rfl soA ?_; intro ⟨⟨wA, wc⟩, ⟨zA, zc⟩⟩ hw; dsimp only [lca, lna]) | (refine KC ?_; refine HO_callBP (fst := fst) rfl rfl rfl rfl (k4 wA wc hw.1) findA (AllSrc.free (fun w => arr_nil _ w) trivial) rfl rfl soA ?_; intro y hy; dsimp only [lca, lna]) | refine SB ?_ | fail)
   (refine SRt ?_; unfold RetQ; refine ⟨(), trivial, rfl, permA⟩)
  ·rw [if_neg (by omega)]
   repeat' (first | refine SK ?_ | refine SD ?_ | (refine KC ?_; refine HO_callq rfl rfl rfl rfl (nleftF_t _ _ _ _) (fun _ _ => rfl) (srcsA) rfl rfl sqA ?_) | (refine KC ?_; refine HO_callq rfl rfl rfl rfl (nbad_t _ _ _ _ _) (fun _ _ => rfl) (srcsA) rfl rfl sqA ?_) | (refine KC ?_; refine HO_callP rfl rfl rfl rfl (k1) findA (trivial) rfl rfl soA ?_; intro ⟨uA, uc⟩ hu; dsimp only [lca, lna]) | (refine KC ?_; refine HO_callP rfl rfl rfl rfl (k2 uA uc hu) findA (trivial) rfl rfl soA ?_; intro ⟨vA, vc⟩ hv; dsimp only [lca, lna]) | (refine KC ?_; refine HO_callP rfl rfl rfl rfl (k3 vA vc hv) findA (trivial) rfl rfl soA ?_; intro ⟨⟨wA, wc⟩, ⟨zA, zc⟩⟩ hw; dsimp only [lca, lna]) | (refine KC ?_; refine HO_callBP (fst := fst) rfl rfl rfl rfl (k4 wA wc hw.1) findA (AllSrc.free (fun w => arr_nil _ w) trivial) rfl rfl soA ?_; intro y hy; dsimp only [lca, lna]) | refine SB ?_ | fail)
   (refine SRt ?_; unfold RetQ; refine ⟨(), trivial, rfl, permA⟩)
  ·rw [if_pos h0]
   repeat' (first | refine SK ?_ | refine SD ?_ | (refine KC ?_; refine HO_callq rfl rfl rfl rfl (nleftF_t _ _ _ _) (fun _ _ => rfl) (srcsA) rfl rfl sqA ?_) | (refine KC ?_; refine HO_callq rfl rfl rfl rfl (nbad_t _ _ _ _ _) (fun _ _ => rfl) (srcsA) rfl rfl sqA ?_) | (refine KC ?_; refine HO_callP rfl rfl rfl rfl (k1) findA (trivial) rfl rfl soA ?_; intro ⟨uA, uc⟩ hu; dsimp only [lca, lna]) | (refine KC ?_; refine HO_callP rfl rfl rfl rfl (k2 uA uc hu) findA (trivial) rfl rfl soA ?_; intro ⟨vA, vc⟩ hv; dsimp only [lca, lna]) | (refine KC ?_; refine HO_callP rfl rfl rfl rfl (k3 vA vc hv) findA (trivial) rfl rfl soA ?_; intro ⟨⟨wA, wc⟩, ⟨zA, zc⟩⟩ hw; dsimp only [lca, lna]) | (refine KC ?_; refine HO_callBP (fst := fst) rfl rfl rfl rfl (k4 wA wc hw.1) findA (AllSrc.free (fun w => arr_nil _ w) trivial) rfl rfl soA ?_; intro y hy; dsimp only [lca, lna]) | refine SB ?_ | fail)
   (refine SRt ?_; unfold RetQ; refine ⟨(), trivial, rfl, permA⟩)
 have h3 : eachM take ((n :: r).length + 1) s1 (x :: n :: r) = eachM take b.length s b := h3
 have hle : n.toNat ≤ r.length := by omega
 have k3 := fun A c hc => bytesL_t rb A c r n.toNat hle hr3 hc
 have k4 := fun A c hc => hT s1 x.toNat A c (r.take n.toNat) hx (by rw [List.length_take]; omega) hc
 by_cases h0 : 0 ≤ (take s1 x.toNat (r.take n.toNat)).2
 ·rw [eachM_3 take s1 x n r _ hlen h0] at h3
  rw [← h3]
  obtain ⟨⟨s2, q⟩, hq⟩ : ∃ y, take s1 x.toNat (r.take n.toNat) = y := ⟨_, rfl⟩
  rw [hq] at k4 h0 ⊢
  dsimp only [rdP, pt] at k1 k2 k3 k4 h0 ⊢
  rcases Int.lt_trichotomy q 0 with h00 | h00 | h00
  ·omega
  ·repeat' (first | refine SK ?_ | refine SD ?_ | (refine KC ?_; refine HO_callq rfl rfl rfl rfl (nleftF_t _ _ _ _) (fun _ _ => rfl) (srcsA) rfl rfl sqA ?_) | (refine KC ?_; refine HO_callq rfl rfl rfl rfl (nbad_t _ _ _ _ _) (fun _ _ => rfl) (srcsA) rfl rfl sqA ?_) | (refine KC ?_; refine HO_callP rfl rfl rfl rfl (k1) findA (trivial) rfl rfl soA ?_; intro ⟨uA, uc⟩ hu; dsimp only [lca, lna]) | (refine KC ?_; refine HO_callP rfl rfl rfl rfl (k2 uA uc hu) findA (trivial) rfl rfl soA ?_; intro ⟨vA, vc⟩ hv; dsimp only [lca, lna]) | (refine KC ?_; refine HO_callP rfl rfl rfl rfl (k3 vA vc hv) findA (trivial) rfl rfl soA ?_; intro ⟨⟨wA, wc⟩, ⟨zA, zc⟩⟩ hw; dsimp only [lca, lna]) | (refine KC ?_; refine HO_callBP (fst := fst) rfl rfl rfl rfl (k4 wA wc hw.1) findA (srcsA) rfl rfl soA ?_; intro y hy; dsimp only [lca, lna]) | refine SB ?_ | fail)
   (refine SRt ?_; unfold RetQ; refine ⟨(), trivial, rfl, permA⟩)
  ·repeat' (first | refine SK ?_ | refine SD ?_ | (refine KC ?_; refine HO_callq rfl rfl rfl rfl (nleftF_t _ _ _ _) (fun _ _ => rfl) (srcsA) rfl rfl sqA ?_) | (refine KC ?_; refine HO_callq rfl rfl rfl rfl (nbad_t _ _ _ _ _) (fun _ _ => rfl) (srcsA) rfl rfl sqA ?_) | (refine KC ?_; refine HO_callP rfl rfl rfl rfl (k1) findA (trivial) rfl rfl soA ?_; intro ⟨uA, uc⟩ hu; dsimp only [lca, lna]) | (refine KC ?_; refine HO_callP rfl rfl rfl rfl (k2 uA uc hu) findA (trivial) rfl rfl soA ?_; intro ⟨vA, vc⟩ hv; dsimp only [lca, lna]) | (refine KC ?_; refine HO_callP rfl rfl rfl rfl (k3 vA vc hv) findA (trivial) rfl rfl soA ?_; intro ⟨⟨wA, wc⟩, ⟨zA, zc⟩⟩ hw; dsimp only [lca, lna]) | (refine KC ?_; refine HO_callBP (fst := fst) rfl rfl rfl rfl (k4 wA wc hw.1) findA (srcsA) rfl rfl soA ?_; intro y hy; dsimp only [lca, lna]) | refine SB ?_ | fail)
   (refine SRt ?_; unfold RetQ; refine ⟨(), trivial, rfl, permA⟩)
 ·rw [eachM_4 take s1 x n r _ hlen h0, eachM_fuel take _ (r.drop n.toNat).length _ _ (by rw [List.length_drop, List.length_cons]; omega) (Nat.le_refl _)] at h3
  obtain ⟨⟨s2, q⟩, hq⟩ : ∃ y, take s1 x.toNat (r.take n.toNat) = y := ⟨_, rfl⟩
  rw [hq] at k4 h0 h3
  dsimp only [rdP, pt] at k1 k2 k3 k4 h0 ⊢
  repeat' (first | refine SK ?_ | refine SD ?_ | (refine KC ?_; refine HO_callq rfl rfl rfl rfl (nleftF_t _ _ _ _) (fun _ _ => rfl) (srcsA) rfl rfl sqA ?_) | (refine KC ?_; refine HO_callq rfl rfl rfl rfl (nbad_t _ _ _ _ _) (fun _ _ => rfl) (srcsA) rfl rfl sqA ?_) | (refine KC ?_; refine HO_callP rfl rfl rfl rfl (k1) findA (trivial) rfl rfl soA ?_; intro ⟨uA, uc⟩ hu; dsimp only [lca, lna]) | (refine KC ?_; refine HO_callP rfl rfl rfl rfl (k2 uA uc hu) findA (trivial) rfl rfl soA ?_; intro ⟨vA, vc⟩ hv; dsimp only [lca, lna]) | (refine KC ?_; refine HO_callP rfl rfl rfl rfl (k3 vA vc hv) findA (trivial) rfl rfl soA ?_; intro ⟨⟨wA, wc⟩, ⟨zA, zc⟩⟩ hw; dsimp only [lca, lna]) | (refine KC ?_; refine HO_callBP (fst := fst) rfl rfl rfl rfl (k4 wA wc hw.1) findA (srcsA) rfl rfl soA ?_; intro y hy; dsimp only [lca, lna]) | refine SB ?_ | fail)
  refine HX_keeps (rw' := rdP rb zA zc false (r.drop n.toNat) ++ [SP s2]) permA ?_
  exact HX_at (s2, r.drop n.toNat, (zA, zc)) ⟨⟨hw.2, by rw [List.length_drop]; omega, h3⟩, by simp only [List.length_cons, List.length_drop]; omega⟩ ⟨rfl, rfl, trivial⟩ rfl
end Go.Proofs.YteeogabkkblkgaaGreatDoor
