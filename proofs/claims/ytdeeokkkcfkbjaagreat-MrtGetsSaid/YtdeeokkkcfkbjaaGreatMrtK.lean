/- mrt's reading: a record. -/
import Derived.Test.YtdeeokkkcfkbjaaGreatMrtV
namespace Go.Proofs.YtdeeokkkcfkbjaaGreat
set_option linter.unusedVariables false
set_option linter.unusedSimpArgs false
open Go.RowKit
attribute [local irreducible] HC HX HO Tri eP adr
attribute [local irreducible] routeM routesM peersM

/-- a call of a method value -/
theorem HO_callB {m : Md} {P : Program} {N : Nat} {w0 : World} {S0 : Foot} {ops : List Oper} {i : Nat} {lq : List Nat} {env : Env} {ro rw : List SL} {K : Act → World → Prop} {ty : TypeId} {pos : String} {aft : Array Edge} {g : Option (Nat × Bool)}
    {f : Operand} {args : List Operand} {tys : Array TypeId} {d : Nat} {vs fst cap : List Value} {gn : Nat} [hf : FnOk P gn] {roC rwC rest : List SL} {α : Type} {φ : α → Prop} {val : α → Value} {es : α → List SL}
    (ho : ops[i]? = some ⟨some d, .call { callee := .value f, args := args.toArray, argTypes := tys }, ty, pos, aft, g⟩)
    (hvf : Env.ev env f = some (.func (.func gn) fst.toArray cap.toArray)) (hcap : cap = []) (hvs : evL env args = some vs)
    (hT : Tri P gn (fst ++ vs) roC rwC φ val es) (hrw : rw = rwC ++ rest) (hro : AllSrc (ro ++ rest) roC)
    (hw : wantE ops env g = some true) (hN : Nat.blt d N = true) (hs : soleB m ops i lq = true)
    (h : ∀ x, φ x → HO (nmM m) P N w0 S0 ops lq ((d, val x) :: env) ro (es x ++ rest) K) : HO m P N w0 S0 ops (i :: lq) env ro rw K := by
  subst hrw hcap
  refine HO_do (φ := φ) (val := val) (rw' := fun x => es x ++ rest) ho hw hs hN (fun w1 S1 a S w n ha hf' hn => ?_) h
  have hfn := hf.h
  unfold fnB at hfn
  have henter : (execOp a.eval ⟨some d, .call { callee := .value f, args := args.toArray, argTypes := tys }, ty, pos, aft, g⟩).run P w = .ok (.enter gn (fst ++ vs).toArray) w := by
    cases hp : P.funcs[gn]? with
    | none => simp [hp] at hfn
    | some fn =>
      simp only [hp, Bool.and_eq_true, bne_iff_ne] at hfn
      have hm := evL_spec ha hvs
      have hb : fn.body.isNone = false := by cases hbb : fn.body <;> simp [hbb] at hfn ⊢
      have hn : (fn.name == "runtime.NumGoroutine") = false := by simpa using hfn.2
      simp only [execOp, resolve, ha.ev hvf, Deferred.ofValue, Sem.run_bind, Sem.run_pure, Result.andThen_ok, invoke, callFunc, run_program, hp, hn, hb, Bool.false_eq_true, if_false]
      simp [← hm]
  unfold Oper.wp
  rw [henter, Oper.upon_enter]
  obtain ⟨A, hA, hAS, hAl, hr1, hr2, hk⟩ := hf'.step
  have hfit : Fits w A roC rwC A w := ⟨Fr.refl _ _, hAl, fun b hb => .inl hb, hA, fun e he => by
    rcases hro.get e he with ⟨e0, h0, hent⟩ | hfree
    case inr => exact ⟨fun _ => False, fun _ h => h.elim, hfree w⟩
    rcases List.mem_append.1 h0 with h0 | h0
    · obtain ⟨F, hF, hp⟩ := hr1 e0 h0
      exact ⟨F, hF, hent _ _ hp⟩
    · obtain ⟨F, hF, hp⟩ := hr2 e0 h0
      exact ⟨F, hF, hent _ _ hp⟩⟩
  unfold Tri at hT
  refine (hT w A hfit).mono fun e w' ⟨x, T, hx, he, hfx⟩ => ?_
  subst he
  obtain ⟨T', hT'⟩ := hk w' T (es x) hfx.fr hfx.lt hfx.sub hfx.star
  exact hn x T' w' hx hT'
/-- a reading, as plain data -/
structure MSt where
  t : Int
  id : Nat
  peers : List PeS
  routes : List RtQ
  n : Int
def RdS.m (x : RdS) : MSt := ⟨x.t, x.id, x.peers, x.routes.map RtS.q, x.n⟩
def recM (first : Bool) (x : MSt) (s : RS) : Option (MSt × RS) :=
  let s1 := rS 4 s
  let s2 := rS 2 s1
  let s3 := rS 2 s2
  let s4 := rS 4 s3
  let s5 := rS (rV 4 s3) s4
  let body := rB (rV 4 s3) s4
  if s5.1 = true ∨ rV 2 s1 ≠ 13 ∨ (first = false ∧ (rV 4 s : Int) ≠ x.t) then none else
  if first = true then
    if rV 2 s2 = 1 then match peersM x.peers (false, body) with
      | none => none
      | some (id, ps, s') => if s'.1 = false ∧ s'.2 = [] then some (⟨rV 4 s, id, ps, x.routes, x.n⟩, s5) else none
    else none
  else
    if rV 2 s2 = 8 then match routesM (rV 4 s) x.n x.routes (false, body) with
      | none => none
      | some (qs, s') => if s'.1 = false ∧ s'.2 = [] then some (⟨rV 4 s, x.id, x.peers, qs, x.n + 1⟩, s5) else none
    else none
theorem peersM_len {acc : List PeS} {s : RS} {id : Nat} {ps : List PeS} {s' : RS} (h : peersM acc s = some (id, ps, s')) : ps.length ≤ acc.length + 16 ∧ id < 4294967296 ∧ ((∀ p ∈ acc, p.id < 4294967296 ∧ p.ad < 4294967296) → ∀ p ∈ ps, p.id < 4294967296 ∧ p.ad < 4294967296) := by
  unfold peersM at h
  split at h
  · cases h
  · rename_i hc
    split at h
    · cases h
    · rename_i hp
      injection h with h
      injection h with h1 h
      injection h with h2 h3
      subst h1 h2
      obtain ⟨w1, w2, w3⟩ := peL_len _ _ _ _ _ hp
      exact ⟨by omega, rV_lt 4 _, w3⟩
set_option maxHeartbeats 64000000 in
set_option maxRecDepth 100000 in
theorem rrec1_t (b rb : Nat) (x : RdS) (A : Option Addr) (c : Nat) (s : RS) (hb : s.2.length ≤ 900000000) (hc : s.2.length ≤ c) (hx : x.routes.length ≤ 16384) (hp : x.peers.length ≤ 1000) (hn : 0 ≤ x.n ∧ x.n ≤ 1000000000) :
    Tri Tryz.prog 35 [pt b, pt rb, .bool true] [] (rdP rb A c s.1 s.2 ++ xP b x)
      (fun y : RdY => y.s.2.length ≤ y.c ∧ ∀ m s', recM true ⟨x.t, x.id, x.peers, x.routes.map RtS.q, x.n⟩ s = some (m, s') → y.s = s' ∧ y.x.m = m ∧ y.x.routes.length ≤ 16384)
      (fun _ => .bool (recM true ⟨x.t, x.id, x.peers, x.routes.map RtS.q, x.n⟩ s).isSome) (rdQ b rb) := by
  have a1 := rS_len 4 s
  have a2 := rS_len 2 (rS 4 s)
  have a3 := rS_len 2 (rS 2 (rS 4 s))
  have a4 := rS_len 4 (rS 2 (rS 2 (rS 4 s)))
  have v4 := rV_lt 4 (rS 2 (rS 2 (rS 4 s)))
  have v1 := rV_lt 4 s
  have k1 := numG_t rb A c s 4 (by decide) (by omega) hc
  have k2 := fun A c hc => numG_t rb A c (rS 4 s) 2 (by decide) (by omega) hc
  have k3 := fun A c hc => numG_t rb A c (rS 2 (rS 4 s)) 2 (by decide) (by omega) hc
  have k4 := fun A c hc => numG_t rb A c (rS 2 (rS 2 (rS 4 s))) 4 (by decide) (by omega) hc
  unfold recM
  simp only
  obtain ⟨s1, e1⟩ : ∃ q, rS 4 s = q := ⟨_, rfl⟩
  obtain ⟨tm, f1⟩ : ∃ q, rV 4 s = q := ⟨_, rfl⟩
  simp only [e1, f1] at a1 a2 a3 a4 v1 v4 k1 k2 k3 k4 ⊢
  obtain ⟨s2, e2⟩ : ∃ q, rS 2 s1 = q := ⟨_, rfl⟩
  obtain ⟨kd, f2⟩ : ∃ q, rV 2 s1 = q := ⟨_, rfl⟩
  simp only [e2, f2] at a2 a3 a4 v4 k2 k3 k4 ⊢
  obtain ⟨s3, e3⟩ : ∃ q, rS 2 s2 = q := ⟨_, rfl⟩
  obtain ⟨sb, f3⟩ : ∃ q, rV 2 s2 = q := ⟨_, rfl⟩
  simp only [e3, f3] at a3 a4 v4 k3 k4 ⊢
  obtain ⟨s4, e4⟩ : ∃ q, rS 4 s3 = q := ⟨_, rfl⟩
  obtain ⟨ln, f4⟩ : ∃ q, rV 4 s3 = q := ⟨_, rfl⟩
  simp only [e4, f4] at a4 v4 k4 ⊢
  have a5 := rS_len ln s4
  have hbl := rB_len ln s4
  have k5 := fun A c hc => bytesG_t rb A c s4 ln (by omega) hc
  obtain ⟨s5, e5⟩ : ∃ q, rS ln s4 = q := ⟨_, rfl⟩
  obtain ⟨bd, f5⟩ : ∃ q, rB ln s4 = q := ⟨_, rfl⟩
  simp only [e5, f5] at a5 hbl k5 ⊢
  have hfrom := fun A c => nfrom_t A bd.length c bd rfl (by omega)
  obtain ⟨bad, l5⟩ := s5
  cases bad
  rotate_left
  · rw [if_pos (.inl rfl)]
    refine Tri_of (N := Tryz.f35.ntmps) (c := bodyOf Tryz.f35) Tryz.func35 rfl rfl rfl rfl (fun w0 S0 => ?_)
    dsimp only [pt, rdP, xP, List.cons_append, List.nil_append] at k1 k2 k3 k4 k5 ⊢
    repeat' (first | refine SW ?_ | refine SD ?_ | (refine HO_k 12 rfl ?_; refine HO_call rfl rfl rfl rfl (k1) rfl (trivial) rfl rfl soA ?_; intro ⟨x1, c1⟩ g1; dsimp only [List.cons_append, List.nil_append]) | (refine HO_k 12 rfl ?_; refine HO_call rfl rfl rfl rfl (k2 x1 c1 g1) rfl (trivial) rfl rfl soA ?_; intro ⟨x2, c2⟩ g2; dsimp only [List.cons_append, List.nil_append]) | (refine HO_k 12 rfl ?_; refine HO_call rfl rfl rfl rfl (k3 x2 c2 g2) rfl (trivial) rfl rfl soA ?_; intro ⟨x3, c3⟩ g3; dsimp only [List.cons_append, List.nil_append]) | (refine HO_k 12 rfl ?_; refine HO_call rfl rfl rfl rfl (k4 x3 c3 g3) rfl (trivial) rfl rfl soA ?_; intro ⟨x4, c4⟩ g4; dsimp only [List.cons_append, List.nil_append]) | (refine HO_k 12 rfl ?_; refine HO_call rfl rfl rfl rfl (k5 x4 c4 g4) rfl (trivial) rfl rfl soA ?_; intro ⟨⟨x5, c5⟩, ⟨x6, c6⟩⟩ g5; dsimp only [List.cons_append, List.nil_append]) | (refine HO_k 12 rfl ?_; refine HO_call rfl rfl rfl rfl (hfrom x5 c5) rfl (AllSrc.own 0 rfl rfl trivial) rfl rfl soA ?_; intro ⟨ob, ⟨oA, oc⟩⟩ g6; dsimp only [rdP, pt, List.cons_append, List.nil_append]) | (refine HO_k 12 rfl ?_; refine HO_callq rfl rfl rfl rfl (nbad_t rb x6 _ c6 _) (fun _ _ => rfl) (srcsA) rfl rfl sqA ?_) | exact HO_seg rfl rfl | refine S1 ?_ | (refine S2 ?_; intro _) | (refine S3 ?_; intro _ _) | (refine S4 ?_; intro _ _ _) | (refine HO_g 2 rfl ?_; (first | apply HO_and rfl rfl rfl rfl rfl rfl rfl rfl rfl | apply HO_or rfl rfl rfl rfl rfl rfl rfl rfl rfl)) | refine S5 ?_ | (intro hb; try replace hb := simB hb; try exact kill hb))
    ((first | apply HX_ret | apply HX_retn); (repeat (first | exact Res_nil | apply Res_tmp rfl | apply Res_ce rfl rfl rfl)); unfold RetQ; refine ⟨(⟨x, x6, c6, (true, l5)⟩ : RdY), ⟨g5.2, fun m s' h => (by cases h)⟩, rfl, permA⟩)
  by_cases q1 : kd = 13
  rotate_left
  · rw [if_pos (.inr (.inl q1))]
    refine Tri_of (N := Tryz.f35.ntmps) (c := bodyOf Tryz.f35) Tryz.func35 rfl rfl rfl rfl (fun w0 S0 => ?_)
    dsimp only [pt, rdP, xP, List.cons_append, List.nil_append] at k1 k2 k3 k4 k5 ⊢
    repeat' (first | refine SW ?_ | refine SD ?_ | (refine HO_k 12 rfl ?_; refine HO_call rfl rfl rfl rfl (k1) rfl (trivial) rfl rfl soA ?_; intro ⟨x1, c1⟩ g1; dsimp only [List.cons_append, List.nil_append]) | (refine HO_k 12 rfl ?_; refine HO_call rfl rfl rfl rfl (k2 x1 c1 g1) rfl (trivial) rfl rfl soA ?_; intro ⟨x2, c2⟩ g2; dsimp only [List.cons_append, List.nil_append]) | (refine HO_k 12 rfl ?_; refine HO_call rfl rfl rfl rfl (k3 x2 c2 g2) rfl (trivial) rfl rfl soA ?_; intro ⟨x3, c3⟩ g3; dsimp only [List.cons_append, List.nil_append]) | (refine HO_k 12 rfl ?_; refine HO_call rfl rfl rfl rfl (k4 x3 c3 g3) rfl (trivial) rfl rfl soA ?_; intro ⟨x4, c4⟩ g4; dsimp only [List.cons_append, List.nil_append]) | (refine HO_k 12 rfl ?_; refine HO_call rfl rfl rfl rfl (k5 x4 c4 g4) rfl (trivial) rfl rfl soA ?_; intro ⟨⟨x5, c5⟩, ⟨x6, c6⟩⟩ g5; dsimp only [List.cons_append, List.nil_append]) | (refine HO_k 12 rfl ?_; refine HO_call rfl rfl rfl rfl (hfrom x5 c5) rfl (AllSrc.own 0 rfl rfl trivial) rfl rfl soA ?_; intro ⟨ob, ⟨oA, oc⟩⟩ g6; dsimp only [rdP, pt, List.cons_append, List.nil_append]) | (refine HO_k 12 rfl ?_; refine HO_callq rfl rfl rfl rfl (nbad_t rb x6 _ c6 _) (fun _ _ => rfl) (srcsA) rfl rfl sqA ?_) | exact HO_seg rfl rfl | refine S1 ?_ | (refine S2 ?_; intro _) | (refine S3 ?_; intro _ _) | (refine S4 ?_; intro _ _ _) | (refine HO_g 2 rfl ?_; (first | apply HO_and rfl rfl rfl rfl rfl rfl rfl rfl rfl | apply HO_or rfl rfl rfl rfl rfl rfl rfl rfl rfl)) | refine S5 ?_ | (intro hb; try replace hb := simB hb; try exact kill hb))
    ((first | apply HX_ret | apply HX_retn); (repeat (first | exact Res_nil | apply Res_tmp rfl | apply Res_ce rfl rfl rfl)); unfold RetQ; refine ⟨(⟨x, x6, c6, (false, l5)⟩ : RdY), ⟨g5.2, fun m s' h => (by cases h)⟩, rfl, permA⟩)
  subst q1
  rw [if_neg (by intro h; rcases h with h | h | h; cases h; exact h rfl; cases h.1)]
  simp only [if_true]
  by_cases q3 : sb = 1
  rotate_left
  · rw [if_neg q3]
    refine Tri_of (N := Tryz.f35.ntmps) (c := bodyOf Tryz.f35) Tryz.func35 rfl rfl rfl rfl (fun w0 S0 => ?_)
    dsimp only [pt, rdP, xP, List.cons_append, List.nil_append] at k1 k2 k3 k4 k5 ⊢
    repeat' (first | refine SW ?_ | refine SD ?_ | (refine HO_k 12 rfl ?_; refine HO_call rfl rfl rfl rfl (k1) rfl (trivial) rfl rfl soA ?_; intro ⟨x1, c1⟩ g1; dsimp only [List.cons_append, List.nil_append]) | (refine HO_k 12 rfl ?_; refine HO_call rfl rfl rfl rfl (k2 x1 c1 g1) rfl (trivial) rfl rfl soA ?_; intro ⟨x2, c2⟩ g2; dsimp only [List.cons_append, List.nil_append]) | (refine HO_k 12 rfl ?_; refine HO_call rfl rfl rfl rfl (k3 x2 c2 g2) rfl (trivial) rfl rfl soA ?_; intro ⟨x3, c3⟩ g3; dsimp only [List.cons_append, List.nil_append]) | (refine HO_k 12 rfl ?_; refine HO_call rfl rfl rfl rfl (k4 x3 c3 g3) rfl (trivial) rfl rfl soA ?_; intro ⟨x4, c4⟩ g4; dsimp only [List.cons_append, List.nil_append]) | (refine HO_k 12 rfl ?_; refine HO_call rfl rfl rfl rfl (k5 x4 c4 g4) rfl (trivial) rfl rfl soA ?_; intro ⟨⟨x5, c5⟩, ⟨x6, c6⟩⟩ g5; dsimp only [List.cons_append, List.nil_append]) | (refine HO_k 12 rfl ?_; refine HO_call rfl rfl rfl rfl (hfrom x5 c5) rfl (AllSrc.own 0 rfl rfl trivial) rfl rfl soA ?_; intro ⟨ob, ⟨oA, oc⟩⟩ g6; dsimp only [rdP, pt, List.cons_append, List.nil_append]) | (refine HO_k 12 rfl ?_; refine HO_callq rfl rfl rfl rfl (nbad_t rb x6 _ c6 _) (fun _ _ => rfl) (srcsA) rfl rfl sqA ?_) | exact HO_seg rfl rfl | refine S1 ?_ | (refine S2 ?_; intro _) | (refine S3 ?_; intro _ _) | (refine S4 ?_; intro _ _ _) | (refine HO_g 2 rfl ?_; (first | apply HO_and rfl rfl rfl rfl rfl rfl rfl rfl rfl | apply HO_or rfl rfl rfl rfl rfl rfl rfl rfl rfl)) | refine S5 ?_ | (intro hb; try replace hb := simB hb; try exact kill hb))
    ((first | apply HX_ret | apply HX_retn); (repeat (first | exact Res_nil | apply Res_tmp rfl | apply Res_ce rfl rfl rfl)); unfold RetQ; refine ⟨(⟨{ x with t := tm }, x6, c6, (false, l5)⟩ : RdY), ⟨g5.2, fun m s' h => (by cases h)⟩, rfl, permA⟩)
  rw [if_pos q3]
  subst q3
  have hrd := fun ob oA oc ho => rpeers_t b ob { x with t := tm } oA oc (false, bd) (by simp only; omega) ho hp
  simp only at hrd
  cases hm : peersM x.peers (false, bd) with
  | none =>
    simp only [hm] at hrd ⊢
    refine Tri_of (N := Tryz.f35.ntmps) (c := bodyOf Tryz.f35) Tryz.func35 rfl rfl rfl rfl (fun w0 S0 => ?_)
    dsimp only [pt, rdP, xP, List.cons_append, List.nil_append] at k1 k2 k3 k4 k5 ⊢
    repeat' (first | refine SW ?_ | refine SD ?_ | (refine HO_k 12 rfl ?_; refine HO_call rfl rfl rfl rfl (k1) rfl (trivial) rfl rfl soA ?_; intro ⟨x1, c1⟩ g1; dsimp only [List.cons_append, List.nil_append]) | (refine HO_k 12 rfl ?_; refine HO_call rfl rfl rfl rfl (k2 x1 c1 g1) rfl (trivial) rfl rfl soA ?_; intro ⟨x2, c2⟩ g2; dsimp only [List.cons_append, List.nil_append]) | (refine HO_k 12 rfl ?_; refine HO_call rfl rfl rfl rfl (k3 x2 c2 g2) rfl (trivial) rfl rfl soA ?_; intro ⟨x3, c3⟩ g3; dsimp only [List.cons_append, List.nil_append]) | (refine HO_k 12 rfl ?_; refine HO_call rfl rfl rfl rfl (k4 x3 c3 g3) rfl (trivial) rfl rfl soA ?_; intro ⟨x4, c4⟩ g4; dsimp only [List.cons_append, List.nil_append]) | (refine HO_k 12 rfl ?_; refine HO_call rfl rfl rfl rfl (k5 x4 c4 g4) rfl (trivial) rfl rfl soA ?_; intro ⟨⟨x5, c5⟩, ⟨x6, c6⟩⟩ g5; dsimp only [List.cons_append, List.nil_append]) | (refine HO_k 12 rfl ?_; refine HO_call rfl rfl rfl rfl (hfrom x5 c5) rfl (AllSrc.own 0 rfl rfl trivial) rfl rfl soA ?_; intro ⟨ob, ⟨oA, oc⟩⟩ g6; dsimp only [rdP, pt, List.cons_append, List.nil_append]) | (refine HO_k 12 rfl ?_; refine HO_callq rfl rfl rfl rfl (nbad_t rb x6 _ c6 _) (fun _ _ => rfl) (srcsA) rfl rfl sqA ?_) | (refine HO_k 12 rfl ?_; refine HO_keeps (rw' := rdP ob oA oc false bd ++ (xP b { x with t := tm } ++ [cel rb TR [.slice x6 l5.length c6, .bool false], arr bE 1 x6 l5])) permA ?_; refine HO_callB (fst := [pt b]) rfl rfl rfl rfl (hrd ob oA oc g6) rfl trivial rfl rfl soA ?_; intro ⟨y, yA, yc, ys⟩ hy; dsimp only [rdQ, rdP, xP, pt, List.cons_append, List.nil_append]) | exact HO_seg rfl rfl | refine S1 ?_ | (refine S2 ?_; intro _) | (refine S3 ?_; intro _ _) | (refine S4 ?_; intro _ _ _) | (refine HO_g 2 rfl ?_; (first | apply HO_and rfl rfl rfl rfl rfl rfl rfl rfl rfl | apply HO_or rfl rfl rfl rfl rfl rfl rfl rfl rfl)) | refine S5 ?_ | (intro hb; try replace hb := simB hb; try exact kill hb))
    ((first | apply HX_ret | apply HX_retn); (repeat (first | exact Res_nil | apply Res_tmp rfl | apply Res_ce rfl rfl rfl)); unfold RetQ; refine ⟨(⟨y, x6, c6, (false, l5)⟩ : RdY), ⟨g5.2, fun m s' h => (by cases h)⟩, rfl, permA⟩)
  | some r =>
    obtain ⟨id, ps, bd2, l2⟩ := r
    simp only [hm] at hrd ⊢
    obtain ⟨hpl, -, -⟩ := peersM_len hm
    cases bd2
    rotate_left
    · rw [if_neg (by intro h; cases h.1)]
      refine Tri_of (N := Tryz.f35.ntmps) (c := bodyOf Tryz.f35) Tryz.func35 rfl rfl rfl rfl (fun w0 S0 => ?_)
      dsimp only [pt, rdP, xP, List.cons_append, List.nil_append] at k1 k2 k3 k4 k5 ⊢
      repeat' (first | refine SW ?_ | refine SD ?_ | (refine HO_k 12 rfl ?_; refine HO_call rfl rfl rfl rfl (k1) rfl (trivial) rfl rfl soA ?_; intro ⟨x1, c1⟩ g1; dsimp only [List.cons_append, List.nil_append]) | (refine HO_k 12 rfl ?_; refine HO_call rfl rfl rfl rfl (k2 x1 c1 g1) rfl (trivial) rfl rfl soA ?_; intro ⟨x2, c2⟩ g2; dsimp only [List.cons_append, List.nil_append]) | (refine HO_k 12 rfl ?_; refine HO_call rfl rfl rfl rfl (k3 x2 c2 g2) rfl (trivial) rfl rfl soA ?_; intro ⟨x3, c3⟩ g3; dsimp only [List.cons_append, List.nil_append]) | (refine HO_k 12 rfl ?_; refine HO_call rfl rfl rfl rfl (k4 x3 c3 g3) rfl (trivial) rfl rfl soA ?_; intro ⟨x4, c4⟩ g4; dsimp only [List.cons_append, List.nil_append]) | (refine HO_k 12 rfl ?_; refine HO_call rfl rfl rfl rfl (k5 x4 c4 g4) rfl (trivial) rfl rfl soA ?_; intro ⟨⟨x5, c5⟩, ⟨x6, c6⟩⟩ g5; dsimp only [List.cons_append, List.nil_append]) | (refine HO_k 12 rfl ?_; refine HO_call rfl rfl rfl rfl (hfrom x5 c5) rfl (AllSrc.own 0 rfl rfl trivial) rfl rfl soA ?_; intro ⟨ob, ⟨oA, oc⟩⟩ g6; dsimp only [rdP, pt, List.cons_append, List.nil_append]) | (refine HO_k 12 rfl ?_; refine HO_callq rfl rfl rfl rfl (nbad_t rb x6 _ c6 _) (fun _ _ => rfl) (srcsA) rfl rfl sqA ?_) | (refine HO_k 12 rfl ?_; refine HO_keeps (rw' := rdP ob oA oc false bd ++ (xP b { x with t := tm } ++ [cel rb TR [.slice x6 l5.length c6, .bool false], arr bE 1 x6 l5])) permA ?_; refine HO_callB (fst := [pt b]) rfl rfl rfl rfl (hrd ob oA oc g6) rfl trivial rfl rfl soA ?_; intro ⟨⟨yt, yi, ypA, ypc, yp, yrA, yrc, yr, yn⟩, yA, yc, ys⟩ hy; obtain ⟨z1, z2, z3, z4, z5, z6, z7, z8⟩ := hy.2 _ _ _ rfl; dsimp only at z1 z2 z3 z4 z5 z6 z7 z8; subst z1 z2 z3 z4 z5 z6 z7 z8; dsimp only [rdQ, rdP, xP, pt, List.cons_append, List.nil_append]) | (refine HO_k 12 rfl ?_; refine HO_callq rfl rfl rfl rfl (nbad_t ob _ _ _ _) (fun _ _ => rfl) (srcsA) rfl rfl sqA ?_) | (refine HO_k 12 rfl ?_; refine HO_callq rfl rfl rfl rfl (nleftF_t ob _ _ _) (fun _ _ => rfl) (srcsA) rfl rfl sqA ?_) | exact HO_seg rfl rfl | refine S1 ?_ | (refine S2 ?_; intro _) | (refine S3 ?_; intro _ _) | (refine S4 ?_; intro _ _ _) | (refine HO_g 2 rfl ?_; (first | apply HO_and rfl rfl rfl rfl rfl rfl rfl rfl rfl | apply HO_or rfl rfl rfl rfl rfl rfl rfl rfl rfl)) | refine S5 ?_ | (intro hb; try replace hb := simB hb; try exact kill hb))
      ((first | apply HX_ret | apply HX_retn); (repeat (first | exact Res_nil | apply Res_tmp rfl | apply Res_ce rfl rfl rfl)); unfold RetQ; refine ⟨(⟨⟨tm, yi, ypA, ypc, yp, x.rA, x.rc, x.routes, x.n⟩, x6, c6, (false, l5)⟩ : RdY), ⟨g5.2, fun m s' h => (by cases h)⟩, rfl, permA⟩)
    cases l2 with
    | cons w l2 =>
      rw [if_neg (by intro h; cases h.2)]
      have hne : ¬ ((((w :: l2).length : Nat) : Int) = 0) := by simp only [List.length_cons]; omega
      refine Tri_of (N := Tryz.f35.ntmps) (c := bodyOf Tryz.f35) Tryz.func35 rfl rfl rfl rfl (fun w0 S0 => ?_)
      dsimp only [pt, rdP, xP, List.cons_append, List.nil_append] at k1 k2 k3 k4 k5 ⊢
      repeat' (first | refine SW ?_ | refine SD ?_ | (refine HO_k 12 rfl ?_; refine HO_call rfl rfl rfl rfl (k1) rfl (trivial) rfl rfl soA ?_; intro ⟨x1, c1⟩ g1; dsimp only [List.cons_append, List.nil_append]) | (refine HO_k 12 rfl ?_; refine HO_call rfl rfl rfl rfl (k2 x1 c1 g1) rfl (trivial) rfl rfl soA ?_; intro ⟨x2, c2⟩ g2; dsimp only [List.cons_append, List.nil_append]) | (refine HO_k 12 rfl ?_; refine HO_call rfl rfl rfl rfl (k3 x2 c2 g2) rfl (trivial) rfl rfl soA ?_; intro ⟨x3, c3⟩ g3; dsimp only [List.cons_append, List.nil_append]) | (refine HO_k 12 rfl ?_; refine HO_call rfl rfl rfl rfl (k4 x3 c3 g3) rfl (trivial) rfl rfl soA ?_; intro ⟨x4, c4⟩ g4; dsimp only [List.cons_append, List.nil_append]) | (refine HO_k 12 rfl ?_; refine HO_call rfl rfl rfl rfl (k5 x4 c4 g4) rfl (trivial) rfl rfl soA ?_; intro ⟨⟨x5, c5⟩, ⟨x6, c6⟩⟩ g5; dsimp only [List.cons_append, List.nil_append]) | (refine HO_k 12 rfl ?_; refine HO_call rfl rfl rfl rfl (hfrom x5 c5) rfl (AllSrc.own 0 rfl rfl trivial) rfl rfl soA ?_; intro ⟨ob, ⟨oA, oc⟩⟩ g6; dsimp only [rdP, pt, List.cons_append, List.nil_append]) | (refine HO_k 12 rfl ?_; refine HO_callq rfl rfl rfl rfl (nbad_t rb x6 _ c6 _) (fun _ _ => rfl) (srcsA) rfl rfl sqA ?_) | (refine HO_k 12 rfl ?_; refine HO_keeps (rw' := rdP ob oA oc false bd ++ (xP b { x with t := tm } ++ [cel rb TR [.slice x6 l5.length c6, .bool false], arr bE 1 x6 l5])) permA ?_; refine HO_callB (fst := [pt b]) rfl rfl rfl rfl (hrd ob oA oc g6) rfl trivial rfl rfl soA ?_; intro ⟨⟨yt, yi, ypA, ypc, yp, yrA, yrc, yr, yn⟩, yA, yc, ys⟩ hy; obtain ⟨z1, z2, z3, z4, z5, z6, z7, z8⟩ := hy.2 _ _ _ rfl; dsimp only at z1 z2 z3 z4 z5 z6 z7 z8; subst z1 z2 z3 z4 z5 z6 z7 z8; dsimp only [rdQ, rdP, xP, pt, List.cons_append, List.nil_append]) | (refine HO_k 12 rfl ?_; refine HO_callq rfl rfl rfl rfl (nbad_t ob _ _ _ _) (fun _ _ => rfl) (srcsA) rfl rfl sqA ?_) | (refine HO_k 12 rfl ?_; refine HO_callq rfl rfl rfl rfl (nleftF_t ob _ _ _) (fun _ _ => rfl) (srcsA) rfl rfl sqA ?_) | exact HO_seg rfl rfl | refine S1 ?_ | (refine S2 ?_; intro _) | (refine S3 ?_; intro _ _) | (refine S4 ?_; intro _ _ _) | (refine HO_g 2 rfl ?_; (first | apply HO_and rfl rfl rfl rfl rfl rfl rfl rfl rfl | apply HO_or rfl rfl rfl rfl rfl rfl rfl rfl rfl)) | refine S5 ?_ | (intro hb; try replace hb := simB hb; try exact kill hb))
      ((first | apply HX_ret | apply HX_retn); (repeat (first | exact Res_nil | apply Res_tmp rfl | apply Res_ce rfl rfl rfl)); unfold RetQ; refine ⟨(⟨⟨tm, yi, ypA, ypc, yp, x.rA, x.rc, x.routes, x.n⟩, x6, c6, (false, l5)⟩ : RdY), ⟨g5.2, fun m s' h => (by cases h)⟩, rfl, permA⟩)
    | nil =>
      rw [if_pos ⟨rfl, rfl⟩]
      refine Tri_of (N := Tryz.f35.ntmps) (c := bodyOf Tryz.f35) Tryz.func35 rfl rfl rfl rfl (fun w0 S0 => ?_)
      dsimp only [pt, rdP, xP, List.cons_append, List.nil_append] at k1 k2 k3 k4 k5 ⊢
      repeat' (first | refine SW ?_ | refine SD ?_ | (refine HO_k 12 rfl ?_; refine HO_call rfl rfl rfl rfl (k1) rfl (trivial) rfl rfl soA ?_; intro ⟨x1, c1⟩ g1; dsimp only [List.cons_append, List.nil_append]) | (refine HO_k 12 rfl ?_; refine HO_call rfl rfl rfl rfl (k2 x1 c1 g1) rfl (trivial) rfl rfl soA ?_; intro ⟨x2, c2⟩ g2; dsimp only [List.cons_append, List.nil_append]) | (refine HO_k 12 rfl ?_; refine HO_call rfl rfl rfl rfl (k3 x2 c2 g2) rfl (trivial) rfl rfl soA ?_; intro ⟨x3, c3⟩ g3; dsimp only [List.cons_append, List.nil_append]) | (refine HO_k 12 rfl ?_; refine HO_call rfl rfl rfl rfl (k4 x3 c3 g3) rfl (trivial) rfl rfl soA ?_; intro ⟨x4, c4⟩ g4; dsimp only [List.cons_append, List.nil_append]) | (refine HO_k 12 rfl ?_; refine HO_call rfl rfl rfl rfl (k5 x4 c4 g4) rfl (trivial) rfl rfl soA ?_; intro ⟨⟨x5, c5⟩, ⟨x6, c6⟩⟩ g5; dsimp only [List.cons_append, List.nil_append]) | (refine HO_k 12 rfl ?_; refine HO_call rfl rfl rfl rfl (hfrom x5 c5) rfl (AllSrc.own 0 rfl rfl trivial) rfl rfl soA ?_; intro ⟨ob, ⟨oA, oc⟩⟩ g6; dsimp only [rdP, pt, List.cons_append, List.nil_append]) | (refine HO_k 12 rfl ?_; refine HO_callq rfl rfl rfl rfl (nbad_t rb x6 _ c6 _) (fun _ _ => rfl) (srcsA) rfl rfl sqA ?_) | (refine HO_k 12 rfl ?_; refine HO_keeps (rw' := rdP ob oA oc false bd ++ (xP b { x with t := tm } ++ [cel rb TR [.slice x6 l5.length c6, .bool false], arr bE 1 x6 l5])) permA ?_; refine HO_callB (fst := [pt b]) rfl rfl rfl rfl (hrd ob oA oc g6) rfl trivial rfl rfl soA ?_; intro ⟨⟨yt, yi, ypA, ypc, yp, yrA, yrc, yr, yn⟩, yA, yc, ys⟩ hy; obtain ⟨z1, z2, z3, z4, z5, z6, z7, z8⟩ := hy.2 _ _ _ rfl; dsimp only at z1 z2 z3 z4 z5 z6 z7 z8; subst z1 z2 z3 z4 z5 z6 z7 z8; dsimp only [rdQ, rdP, xP, pt, List.cons_append, List.nil_append]) | (refine HO_k 12 rfl ?_; refine HO_callq rfl rfl rfl rfl (nbad_t ob _ _ _ _) (fun _ _ => rfl) (srcsA) rfl rfl sqA ?_) | (refine HO_k 12 rfl ?_; refine HO_callq rfl rfl rfl rfl (nleftF_t ob _ _ _) (fun _ _ => rfl) (srcsA) rfl rfl sqA ?_) | exact HO_seg rfl rfl | refine S1 ?_ | (refine S2 ?_; intro _) | (refine S3 ?_; intro _ _) | (refine S4 ?_; intro _ _ _) | (refine HO_g 2 rfl ?_; (first | apply HO_and rfl rfl rfl rfl rfl rfl rfl rfl rfl | apply HO_or rfl rfl rfl rfl rfl rfl rfl rfl rfl)) | refine S5 ?_ | (intro hb; try replace hb := simB hb; try exact kill hb))
      ((first | apply HX_ret | apply HX_retn); (repeat (first | exact Res_nil | apply Res_tmp rfl | apply Res_ce rfl rfl rfl)); unfold RetQ; refine ⟨(⟨⟨tm, yi, ypA, ypc, yp, x.rA, x.rc, x.routes, x.n⟩, x6, c6, (false, l5)⟩ : RdY), ⟨g5.2, fun m s' h => (by simp only [Option.some.injEq, Prod.mk.injEq] at h; obtain ⟨rfl, rfl⟩ := h; exact ⟨rfl, rfl, hx⟩)⟩, rfl, permA⟩)
end Go.Proofs.YtdeeokkkcfkbjaaGreat
