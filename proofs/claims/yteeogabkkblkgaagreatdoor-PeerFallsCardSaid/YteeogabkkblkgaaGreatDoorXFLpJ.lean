/- Part of a proof of many texts: what the theorem at its end leans on. -/
import Derived.Test.YteeogabkkblkgaaGreatDoorXFLpD
namespace Go.Proofs.YteeogabkkblkgaaGreatDoor
set_option maxHeartbeats 1000000000
set_option linter.unusedVariables false
set_option linter.unusedSimpArgs false
open Go.RowKit
attribute [local irreducible] HC HX HO Tri eP adr
section
variable {m : Md} {P : Program} {N : Nat} {w0 : World} {S0 : Foot} {ops : List Oper} {i : Nat} {lq : List Nat} {env : Env} {ro rw : List SL} {K : Act → World → Prop} {d : Nat} {ty : TypeId} {pos : String} {aft : Array Edge} {g : Option (Nat × Bool)}
theorem HO_fldR {T f : Nat} {x : Operand} {v u : Value} (ho : ops[i]? = some ⟨some d, .field T x f, ty, pos, aft, g⟩) (hx : Env.ev env x = some v) (hrun : ∀ w, (Instr.field T v f).run P w = .ok u w)
  (hw : wantE ops env g = some true) (hN : Nat.blt d N = true) (hr : rdyB m ops i lq = true)
  (h : HO m P N w0 S0 ops lq ((d, u) :: env) ro rw K) : HO m P N w0 S0 ops (i :: lq) env ro rw K := by
 refine HO_val ho hw rfl hN hr (fun a w ha hf => ?_) h
 simp [execOp, Sem.run_bind, ha.ev hx, hrun w]
end
theorem HX_atK {N : Nat} {w0 : World} {S0 : Foot} {env : Env} {ro rw : List SL} {Q : Exit → Act → World → Prop} {α : Type} {φ : α → Prop} {E : α → Env} {R : α → List SL} (x : α) (hφ : φ x) (hE : SubE (E x) env) (hk : Keeps rw (R x)) : HX N w0 S0 .normal env ro rw (Exit.then (At N w0 S0 ro φ E R) Q) :=
 HX_keeps hk (HX_at x hφ hE rfl)
set_option maxRecDepth 100000 in
theorem falls_t (nc ns : Int) (A : Option Addr) (c : Nat) (d : List UInt8) (now : Int) :
  Tri Tryz.prog 6 [.agg #[.int .i64 nc, .int .i64 ns, .slice A d.length c], .int .i64 now] [leW, arr bE 1 A d] [] (fun _ : Unit => True) (fun _ => .bool true) (fun _ => []) := by
 have cl := lives_t
 by_cases hg : 1 ≤ nc ∧ nc ≤ 6 ∧ 0 ≤ ns ∧ ns ≤ 255 ∧ d.length ≤ 100 ∧ 0 ≤ now
 case neg =>
  have hc : nc < 1 ∨ nc > 6 ∨ ns < 0 ∨ ns > 255 ∨ d.length > 100 ∨ now < 0 := by omega
  by_cases g1 : nc < 1
  ·refine Tri_in Tryz.func6 rfl (fun w0 S0 => ?_)
   repeat' (first | refine SY ?_ | (refine KC ?_; refine HO_callq rfl rfl rfl rfl (cl) (fun _ _ => rfl) (srcsA) rfl rfl sqA ?_) | refine SB ?_ | (refine S2 ?_; intro _) | fail)
   (refine SRt ?_; refine RU ?_)
   rfl
  by_cases g2 : nc > 6
  ·refine Tri_in Tryz.func6 rfl (fun w0 S0 => ?_)
   repeat' (first | refine SY ?_ | (refine KC ?_; refine HO_callq rfl rfl rfl rfl (cl) (fun _ _ => rfl) (srcsA) rfl rfl sqA ?_) | refine SB ?_ | (refine S2 ?_; intro _) | fail)
   (refine SRt ?_; refine RU ?_)
   rfl
  by_cases g3 : ns < 0
  ·refine Tri_in Tryz.func6 rfl (fun w0 S0 => ?_)
   repeat' (first | refine SY ?_ | (refine KC ?_; refine HO_callq rfl rfl rfl rfl (cl) (fun _ _ => rfl) (srcsA) rfl rfl sqA ?_) | refine SB ?_ | (refine S2 ?_; intro _) | fail)
   (refine SRt ?_; refine RU ?_)
   rfl
  by_cases g4 : ns > 255
  ·refine Tri_in Tryz.func6 rfl (fun w0 S0 => ?_)
   repeat' (first | refine SY ?_ | (refine KC ?_; refine HO_callq rfl rfl rfl rfl (cl) (fun _ _ => rfl) (srcsA) rfl rfl sqA ?_) | refine SB ?_ | (refine S2 ?_; intro _) | fail)
   (refine SRt ?_; refine RU ?_)
   rfl
  by_cases g5 : (d.length : Int) > 100
  ·refine Tri_in Tryz.func6 rfl (fun w0 S0 => ?_)
   repeat' (first | refine SY ?_ | (refine KC ?_; refine HO_callq rfl rfl rfl rfl (cl) (fun _ _ => rfl) (srcsA) rfl rfl sqA ?_) | refine SB ?_ | (refine S2 ?_; intro _) | fail)
   (refine SRt ?_; refine RU ?_)
   rfl
  ·have g6 : now < 0 := by omega
   refine Tri_in Tryz.func6 rfl (fun w0 S0 => ?_)
   repeat' (first | refine SY ?_ | (refine KC ?_; refine HO_callq rfl rfl rfl rfl (cl) (fun _ _ => rfl) (srcsA) rfl rfl sqA ?_) | refine SB ?_ | (refine S2 ?_; intro _) | fail)
   (refine SRt ?_; refine RU ?_)
   rfl
 obtain ⟨g1, g2, g3, g4, g5, g6⟩ := hg
 have hk : ntOk ⟨nc, ns, d⟩ = true := by
  unfold ntOk
  simp only [Bool.and_eq_true, decide_eq_true_eq]
  exact ⟨⟨⟨⟨g1, g2⟩, g3⟩, g4⟩, by omega⟩
 have g1z : ¬ nc < 1 := by omega
 have g2z : ¬ nc > 6 := by omega
 have g3z : ¬ ns < 0 := by omega
 have g4z : ¬ ns > 255 := by omega
 have g5z : ¬ (d.length : Int) > 100 := by omega
 have g6z : ¬ now < 0 := by omega
 have c0 := begun_t
 have co := other_t
 have ct := theirs_t
 have c1 := fun p t A c => pfeed_t p t 0 bg2.1 ok_bg2 (by decide +kernel) (by kernel_rfl) A c theirB (by decide +kernel)
 have e1 : inM updM 0 bg2.1 theirB = fd := rfl
 simp only [e1] at c1
 clear e1
 have c2 := fun p t => pdo_t p t 10 now fd.1 ok_fd (by decide +kernel)
 have c3 := fun p t => pclo_t p t now fd.1 ok_fd (by decide +kernel) ⟨nc, ns, d⟩ A c (by show d.length ≤ 1000000; omega)
 obtain ⟨k1, k2, k3⟩ := do_10 g6 ok_fd fd_ph
 obtain ⟨m1, m2, m3⟩ := close_end g6 ok_fd fd_ph ⟨nc, ns, d⟩ (by show nc ≠ 0; omega) hk
 obtain ⟨⟨D, rD⟩, hD⟩ : ∃ D, (doM now fd.1 10 : PrQ × RsQ UpP) = D := ⟨_, rfl⟩
 obtain ⟨⟨C, rC⟩, hC⟩ : ∃ D, (closeM now fd.1 ⟨nc, ns, d⟩ : PrQ × RsQ UpP) = D := ⟨_, rfl⟩
 rw [hD] at c2 k1 k2 k3
 rw [hC] at c3 m1 m2 m3
 dsimp only at k1 k2 k3 m1 m2 m3
 subst k1 m1
 obtain ⟨n1, n2, n3⟩ := frB_nt ⟨4, 0, []⟩
 obtain ⟨q1, q2, q3⟩ := frB_nt ⟨nc, ns, d⟩
 obtain ⟨F, hF⟩ : ∃ F, frB 3 (ntB ⟨4, 0, []⟩) = F := ⟨_, rfl⟩
 rw [hF] at c2 n1 n2 n3
 obtain ⟨G, hG⟩ : ∃ F, frB 3 (ntB ⟨nc, ns, d⟩) = F := ⟨_, rfl⟩
 rw [hG] at c3 q1 q2 q3
 clear hF hG hD hC hk
 have fu := fd_up
 obtain ⟨⟨P, ⟨u, con, clo, last, up, dn⟩⟩, hfd⟩ : ∃ D, fd = D := ⟨_, rfl⟩
 rw [hfd] at c1 c2 c3 fu
 dsimp only at fu
 subst fu
 clear hfd
 have w1 := fun p t => pwaiting_t p t D
 have w2 := fun p t => pwaiting_t p t C
 have w3 := fun p t => pstate_t p t D
 rw [k2] at w1
 rw [m2] at w2
 obtain ⟨B, hB⟩ : ∃ B, bg2.1 = B := ⟨_, rfl⟩
 rw [hB] at c0 c1
 obtain ⟨T, hT⟩ : ∃ T, theirB = T := ⟨_, rfl⟩
 rw [hT] at ct c1
 clear hB hT
 have n1z : (F.length : Int) = 21 := by have : ([] : List UInt8).length = 0 := rfl; dsimp only at n1; omega
 have q1z : (G.length : Int) = 21 + (d.length : Int) := by dsimp only at q1; omega
 have b4 : ((UInt8.ofNat (Int.toNat 4)).toNat : Int) = 4 := by decide
 have b0 : ((UInt8.ofNat (Int.toNat 0)).toNat : Int) = 0 := by decide
 have bc : ((UInt8.ofNat nc.toNat).toNat : Int) = nc := by
  rw [UInt8.toNat_ofNat']
  omega
 have bs : ((UInt8.ofNat ns.toNat).toNat : Int) = ns := by
  rw [UInt8.toNat_ofNat']
  omega
 dsimp only [opV, otherQ, noV, rsV, rsC, rsP, List.length_nil] at co ct c1 c2 c3 n2 n3 q2 q3 w1 w2
 refine Tri_in Tryz.func6 rfl (fun w0 S0 => ?_)
 repeat' (first | refine SY ?_ | (refine KC ?_; refine HO_callP rfl rfl rfl rfl (c0) findA (srcsA) rfl rfl soA ?_; intro ⟨p, t⟩ hp; dsimp only [lca, lna]) | (refine KC ?_; refine HO_callq rfl rfl rfl rfl (cl) (fun _ _ => rfl) (srcsA) rfl rfl sqA ?_) | (refine KC ?_; refine HO_callq rfl rfl rfl rfl (co) (fun _ _ => rfl) (trivial) rfl rfl sqA ?_) | (refine KC ?_; refine HO_callP rfl rfl rfl rfl (ct) findA (trivial) rfl rfl soA ?_; intro ⟨y1, y2⟩ hy; dsimp only [lca, lna]) | (refine KC ?_; refine HO_callP rfl rfl rfl rfl (c1 _ _ _ _) findA (srcsA) rfl rfl soA ?_; intro z hz; dsimp only [lca, lna]) | refine S1 ?_ | (refine S2 ?_; intro _) | refine S5n ?_ | fail)
 rename_i b2 p1 t1 hp1 w1' w2' hw1 z1 hz1 b9 b10
 refine HC_cutP (α := RsZ × RsZ × Nat × Nat) (fun _ => True) (fun y => [(12, pt y.2.2.2), (11, pt y.2.2.1), (10, pt b10), (9, pt b9), (7, pt p), (5, pt p1), (2, pt b2)])
  (fun y => [cel y.2.2.1 29 [.slice y.1.u.1 y.1.us.length y.1.u.2, .bool false, .bool true, .slice y.1.l.1 F.length y.1.l.2, .bool false, .bool true],
   cel y.2.2.2 29 [.slice y.2.1.u.1 y.2.1.us.length y.2.1.u.2, .bool false, .bool true, .slice y.2.1.l.1 G.length y.2.1.l.2, .bool false, .bool true],
   ownB y.1.l F, ownB y.2.1.l G,
   cel b9 29 [.slice z1.u.1 z1.us.length z1.u.2, .bool con, .bool clo, .slice z1.l.1 last.length z1.l.2, .bool true, .bool dn],
   cel b10 29 [.slice z.u.1 z.us.length z.u.2, .bool con, .bool clo, .slice z.l.1 last.length z.l.2, .bool true, .bool dn],
   peP p1 t1 D, peP p t C, cel b2 44 [.int .i64 nc, .int .i64 ns, .slice A d.length c]]) ?_ ?_
 ·repeat' (first | refine SY ?_ | (refine HC_lex rfl rfl (by decide +kernel) rfl rfl ?_; refine HO_names (l' := [0, 1, 3, 4, 5, 2, 6, 7, 8, 9, 10]) (by decide +kernel) ?_) | (refine HO_3p 2 7 8 (by decide +kernel) rfl rfl rfl (by decide +kernel) ?_ ?_ ?_) | (refine HO_3p 6 7 8 (by decide +kernel) rfl rfl rfl (by decide +kernel) ?_ ?_ ?_) | (refine HO_2p 2 7 (by decide +kernel) rfl rfl (by decide +kernel) ?_ ?_) | (refine HO_2p 2 8 (by decide +kernel) rfl rfl (by decide +kernel) ?_ ?_) | (refine HO_2p 7 8 (by decide +kernel) rfl rfl (by decide +kernel) ?_ ?_) | (refine HO_2p 6 7 (by decide +kernel) rfl rfl (by decide +kernel) ?_ ?_) | (refine HO_2p 6 8 (by decide +kernel) rfl rfl (by decide +kernel) ?_ ?_) | (refine KC ?_; refine HO_callP rfl rfl rfl rfl (c2 _ _) findA (srcsA) rfl rfl soA ?_; intro z2 hz2; dsimp only [lca, lna]) | (refine KC ?_; refine HO_callP rfl rfl rfl rfl (c3 _ _) findA (srcsA) rfl rfl soA ?_; intro z3 hz3; dsimp only [lca, lna]) | refine SB ?_ | (refine S2 ?_; intro _) | fail)
  all_goals exact HX_atK (z2, z3, _, _) trivial ⟨rfl, rfl, rfl, rfl, rfl, rfl, rfl, trivial⟩ permA
 rintro ⟨z2, z3, b11, b12⟩ -
 dsimp only
 have mp : ∀ {l : List UInt8} {i : Nat} {x : UInt8} {v : Int}, l[i]? = some x → (x.toNat : Int) = v → (l.map bE)[i]? = some [.int .u8 v] := fun {l i x v} h1 h2 => by
  rw [List.getElem?_map, h1, ← h2]
  rfl
 have n2w : (F.map bE)[19]? = some [.int .u8 4] := mp n2 b4
 have n3w : (F.map bE)[20]? = some [.int .u8 0] := mp n3 b0
 have q2w : (G.map bE)[19]? = some [.int .u8 nc] := mp q2 bc
 have q3w : (G.map bE)[20]? = some [.int .u8 ns] := mp q3 bs
 clear mp n2 n3 q2 q3
 have fph : ∀ w, (Instr.field 34 (staV D.st) 0).run Tryz.prog w = .ok (.int .i64 2) w := fun w => by
  rw [← k3]
  kernel_rfl
 repeat' (first | refine SY ?_ | (refine HC_lex rfl rfl (by decide +kernel) rfl rfl ?_) | (refine HO_k 10 rfl ?_; refine HO_holdA 0 rfl rfl ?_; refine HO_ixA rfl rfl rfl rfl wfA (by omega) (by omega) lenA rfl rfl rdA ?_) | (refine HO_k 10 rfl ?_; refine HO_holdA 1 rfl rfl ?_; refine HO_ixA rfl rfl rfl rfl wfA (by omega) (by omega) lenA rfl rfl rdA ?_) | (refine HO_k 16 rfl ?_; refine HO_fldR rfl rfl fph rfl rfl rdA ?_) | (refine KC ?_; refine HO_callP rfl rfl rfl rfl (w1 _ _) findA (trivial) rfl rfl soA ?_; intro v hv; dsimp only [lca, lna]) | (refine KC ?_; refine HO_callP rfl rfl rfl rfl (w2 _ _) findA (trivial) rfl rfl soA ?_; intro v hv; dsimp only [lca, lna]) | (refine KC ?_; refine HO_callP rfl rfl rfl rfl (w3 _ _) findA (trivial) rfl rfl soA ?_; intro v hv; dsimp only [lca, lna]) | refine SB ?_ | (refine S2 ?_; intro _) | fail)
 (refine SRt ?_; refine RU ?_)
 rfl
end Go.Proofs.YteeogabkkblkgaaGreatDoor
