/- Part of a proof of many texts: what the theorem at its end leans on. -/
import Derived.Test.YteeogabkkblkgaaGreatDoorVAttQ
import Derived.Test.YteeogabkkblkgaaGreatDoorVAdr
import Derived.Test.YteeogabkkblkgaaGreatDoorVAttRA
import Derived.Test.YteeogabkkblkgaaGreatDoorVAttE
import Derived.ArgAppend
namespace Go.Proofs.YteeogabkkblkgaaGreatDoor
set_option maxHeartbeats 1000000000
set_option linter.unusedVariables false
set_option linter.unusedSimpArgs false
open Go.RowKit
attribute [local irreducible] HC HX HO Tri eP adr
theorem Tri_capU {P : Program} {g : Nat} {args : List Value} {ro rw : List SL} {φ : OA → Prop} {val : OA → Value} {l : List UInt8} (h : Tri P g args ro rw φ val (fun x => [ownB x l])) :
  Tri P g args ro rw (fun x => l.length ≤ x.2) val (fun x => [ownB x l]) := by
 unfold Tri at h ⊢
 exact fun w S hf => (h w S hf).mono fun e w' ⟨x, T, hx, he, hfx⟩ => ⟨x, T, own_cap ro.length (by rw [List.getElem?_append_right (Nat.le_refl _), Nat.sub_self]; rfl) hfx.roOk, he, hfx⟩
theorem putB_leU (w : Nat) (h4 : w ≤ 4) (p : PA) (h : OkP w p) : (putB w p).length ≤ 5000 := by
 have h1 := attB_len 64 1 [UInt8.ofNat p.org.toNat]
 have h2 := attB_len 64 2 (pathB w p.path)
 have h3 := attB_len 64 3 (be 4 p.nxt.toNat)
 have h2' := pathB_len w h4 p.path h.s
 have hl := h.l
 have hc := h.c
 have h5 : (medB p.med).length ≤ 8 := by
  unfold medB
  have := attB_len 128 4 (be 4 p.med.toNat)
  rw [be_length] at this
  split
  ·exact this
  ·simp
 have h6 : (prefB p.pref).length ≤ 8 := by
  unfold prefB
  have := attB_len 64 5 (be 4 p.pref.toNat)
  rw [be_length] at this
  split
  ·exact this
  ·simp
 have h7 : (commB p.comms).length ≤ 132 := by
  unfold commB
  have := attB_len 192 8 (nb 4 p.comms)
  rw [nb_length] at this
  split
  ·omega
  ·simp
 rw [be_length] at h3
 simp only [List.length_cons, List.length_nil] at h1
 unfold putB
 simp only [List.length_append]
 omega
theorem az_paU : az.pa = pz := rfl
theorem lim_paU {a : AttS} {w : Nat} {p : PA} (h : a.pa = p) (hp : OkP w p) : Lim a := by
 subst h
 have h1 := hp.l
 have h2 := hp.c
 simp only [AttS.pa, spl_len] at h1 h2
 refine ⟨by omega, by omega, fun s hs => ?_⟩
 have := hp.s (s.set, s.ns) (List.mem_map.2 ⟨s, hs, rfl⟩)
 simp only [okSeg, Bool.and_eq_true, decide_eq_true_eq] at this
 omega
structure UpS where
 gA : Option Addr
 gc : Nat
 gone : List Nl
 rA : Option Addr
 rc : Nat
 routes : List Nl
 a : AttS
 soft : Bool
def UpS.e (u : UpS) : List Value := [.slice u.gA u.gone.length u.gc, .slice u.rA u.routes.length u.rc, .int .i64 u.a.org, .slice u.a.pA u.a.path.length u.a.pc, .int .u32 u.a.nxt, .int .i64 u.a.med, .int .i64 u.a.pref, .slice u.a.cA u.a.comms.length u.a.cc, .bool u.soft]
@[reducible] def UpS.ro (u : UpS) : List SL := [arr Nl.e 3 u.gA u.gone, arr Nl.e 3 u.rA u.routes, inn (segPs u.a.path), arr SegS.e 2 u.a.pA u.a.path, arr iE 1 u.a.cA u.a.comms]
structure UpW (u : UpS) : Prop where
 g : NlsOk u.gone
 r : NlsOk u.routes
 n : 0 ≤ u.a.nxt ∧ u.a.nxt ≤ 4294967295
 l : Lim u.a
 gl : u.gone.length ≤ 1000000
 rl : u.routes.length ≤ 1000000
def saidOk (four : Bool) (u : UpS) : Bool := if u.routes.length = 0 then sameB u.a.pa pz else attOk four u.a
def saidB (four : Bool) (u : UpS) : List UInt8 := if u.routes.length = 0 then [] else putB (szF four) u.a.pa
def upPre (four paths : Bool) (u : UpS) : Bool := !u.soft && allX paths u.gone && allX paths u.routes && saidOk four u
def upB (four paths : Bool) (u : UpS) : List UInt8 := bodyB (nlsB paths u.gone) (saidB four u) (nlsB paths u.routes)
def upOk (four paths : Bool) (u : UpS) : Bool := upPre four paths u && decide ((upB four paths u).length ≤ 4077)
theorem piece_t (A : Option Addr) (c : Nat) (l : List UInt8) (hl : l.length ≤ 65535) :
  Tri Tryz.prog 104 [.slice A l.length c] [arr bE 1 A l] [] (fun _ : OA => True) (fun x => .slice x.1 (pcB l).length x.2) (fun x => [ownB x (pcB l)]) := by
 have hp := nput_ok 2 l.length (by decide) (by decide) (by omega)
 have hb2 := be_length 2 l.length
 refine Tri_in Tryz.func104 rfl (fun w0 S0 => ?_)
 repeat' (first | (refine KC ?_; refine HO_call rfl rfl rfl rfl (hp) rfl (trivial) rfl rfl soA ?_; intro ⟨y1, d1⟩ h1; dsimp only [lca, lna]) | refine SB ?_ | (refine S3 ?_; intro _ _) | fail)
 rename_i A' c'
 have eL : 2 + l.length = (pcB l).length := by rw [pcB_len]; omega
 have eM : List.map bE (be 2 l.length) ++ List.map bE l = List.map bE (pcB l) := List.map_append.symm
 rw [eL, eM]
 (refine SRt ?_; unfold RetQ; refine ⟨(A', c'), trivial, rfl, Keeps.cons Ent.rfl_ Keeps.nil⟩)
def saidC (four : Bool) (u : UpS) : List UInt8 := if saidOk four u = true then saidB four u else []
theorem own_none0 (rw : List SL) : Keeps rw [ownB (none, 0) []] := Keeps.add (fun w => own_nil w) Keeps.nil
theorem attrs_t (u : UpS) (hu : UpW u) (four : Bool) :
  Tri Tryz.prog 102 [.agg u.e.toArray, .bool four] u.ro [] (fun _ : OA => True) (fun x => .tuple #[.slice x.1 (saidC four u).length x.2, .bool (saidOk four u)]) (fun x => [ownB x (saidC four u)]) := by
 by_cases h0 : u.routes.length = 0
 ·have e1 : saidOk four u = sameB u.a.pa pz := if_pos h0
  have e2 : saidC four u = [] := by unfold saidC saidB; rw [if_pos h0]; split <;> rfl
  have hs := asame_t u.a az hu.l ⟨by decide, by decide, fun s hs => by cases hs⟩
  rw [az_paU] at hs
  rw [e1, e2]
  refine Tri_in Tryz.func102 rfl (fun w0 S0 => ?_)
  dsimp only [UpS.ro, UpS.e]
  repeat' (first | refine SD ?_ | (refine KC ?_; refine HO_callq rfl rfl rfl rfl (hs) (fun _ _ => rfl) (srcsB) rfl rfl sqA ?_) | refine SB ?_ | (refine S2 ?_; intro _) | fail)
  (refine SRt ?_; unfold RetQ; refine ⟨(none, 0), trivial, rfl, own_none0 _⟩)
 cases h1 : attOk four u.a
 ·have e1 : saidOk four u = false := by unfold saidOk; rw [if_neg h0, h1]
  have e2 : saidC four u = [] := by unfold saidC; rw [e1]; rfl
  have hp := aput_bad u.a four h1 (by have := hu.l.p; omega) (by have := hu.l.c; omega) (fun s hs => by have := hu.l.s s hs; omega)
  rw [e1, e2]
  refine Tri_in Tryz.func102 rfl (fun w0 S0 => ?_)
  dsimp only [UpS.ro, UpS.e]
  repeat' (first | refine SD ?_ | (refine KC ?_; refine HO_callq rfl rfl rfl rfl (hp) (fun _ _ => rfl) (srcsA) rfl rfl sqA ?_) | refine SB ?_ | (refine S2 ?_; intro _) | fail)
  (refine SRt ?_; unfold RetQ; refine ⟨(none, 0), trivial, rfl, own_none0 _⟩)
 ·have e1 : saidOk four u = true := by unfold saidOk; rw [if_neg h0, h1]
  have e2 : saidC four u = putB (szF four) u.a.pa := by unfold saidC saidB; rw [e1, if_neg h0]; rfl
  have hp := aput_t u.a four h1 hu.n
  rw [e1, e2]
  refine Tri_in Tryz.func102 rfl (fun w0 S0 => ?_)
  dsimp only [UpS.ro, UpS.e]
  repeat' (first | refine SD ?_ | (refine KC ?_; refine HO_call rfl rfl rfl rfl (hp) rfl (srcsA) rfl rfl soA ?_; intro ⟨x1, c1⟩ g1; dsimp only [lca, lna]) | refine SB ?_ | (refine S2 ?_; intro _) | fail)
  (refine SRt ?_; unfold RetQ; refine ⟨(x1, c1), trivial, rfl, (by repeat (first | exact Keeps.cons Ent.rfl_ Keeps.nil | refine Keeps.skip ?_))⟩)
def nlsC (paths : Bool) (l : List Nl) : List UInt8 := if allX paths l = true then nlsB paths l else []
theorem Tri_gain {P : Program} {g : Nat} {args : List Value} {ro : List SL} {val : Value} {e : SL} (x : OA) (he : ∀ w, e.p (fun _ => False) w) {φ : OA → Prop} {val' : OA → Value} {es : OA → List SL} (h : Tri P g args ro [] (fun _ : Unit => True) (fun _ => val) (fun _ => []))
  (h1 : φ x) (h2 : val = val' x) (h3 : es x = [e]) : Tri P g args ro [] φ val' es := by
 unfold Tri at h ⊢
 exact fun w S hf => (h w S hf).mono fun e' w' ⟨y, T, hy, hv, hfx⟩ => by
  obtain ⟨T', hT'⟩ := hfx.keeps (rw' := es x) (by rw [h3]; exact Keeps.add he Keeps.nil)
  exact ⟨x, T', h1, by rw [← h2]; exact hv, hT'⟩
theorem nlsputC_t (A : Option Addr) (c : Nat) (l : List Nl) (hl : NlsOk l) (paths : Bool) (h1 : l.length ≤ 1000000) :
  Tri Tryz.prog 101 [.slice A l.length c, .bool paths] [arr Nl.e 3 A l] [] (fun _ : OA => True) (fun x => .tuple #[.slice x.1 (nlsC paths l).length x.2, .int .i64 (if allX paths l = true then 0 else 60)]) (fun x => [ownB x (nlsC paths l)]) := by
 unfold nlsC
 cases hx : allX paths l
 ·exact Tri_gain (none, 0) (fun w => own_nil w) (nlsput_bad A c l hl paths hx h1) trivial rfl rfl
 ·have hx' := hx
  unfold allX at hx'
  rw [Bool.and_eq_true, List.all_eq_true, decide_eq_true_eq] at hx'
  exact nlsput_t A c l hl paths hx'.1 hx'.2
theorem allX_spec {paths : Bool} {l : List Nl} (h : allX paths l = true) : (∀ x ∈ l, oneX paths x = true) ∧ l.length ≤ 1024 := by
 unfold allX at h
 rw [Bool.and_eq_true, List.all_eq_true, decide_eq_true_eq] at h
 exact h
theorem nlsC_le (paths : Bool) (l : List Nl) : (nlsC paths l).length ≤ 9216 := by
 unfold nlsC
 split
 ·rename_i h
  have h1 := nlsB_le paths l
  have h2 := (allX_spec h).2
  omega
 ·simp
theorem saidC_le (four : Bool) (u : UpS) (hu : UpW u) : (saidC four u).length ≤ 5000 := by
 unfold saidC
 split
 ·rename_i h
  unfold saidB
  unfold saidOk at h
  split
  ·simp
  ·rename_i h0
   rw [if_neg h0] at h
   exact putB_leU (szF four) (szF_bd four).2 u.a.pa (okP_of hu.n (by rw [← ok_pa]; exact h))
 ·simp
theorem body_eq {four paths : Bool} {u : UpS} (h : upPre four paths u = true) : pcB (nlsC paths u.gone) ++ (pcB (saidC four u) ++ nlsC paths u.routes) = upB four paths u := by
 unfold upPre at h
 simp only [Bool.and_eq_true] at h
 unfold upB bodyB nlsC saidC
 rw [if_pos h.1.1.2, if_pos h.1.2, if_pos h.2]
theorem pre_parts {four paths : Bool} {u : UpS} (h : upPre four paths u = true) : u.soft = false ∧ allX paths u.gone = true ∧ allX paths u.routes = true ∧ saidOk four u = true := by
 unfold upPre at h
 simp only [Bool.and_eq_true, Bool.not_eq_true'] at h
 exact ⟨h.1.1.1, h.1.1.2, h.1.2, h.2⟩
set_option maxRecDepth 100000 in
theorem body_bad (u : UpS) (hu : UpW u) (four paths : Bool) (h : upPre four paths u = false) :
  Tri Tryz.prog 71 [.agg u.e.toArray, .bool four, .bool paths] u.ro [] (fun _ : Unit => True) (fun _ => .tuple #[.slice none 0 0, .bool false]) (fun _ => []) := by
 have h1 := nlsputC_t u.gA u.gc u.gone hu.g paths hu.gl
 have h2 := nlsputC_t u.rA u.rc u.routes hu.r paths hu.rl
 have h3 := attrs_t u hu four
 have hX : ¬ (u.soft = false ∧ allX paths u.gone = true ∧ allX paths u.routes = true ∧ saidOk four u = true) := fun hc => by
  have : upPre four paths u = true := by unfold upPre; rw [hc.1, hc.2.1, hc.2.2.1, hc.2.2.2]; rfl
  rw [h] at this
  cases this
 have hq : ∀ b : Bool, ((if b = true then 0 else 60 : Int) = 0 ↔ b = true) := by decide
 refine Tri_in Tryz.func71 rfl (fun w0 S0 => ?_)
 dsimp only [UpS.ro, UpS.e] at h3 ⊢
 repeat' (first | (refine KC ?_; refine HO_call rfl rfl rfl rfl (h1) rfl (srcsA) rfl rfl soA ?_; intro ⟨x1, c1⟩ g1; dsimp only [lca, lna]) | (refine KC ?_; refine HO_call rfl rfl rfl rfl (h2) rfl (srcsA) rfl rfl soA ?_; intro ⟨x2, c2⟩ g2; dsimp only [lca, lna]) | (refine KC ?_; refine HO_call rfl rfl rfl rfl (h3) rfl (srcsA) rfl rfl soA ?_; intro ⟨x3, c3⟩ g3; dsimp only [lca, lna]) | (refine HC_cond rfl rfl (fun hb => ?_) (fun hb => by exfalso; refine hX ?_; simp only [Bool.or_eq_false_iff, decide_eq_false_iff_not, decide_eq_true_eq, Bool.not_eq_false', hq] at hb; simp [hb])) | exact HO_seg rfl rfl | refine S1 ?_ | (refine S2 ?_; intro _) | (refine HO_g 2 rfl ?_; apply HO_o1 rfl) | refine S5 ?_ | (intro hb; try replace hb := simB hb; try exact kill hb))
 (refine SRt ?_; refine RU ?_)
 rfl
set_option maxRecDepth 100000 in
theorem body_t (u : UpS) (hu : UpW u) (four paths : Bool) (h : upPre four paths u = true) :
  Tri Tryz.prog 71 [.agg u.e.toArray, .bool four, .bool paths] u.ro [] (fun _ : OA => True) (fun x => .tuple #[.slice x.1 (upB four paths u).length x.2, .bool (decide ((upB four paths u).length ≤ 4077))]) (fun x => [ownB x (upB four paths u)]) := by
 have h1 := nlsputC_t u.gA u.gc u.gone hu.g paths hu.gl
 have h2 := nlsputC_t u.rA u.rc u.routes hu.r paths hu.rl
 have h3 := attrs_t u hu four
 obtain ⟨p1, p2, p3, p4⟩ := pre_parts h
 have l1 := nlsC_le paths u.gone
 have l2 := nlsC_le paths u.routes
 have l3 := saidC_le four u hu
 have e := body_eq h
 obtain ⟨b1, hb1⟩ : ∃ b, nlsC paths u.gone = b := ⟨_, rfl⟩
 obtain ⟨b2, hb2⟩ : ∃ b, nlsC paths u.routes = b := ⟨_, rfl⟩
 obtain ⟨b3, hb3⟩ : ∃ b, saidC four u = b := ⟨_, rfl⟩
 rw [hb1, hb2, hb3] at e
 rw [hb1] at l1
 rw [hb2] at l2
 rw [hb3] at l3
 rw [hb1, p2] at h1
 rw [hb2, p3] at h2
 rw [hb3, p4] at h3
 have hp1 := fun A c => piece_t A c b1 (by omega)
 have hp3 := fun A c => piece_t A c b3 (by omega)
 have q1 := pcB_len b1
 have q3 := pcB_len b3
 rw [← e]
 obtain ⟨G1, hG1⟩ : ∃ b, pcB b1 = b := ⟨_, rfl⟩
 obtain ⟨G3, hG3⟩ : ∃ b, pcB b3 = b := ⟨_, rfl⟩
 rw [hG1] at hp1 q1 ⊢
 rw [hG3] at hp3 q3 ⊢
 refine Tri_in Tryz.func71 rfl (fun w0 S0 => ?_)
 dsimp only [UpS.ro, UpS.e] at h3 ⊢
 rw [p1] at h3 ⊢
 repeat' (first | refine SD ?_ | (refine KC ?_; refine HO_call rfl rfl rfl rfl (h1) rfl (srcsA) rfl rfl soA ?_; intro ⟨x1, c1⟩ g1; dsimp only [lca, lna]) | (refine KC ?_; refine HO_call rfl rfl rfl rfl (h2) rfl (srcsA) rfl rfl soA ?_; intro ⟨x2, c2⟩ g2; dsimp only [lca, lna]) | (refine KC ?_; refine HO_call rfl rfl rfl rfl (h3) rfl (srcsA) rfl rfl soA ?_; intro ⟨x3, c3⟩ g3; dsimp only [lca, lna]) | (refine KC ?_; refine HO_call rfl rfl rfl rfl (hp1 x1 c1) rfl (srcsA) rfl rfl soA ?_; intro ⟨y1, d1⟩ k1; dsimp only [lca, lna]) | (refine KC ?_; refine HO_call rfl rfl rfl rfl (hp3 x3 c3) rfl (srcsA) rfl rfl soA ?_; intro ⟨y3, d3⟩ k3; dsimp only [lca, lna]) | refine SB ?_ | (refine S2 ?_; intro _) | fail)
 rename_i bx bl
 have hcat : cat [⟨y1, d1, G1⟩, ⟨y3, d3, G3⟩, ⟨x2, c2, b2⟩] = G1 ++ (G3 ++ b2) := by simp [cat]
 have hct := concat_t (some ⟨bl, 0, none⟩) 3 3 [⟨y1, d1, G1⟩, ⟨y3, d3, G3⟩, ⟨x2, c2, b2⟩] rfl (by simp) (by rw [hcat]; simp only [List.length_append]; omega)
 rw [hcat] at hct
 have hle : (((G1 ++ (G3 ++ b2)).length : Nat) : Int) ≤ 4077 ↔ (G1 ++ (G3 ++ b2)).length ≤ 4077 := by omega
 have hdec : decide ((((G1 ++ (G3 ++ b2)).length : Nat) : Int) ≤ 4077) = decide ((G1 ++ (G3 ++ b2)).length ≤ 4077) := decide_eq_decide.2 hle
 obtain ⟨out, hout⟩ : ∃ out, G1 ++ (G3 ++ b2) = out := ⟨_, rfl⟩
 rw [hout] at hct hdec ⊢
 dsimp only [bsPs, List.map_cons, List.map_nil, lca, lna] at hct
 repeat' (first | (refine KC ?_; refine HO_call rfl rfl rfl rfl (hct) rfl (AllSrc.own 7 rfl rfl (AllSrc.own 6 rfl rfl (AllSrc.own 9 rfl rfl (AllSrc.own 5 rfl rfl trivial)))) rfl rfl soA ?_; intro ⟨z, zc⟩ kz; dsimp only [lca, lna]) | (with_reducible refine HO_rw (congrArg Value.bool hdec) ?_) | refine SB ?_ | (refine S2 ?_; intro _) | fail)
 (refine SRt ?_; unfold RetQ; refine ⟨(z, zc), trivial, rfl, (by repeat (first | exact Keeps.cons Ent.rfl_ Keeps.nil | refine Keeps.skip ?_))⟩)
theorem body_no (u : UpS) (hu : UpW u) (four paths : Bool) (h : upOk four paths u = false) :
  Tri Tryz.prog 71 [.agg u.e.toArray, .bool four, .bool paths] u.ro [] (fun _ : OA × Nat => True) (fun x => .tuple #[.slice x.1.1 x.2 x.1.2, .bool false]) (fun _ => []) := by
 cases hp : upPre four paths u
 ·have h1 := body_bad u hu four paths hp
  unfold Tri at h1 ⊢
  exact fun w S hf => (h1 w S hf).mono fun e w' ⟨x, T, hx, hv, hfx⟩ => ⟨((none, 0), 0), T, trivial, hv, hfx⟩
 ·have h1 := body_t u hu four paths hp
  have h2 : decide ((upB four paths u).length ≤ 4077) = false := by
   unfold upOk at h
   rw [hp, Bool.true_and] at h
   exact h
  rw [h2] at h1
  unfold Tri at h1 ⊢
  exact fun w S hf => (h1 w S hf).mono fun e w' ⟨x, T, hx, hv, hfx⟩ => by
   obtain ⟨T', hT'⟩ := hfx.keeps (rw' := []) Keeps.nil
   exact ⟨(x, (upB four paths u).length), T', trivial, hv, hT'⟩
theorem body_yes (u : UpS) (hu : UpW u) (four paths : Bool) (h : upOk four paths u = true) :
  Tri Tryz.prog 71 [.agg u.e.toArray, .bool four, .bool paths] u.ro [] (fun _ : OA => True) (fun x => .tuple #[.slice x.1 (upB four paths u).length x.2, .bool true]) (fun x => [ownB x (upB four paths u)]) := by
 unfold upOk at h
 rw [Bool.and_eq_true] at h
 have h1 := body_t u hu four paths h.1
 rw [h.2] at h1
 exact h1
theorem uput_bad (u : UpS) (hu : UpW u) (four paths : Bool) (h : upOk four paths u = false) :
  Tri Tryz.prog 45 [.agg u.e.toArray, .bool four, .bool paths] u.ro [] (fun _ : Unit => True) (fun _ => .tuple #[.agg #[.int .i64 0, .slice none 0 0], .int .i64 70]) (fun _ => []) := by
 have hb := body_no u hu four paths h
 refine Tri_in Tryz.func45 rfl (fun w0 S0 => ?_)
 dsimp only [UpS.ro, UpS.e] at hb ⊢
 repeat' (first | (refine KC ?_; refine HO_call rfl rfl rfl rfl (hb) rfl (srcsA) rfl rfl soA ?_; intro ⟨⟨x1, c1⟩, n1⟩ g1; dsimp only [lca, lna]) | refine SB ?_ | (refine S2 ?_; intro _) | fail)
 (refine SRt ?_; refine RU ?_)
 rfl
theorem uput_t (u : UpS) (hu : UpW u) (four paths : Bool) (h : upOk four paths u = true) :
  Tri Tryz.prog 45 [.agg u.e.toArray, .bool four, .bool paths] u.ro [] (fun x : OA => (upB four paths u).length ≤ x.2) (fun x => .tuple #[.agg #[.int .i64 2, .slice x.1 (upB four paths u).length x.2], .int .i64 0]) (fun x => [ownB x (upB four paths u)]) := by
 have hb := Tri_capU (body_yes u hu four paths h)
 refine Tri_in Tryz.func45 rfl (fun w0 S0 => ?_)
 dsimp only [UpS.ro, UpS.e] at hb ⊢
 repeat' (first | (refine KC ?_; refine HO_call rfl rfl rfl rfl (hb) rfl (srcsA) rfl rfl soA ?_; intro ⟨x1, c1⟩ g1; dsimp only [lca, lna]) | refine SB ?_ | (refine S2 ?_; intro _) | fail)
 (refine SRt ?_; unfold RetQ; refine ⟨(x1, c1), g1, rfl, (by repeat (first | exact Keeps.cons Ent.rfl_ Keeps.nil | refine Keeps.skip ?_))⟩)
def bigU (u : UpS) : Bool := decide (1100 < u.gone.length) || decide (1100 < u.routes.length) || largeB u.a
theorem rlarge7_t (u : UpS) : Tri Tryz.prog 16 [.agg u.e.toArray] u.ro [] (fun _ : Unit => True) (fun _ => .bool (bigU u)) (fun _ => []) := by
 have hla := large_t u.a
 unfold bigU
 by_cases h1 : 1100 < u.gone.length
 ·rw [decide_eq_true h1, Bool.true_or, Bool.true_or]
  refine Tri_in Tryz.func16 rfl (fun w0 S0 => ?_)
  dsimp only [UpS.ro, UpS.e]
  repeat' (first | refine SD ?_ | refine SB ?_ | (refine S2 ?_; intro _) | fail)
  (refine SRt ?_; refine RU ?_)
  rfl
 rw [decide_eq_false h1, Bool.false_or]
 by_cases h2 : 1100 < u.routes.length
 ·rw [decide_eq_true h2, Bool.true_or]
  refine Tri_in Tryz.func16 rfl (fun w0 S0 => ?_)
  dsimp only [UpS.ro, UpS.e]
  repeat' (first | refine SD ?_ | refine SB ?_ | (refine S2 ?_; intro _) | fail)
  (refine SRt ?_; refine RU ?_)
  rfl
 rw [decide_eq_false h2, Bool.false_or]
 refine Tri_in Tryz.func16 rfl (fun w0 S0 => ?_)
 dsimp only [UpS.ro, UpS.e]
 repeat' (first | refine SD ?_ | (refine KC ?_; refine HO_callq rfl rfl rfl rfl (hla) (fun _ _ => rfl) (srcsA) rfl rfl sqA ?_) | refine SB ?_ | (refine S2 ?_; intro _) | fail)
 (refine SRt ?_; refine RU ?_)
 rfl
theorem be2 (n : Nat) : be 2 n = [UInt8.ofNat (n / 256), UInt8.ofNat n] := by simp [be]
theorem up_parts (four paths : Bool) (u : UpS) (p2 : allX paths u.gone = true) (p3 : allX paths u.routes = true) (p4 : saidOk four u = true) : nlsC paths u.gone = nlsB paths u.gone ∧ nlsC paths u.routes = nlsB paths u.routes ∧ saidC four u = saidB four u := by
 unfold nlsC saidC
 rw [p2, p3, p4]
 exact ⟨rfl, rfl, rfl⟩
set_option maxRecDepth 100000 in
theorem rbody_t (u : UpS) (hu : UpW u) (four paths : Bool) (p2 : allX paths u.gone = true) (p3 : allX paths u.routes = true) (p4 : saidOk four u = true) :
  Tri Tryz.prog 18 [.agg u.e.toArray, .bool four, .bool paths] u.ro [] (fun _ : OA => True) (fun x => .slice x.1 (upB four paths u).length x.2) (fun x => [ownB x (upB four paths u)]) := by
 obtain ⟨a1, a2⟩ := allX_spec p2
 obtain ⟨b1, b2⟩ := allX_spec p3
 have h1 := rnlsput_t u.gA u.gc u.gone hu.g paths a1 a2
 have h2 := rnlsput_t u.rA u.rc u.routes hu.r paths b1 b2
 have l1 := nlsC_le paths u.gone
 have l2 := nlsC_le paths u.routes
 have l3 := saidC_le four u hu
 obtain ⟨e1, e2, e3⟩ := up_parts four paths u p2 p3 p4
 rw [e1] at l1
 rw [e2] at l2
 rw [e3] at l3
 have e : upB four paths u = pcB (nlsB paths u.gone) ++ (pcB (saidB four u) ++ nlsB paths u.routes) := rfl
 obtain ⟨g, hg⟩ : ∃ b, nlsB paths u.gone = b := ⟨_, rfl⟩
 obtain ⟨r, hr⟩ : ∃ b, nlsB paths u.routes = b := ⟨_, rfl⟩
 obtain ⟨s, hs⟩ : ∃ b, saidB four u = b := ⟨_, rfl⟩
 rw [hg, hr, hs] at e
 rw [hg] at l1 h1
 rw [hr] at l2 h2
 rw [hs] at l3
 have hq1 := rput_quo g.length (by omega)
 have hq3 := rput_quo s.length (by omega)
 obtain ⟨out, hout⟩ : ∃ out, upB four paths u = out := ⟨_, rfl⟩
 rw [hout] at e ⊢
 have hol : out.length = 2 + g.length + 2 + s.length + r.length := by
  rw [e]
  unfold pcB
  simp only [List.length_append, be_length]
  omega
 have u1 : (UInt8.ofNat (g.length / 256)).toNat = g.length / 256 := by simp; omega
 have u3 : (UInt8.ofNat (s.length / 256)).toNat = s.length / 256 := by simp; omega
 have hoe : [Value.int .u8 ((g.length / 256 : Nat) : Int)] :: [Value.int .u8 ((UInt8.ofNat g.length).toNat : Int)] :: (List.map bE g ++ ([Value.int .u8 ((s.length / 256 : Nat) : Int)] :: [Value.int .u8 ((UInt8.ofNat s.length).toNat : Int)] :: (List.map bE s ++ List.map bE r))) = List.map bE out := by
  rw [← u1, ← u3, e]
  unfold pcB
  rw [be2, be2]
  simp only [List.map_append, List.map_cons, List.map_nil, List.append_assoc]
  rfl
 by_cases h0 : u.routes.length = 0
 ·have es : s = [] := by rw [← hs]; unfold saidB; rw [if_pos h0]
  subst es
  refine Tri_in Tryz.func18 rfl (fun w0 S0 => ?_)
  dsimp only [UpS.ro, UpS.e]
  refine HC_add (e := ownB (none, 0) []) (fun w => own_nil w) ?_
  repeat' (first | refine SX ?_ | (with_reducible refine HO_rw (congrArg (Value.int .i64) hq1) ?_) | (with_reducible refine HO_rw (congrArg (Value.int .i64) hq3) ?_) | (with_reducible refine HO_u8n ?_) | (refine KC ?_; refine HO_call rfl rfl rfl rfl (h1) rfl (srcsA) rfl rfl soA ?_; intro ⟨x1, c1⟩ g1; dsimp only [lca, lna]) | (refine KC ?_; refine HO_call rfl rfl rfl rfl (h2) rfl (srcsA) rfl rfl soA ?_; intro ⟨x2, c2⟩ g2; dsimp only [lca, lna]) | refine SB ?_ | (refine T2 ?_; intros) | fail)
  rename_i A' c'
  (refine SRt ?_; unfold RetQ; apply Exists.intro ((A', c')); refine ⟨trivial, ?_, ?_⟩; rotate_left 1; (repeat (first | exact Keeps.nil | refine Keeps.own_cons ?_ ?_ ?_ | refine Keeps.arr_cons ?_ ?_ | refine Keeps.cons Ent.rfl_ ?_ | refine Keeps.skip ?_ | refine Keeps.own_none ?_ ?_ ?_ | refine Keeps.arr_none ?_ ?_)))
  all_goals first
   | exact congrArg (fun n => Value.slice A' n c') hol.symm
   | exact hol.symm
   | (rw [← hoe]; simp)
 ·have hs4 : attOk four u.a = true := by unfold saidOk at p4; rw [if_neg h0] at p4; exact p4
  have es : putB (szF four) u.a.pa = s := by rw [← hs]; unfold saidB; rw [if_neg h0]
  have h3 := rput5_t u.a four hs4 hu.n
  rw [es] at h3
  refine Tri_in Tryz.func18 rfl (fun w0 S0 => ?_)
  dsimp only [UpS.ro, UpS.e]
  repeat' (first | refine SX ?_ | (with_reducible refine HO_rw (congrArg (Value.int .i64) hq1) ?_) | (with_reducible refine HO_rw (congrArg (Value.int .i64) hq3) ?_) | (with_reducible refine HO_u8n ?_) | (refine KC ?_; refine HO_call rfl rfl rfl rfl (h1) rfl (srcsA) rfl rfl soA ?_; intro ⟨x1, c1⟩ g1; dsimp only [lca, lna]) | (refine KC ?_; refine HO_call rfl rfl rfl rfl (h2) rfl (srcsA) rfl rfl soA ?_; intro ⟨x2, c2⟩ g2; dsimp only [lca, lna]) | (refine KC ?_; refine HO_call rfl rfl rfl rfl (h3) rfl (srcsA) rfl rfl soA ?_; intro ⟨x3, c3⟩ g3; dsimp only [lca, lna]) | refine SB ?_ | (refine T2 ?_; intros) | fail)
  rename_i A' c'
  (refine SRt ?_; unfold RetQ; apply Exists.intro ((A', c')); refine ⟨trivial, ?_, ?_⟩; rotate_left 1; (repeat (first | exact Keeps.nil | refine Keeps.own_cons ?_ ?_ ?_ | refine Keeps.arr_cons ?_ ?_ | refine Keeps.cons Ent.rfl_ ?_ | refine Keeps.skip ?_ | refine Keeps.own_none ?_ ?_ ?_ | refine Keeps.arr_none ?_ ?_)))
  all_goals first
   | exact congrArg (fun n => Value.slice A' n c') hol.symm
   | exact hol.symm
   | (rw [← hoe]; simp)
set_option maxRecDepth 100000 in
theorem rcheck7_t (u : UpS) (hu : UpW u) (four paths : Bool) :
  Tri Tryz.prog 83 [.agg u.e.toArray, .bool four, .bool paths] u.ro [] (fun _ : Unit => True) (fun _ => .bool (upOk four paths u)) (fun _ => []) := by
 have h1 := rnls_t u.gA u.gc u.gone hu.g hu.gl paths
 have h2 := rnls_t u.rA u.rc u.routes hu.r hu.rl paths
 have h3 := rcheck_t u.a four (by have := hu.l.p; omega) (by have := hu.l.c; omega) (fun s hs => by have := hu.l.s s hs; omega)
 have h4 := rsame_t u.a az hu.l ⟨by decide, by decide, fun s hs => by cases hs⟩
 rw [az_paU] at h4
 unfold upOk upPre
 cases p1 : u.soft
 rotate_left
 ·rw [Bool.not_true, Bool.false_and, Bool.false_and, Bool.false_and, Bool.false_and]
  refine Tri_in Tryz.func83 rfl (fun w0 S0 => ?_)
  dsimp only [UpS.ro, UpS.e]
  rw [p1]
  repeat' (first | refine SD ?_ | refine SB ?_ | (refine S2 ?_; intro _) | fail)
  (refine SRt ?_; refine RU ?_)
  rfl
 rw [Bool.not_false, Bool.true_and]
 cases p2 : allX paths u.gone
 ·rw [Bool.false_and, Bool.false_and, Bool.false_and]
  rw [p2] at h1
  refine Tri_in Tryz.func83 rfl (fun w0 S0 => ?_)
  dsimp only [UpS.ro, UpS.e]
  rw [p1]
  repeat' (first | refine SD ?_ | (refine KC ?_; refine HO_callq rfl rfl rfl rfl (h1) (fun _ _ => rfl) (srcsA) rfl rfl sqA ?_) | refine SB ?_ | (refine S2 ?_; intro _) | fail)
  (refine SRt ?_; refine RU ?_)
  rfl
 rw [Bool.true_and]
 rw [p2] at h1
 cases p3 : allX paths u.routes
 ·rw [Bool.false_and, Bool.false_and]
  rw [p3] at h2
  refine Tri_in Tryz.func83 rfl (fun w0 S0 => ?_)
  dsimp only [UpS.ro, UpS.e]
  rw [p1]
  repeat' (first | refine SD ?_ | (refine KC ?_; refine HO_callq rfl rfl rfl rfl (h1) (fun _ _ => rfl) (srcsA) rfl rfl sqA ?_) | (refine KC ?_; refine HO_callq rfl rfl rfl rfl (h2) (fun _ _ => rfl) (srcsA) rfl rfl sqA ?_) | refine SB ?_ | (refine S2 ?_; intro _) | fail)
  (refine SRt ?_; refine RU ?_)
  rfl
 rw [Bool.true_and]
 rw [p3] at h2
 cases p4 : saidOk four u
 ·rw [Bool.false_and]
  by_cases h0 : u.routes.length = 0
  ·have p5 : sameB u.a.pa pz = false := by unfold saidOk at p4; rw [if_pos h0] at p4; exact p4
   rw [p5] at h4
   refine Tri_in Tryz.func83 rfl (fun w0 S0 => ?_)
   dsimp only [UpS.ro, UpS.e]
   rw [p1]
   repeat' (first | refine SD ?_ | (refine KC ?_; refine HO_callq rfl rfl rfl rfl (h1) (fun _ _ => rfl) (srcsA) rfl rfl sqA ?_) | (refine KC ?_; refine HO_callq rfl rfl rfl rfl (h2) (fun _ _ => rfl) (srcsA) rfl rfl sqA ?_) | (refine KC ?_; refine HO_callq rfl rfl rfl rfl (h3) (fun _ _ => rfl) (srcsA) rfl rfl sqA ?_) | (refine KC ?_; refine HO_callq rfl rfl rfl rfl (h4) (fun _ _ => rfl) (srcsB) rfl rfl sqA ?_) | refine SB ?_ | (refine S2 ?_; intro _) | fail)
   (refine SRt ?_; refine RU ?_)
   rfl
  ·have p5 : attOk four u.a = false := by unfold saidOk at p4; rw [if_neg h0] at p4; exact p4
   rw [p5] at h3
   refine Tri_in Tryz.func83 rfl (fun w0 S0 => ?_)
   dsimp only [UpS.ro, UpS.e]
   rw [p1]
   repeat' (first | refine SD ?_ | (refine KC ?_; refine HO_callq rfl rfl rfl rfl (h1) (fun _ _ => rfl) (srcsA) rfl rfl sqA ?_) | (refine KC ?_; refine HO_callq rfl rfl rfl rfl (h2) (fun _ _ => rfl) (srcsA) rfl rfl sqA ?_) | (refine KC ?_; refine HO_callq rfl rfl rfl rfl (h3) (fun _ _ => rfl) (srcsA) rfl rfl sqA ?_) | (refine KC ?_; refine HO_callq rfl rfl rfl rfl (h4) (fun _ _ => rfl) (srcsB) rfl rfl sqA ?_) | refine SB ?_ | (refine S2 ?_; intro _) | fail)
   (refine SRt ?_; refine RU ?_)
   rfl
 rw [Bool.true_and]
 have hb := rbody_t u hu four paths p2 p3 p4
 obtain ⟨out, hout⟩ : ∃ out, upB four paths u = out := ⟨_, rfl⟩
 rw [hout] at hb ⊢
 have hdec : decide ((out.length : Int) ≤ 4077) = decide (out.length ≤ 4077) := decide_eq_decide.2 (by omega)
 by_cases h0 : u.routes.length = 0
 ·have p5 : sameB u.a.pa pz = true := by unfold saidOk at p4; rw [if_pos h0] at p4; exact p4
  rw [p5] at h4
  refine Tri_in Tryz.func83 rfl (fun w0 S0 => ?_)
  dsimp only [UpS.ro, UpS.e] at hb ⊢
  rw [p1] at hb ⊢
  repeat' (first | refine SD ?_ | (refine KC ?_; refine HO_callq rfl rfl rfl rfl (h1) (fun _ _ => rfl) (srcsA) rfl rfl sqA ?_) | (refine KC ?_; refine HO_callq rfl rfl rfl rfl (h2) (fun _ _ => rfl) (srcsA) rfl rfl sqA ?_) | (refine KC ?_; refine HO_callq rfl rfl rfl rfl (h3) (fun _ _ => rfl) (srcsA) rfl rfl sqA ?_) | (refine KC ?_; refine HO_callq rfl rfl rfl rfl (h4) (fun _ _ => rfl) (srcsB) rfl rfl sqA ?_) | (refine KC ?_; refine HO_call rfl rfl rfl rfl (hb) rfl (srcsA) rfl rfl soA ?_; intro ⟨x1, c1⟩ g1; dsimp only [lca, lna]) | refine SB ?_ | (refine S2 ?_; intro _) | fail)
  (refine SRt ?_; refine RU ?_)
  exact congrArg Value.bool hdec
 ·have p5 : attOk four u.a = true := by unfold saidOk at p4; rw [if_neg h0] at p4; exact p4
  rw [p5] at h3
  refine Tri_in Tryz.func83 rfl (fun w0 S0 => ?_)
  dsimp only [UpS.ro, UpS.e] at hb ⊢
  rw [p1] at hb ⊢
  repeat' (first | refine SD ?_ | (refine KC ?_; refine HO_callq rfl rfl rfl rfl (h1) (fun _ _ => rfl) (srcsA) rfl rfl sqA ?_) | (refine KC ?_; refine HO_callq rfl rfl rfl rfl (h2) (fun _ _ => rfl) (srcsA) rfl rfl sqA ?_) | (refine KC ?_; refine HO_callq rfl rfl rfl rfl (h3) (fun _ _ => rfl) (srcsA) rfl rfl sqA ?_) | (refine KC ?_; refine HO_callq rfl rfl rfl rfl (h4) (fun _ _ => rfl) (srcsB) rfl rfl sqA ?_) | (refine KC ?_; refine HO_call rfl rfl rfl rfl (hb) rfl (srcsA) rfl rfl soA ?_; intro ⟨x1, c1⟩ g1; dsimp only [lca, lna]) | refine SB ?_ | (refine S2 ?_; intro _) | fail)
  (refine SRt ?_; refine RU ?_)
  exact congrArg Value.bool hdec
theorem rusame_t (u v : UpS) (hs : u.soft = v.soft) (hg : u.gone = v.gone) (hr : u.routes = v.routes) (hp : u.a.pa = v.a.pa) (lu : Lim u.a) (lv : Lim v.a) (gl : u.gone.length ≤ 1000000) (rl : u.routes.length ≤ 1000000) :
  Tri Tryz.prog 40 [.agg u.e.toArray, .agg v.e.toArray] (u.ro ++ v.ro) [] (fun _ : Unit => True) (fun _ => .bool true) (fun _ => []) := by
 obtain ⟨gA, gc, gone, rA, rc, routes, a, soft⟩ := u
 obtain ⟨gA', gc', gone', rA', rc', routes', a', soft'⟩ := v
 dsimp only at hs hg hr hp lu lv gl rl
 subst hs hg hr
 have h1 := rnlsame_t gA gA' gc gc' gone gl
 have h2 := rnlsame_t rA rA' rc rc' routes rl
 have h3 := rsame_t a a' lu lv
 rw [hp, sameB_refl] at h3
 have hbb : (soft == soft) = true := by cases soft <;> rfl
 cases soft
 all_goals
  refine Tri_in Tryz.func40 rfl (fun w0 S0 => ?_)
  dsimp only [UpS.ro, UpS.e, lca, lna]
  repeat' (first | refine SD ?_ | (refine KC ?_; refine HO_callq rfl rfl rfl rfl (h1) (fun _ _ => rfl) (srcsA) rfl rfl sqA ?_) | (refine KC ?_; refine HO_callq rfl rfl rfl rfl (h2) (fun _ _ => rfl) (srcsA) rfl rfl sqA ?_) | (refine KC ?_; refine HO_callq rfl rfl rfl rfl (h3) (fun _ _ => rfl) (srcsA) rfl rfl sqA ?_) | refine SB ?_ | (refine S2 ?_; intro _) | fail)
  (refine SRt ?_; refine RU ?_)
  rfl
theorem arr_cells {sz : Nat} {ad : Addr} {l : List (List Value)} {F : Foot} {w : World} (h : (arr idE sz (some ad) l).p F w) (hl : ∀ x ∈ l, x.length = sz) (hsz : 0 < sz) : ∀ j u, (l.flatMap idE)[j]? = some u → w.cell? (ad.add j) = some u := fun q u hq => by
 have hlen : (l.flatMap idE).length = l.length * sz := flatMap_len (enc := idE) l hl
 have hqlt := (List.getElem?_eq_some_iff.1 hq).1
 rw [hlen] at hqlt
 obtain ⟨ad', hA, _, hc⟩ := h (by intro e; subst e; simp at hqlt)
 injection hA with hA
 subst hA
 have hqd : q / sz < l.length := Nat.div_lt_of_lt_mul (by rw [Nat.mul_comm]; exact hqlt)
 have hx1 : l[q / sz]? = some l[q / sz] := List.getElem?_eq_getElem hqd
 have hkm : q % sz < (idE l[q / sz]).length := by rw [show (idE l[q / sz]).length = sz from hl _ (List.getElem_mem _)]; exact Nat.mod_lt _ hsz
 have h2 := flatMap_at (enc := idE) l hl _ _ hx1 (q % sz) _ (List.getElem?_eq_getElem hkm)
 have h3 := hc _ _ hx1 (q % sz) _ (List.getElem?_eq_getElem hkm)
 have hqe : q / sz * sz + q % sz = q := by rw [Nat.mul_comm]; exact Nat.div_add_mod q sz
 rw [hqe] at h2 h3
 rw [hq] at h2
 injection h2 with h2
 rw [h3, ← h2]
theorem HO_appf {m : Md} {P : Program} {N : Nat} {w0 : World} {S0 : Foot} {ops : List Oper} {i : Nat} {lq : List Nat} {env : Env} {ro rw : List SL} {K : Act → World → Prop} {d : Nat} {ty : TypeId} {pos : String} {aft : Array Edge} {g : Option (Nat × Bool)}
  {T e sz by_ n n2 c2 : Nat} (k1 k2 : Nat) {A A2 : Option Addr} {l l2 : List (List Value)} {x y : Operand} {z : Value} {s1 s2 : SL} [hT : TySlice P T e] [hI : TyInfo P e sz by_] [hZ : TyZero P e z]
  (ho : ops[i]? = some ⟨some d, .call { callee := .builtin .append, args := #[x, y], argTypes := #[T, T] }, ty, pos, aft, g⟩) (hx : Env.ev env x = some (.slice A n n)) (hy : Env.ev env y = some (.slice A2 n2 c2))
  (hk1 : (ro ++ rw)[k1]? = some s1) (hs1 : Ent s1 (arr idE sz A l)) (hk2 : (ro ++ rw)[k2]? = some s2) (hs2 : Ent s2 (arr idE sz A2 l2)) (hn : n = l.length) (hn2 : n2 = l2.length) (hw1 : WfL sz l) (hw2 : WfL sz l2) (hpos : 0 < n2)
  (hzs : Nat.beq z.cells.size sz = true) (hsz : Nat.blt 0 sz = true) (hb : (n + n2) * by_ ≤ 140737488355328) (hb2 : n + n2 ≤ 9223372036854775807)
  (hw : wantE ops env g = some true) (hN : Nat.blt d N = true) (hs : soleB m ops i lq = true)
  (h : ∀ A' c', HO (nmM m) P N w0 S0 ops lq ((d, .slice A' (n + n2) c') :: env) ro (own idE e sz A' (n + n2) c' (l ++ l2) :: rw) K) : HO m P N w0 S0 ops (i :: lq) env ro rw K := by
 refine HO_act_ex (α := Option Addr × Nat) (φ := fun _ => True) (v := fun p => .slice p.1 (n + n2) p.2) (rw' := fun p => own idE e sz p.1 (n + n2) p.2 (l ++ l2) :: rw) ho hw rfl hN hs (fun w1 S1 a S w ha hf => ?_) (fun p _ => h p.1 p.2)
 obtain ⟨F1, _, hp1⟩ := hf.see (List.mem_of_getElem? hk1)
 obtain ⟨F2, hF2, hp2⟩ := hf.see (List.mem_of_getElem? hk2)
 have hr1 := hs1 _ _ hp1
 have hr2 := hs2 _ _ hp2
 have hzs := Nat.eq_of_beq_eq_true hzs
 have hsz : 0 < sz := by simpa [Nat.blt_eq] using hsz
 have hI := hI.h
 have hz := hZ.h
 cases hin : P.info? e with
 | none => simp [hin] at hI
 | some inf =>
  simp [hin] at hI hz
  have hl1 : ∀ x ∈ l, x.length = sz := fun x hx => (hw1 x hx).1
  have hl2 : ∀ x ∈ l2, x.length = sz := fun x hx => (hw2 x hx).1
  have hlen1 : (l.flatMap idE).length = n * sz := by rw [flatMap_len (enc := idE) l hl1, hn]
  have hlen2 : (l2.flatMap idE).length = n2 * sz := by rw [flatMap_len (enc := idE) l2 hl2, hn2]
  obtain ⟨ad2, hA2, hSad, _⟩ := hr2 (by intro e; subst e; simp at hn2; omega)
  subst hA2
  have hc2 := arr_cells hr2 hl2 hsz
  have hone : ∀ u ∈ l2.flatMap idE, u.oneCell' = true := by
   intro u hu
   obtain ⟨y, hyl, hy⟩ := List.mem_flatMap.1 hu
   exact List.all_eq_true.1 (hw2 y hyl).2 u hy
  obtain ⟨v', w', hrun, how, hg⟩ : ∃ v' w', (Builtin.append_ #[T, T] ty #[.slice A n n, .slice (some ad2) n2 c2]).run P w = .ok v' w' ∧ w'.ownsRow w.heap.size e sz v' (n + n2) (l.flatMap idE ++ l2.flatMap idE) ∧ w.grownBy w' none := by
   cases A with
   | some ad => exact run_append_arg_grows (P := P) w T ty e inf z sz by_ hT.h hin hz hI.1 hI.2 hzs hsz ad n n (l.flatMap idE) hlen1 (arr_cells hr1 hl1 hsz) ad2 n2 c2 (l2.flatMap idE) hlen2 hc2 (by omega) (by unfold maxLen; omega) hb
   | none =>
    have hl0 : l = [] := by
     cases l with
     | nil => rfl
     | cons x l =>
      obtain ⟨ad, h1, _⟩ := hr1 (by simp)
      cases h1
    subst hl0
    have hn0 : n = 0 := by simpa using hn
    subst hn0
    obtain ⟨v', w', hrun, how, hg, _⟩ := run_append_any (P := P) w w.heap.size T ty e inf z sz by_ hT.h hin hz hI.1 hI.2 hzs hsz (.slice none 0 0) 0 [] ⟨by simp, .inl ⟨rfl, rfl⟩⟩ w.heap.size (some ad2) n2 c2 (l2.flatMap idE) ⟨hlen2, fun _ => ⟨ad2, rfl, hF2 _ hSad, hc2⟩⟩ hone (by unfold maxLen; omega) hb (Nat.le_refl _)
    exact ⟨v', w', hrun, by simpa using how, hg⟩
  obtain ⟨hlen, how2⟩ := how
  rcases how2 with ⟨_, hn0⟩ | ⟨gb, cap, cur, hv, hgb, hh, hnc, hcm, hcs, htk⟩
  ·omega
  subst hv
  have hlt : gb < w'.heap.size := by
   rcases Nat.lt_or_ge gb w'.heap.size with h' | h'
   ·exact h'
   ·rw [Array.getElem?_eq_none h'] at hh; cases hh
  obtain ⟨T', hf'⟩ := hf.new (w' := w') ⟨hg.os, hg.tape, hg.output, hg.size, fun b hb' => hg.block b hb' (by simp)⟩ [own idE e sz (some ⟨gb, 0, none⟩) (n + n2) cap (l ++ l2)] (fun b => b = gb) (fun b hb' => by subst hb'; exact ⟨hgb, hlt⟩)
   ⟨fun b => b = gb, fun _ => False, fun _ h => h, fun _ h => h.elim, fun _ _ h => h, ⟨by rw [List.length_append, ← hn, ← hn2], ⟨by rw [List.flatMap_append]; exact hlen, .inr ⟨gb, cap, cur, rfl, Nat.zero_le _, hh, hnc, hcm, hcs, by rw [List.flatMap_append]; exact htk⟩⟩, fun ad hA => by injection hA with hA; rw [← hA]⟩, trivial⟩
  refine ⟨(some ⟨gb, 0, none⟩, cap), T', w', trivial, ?_, by simpa using hf'⟩
  simp [execOp, resolve, invoke, builtin, Sem.run_bind, ha.ev hx, ha.ev hy, hrun]
theorem Tri_pre1 {P : Program} {g : Nat} {args : List Value} {ro : List SL} {e e' : SL} {α : Type} {φ : α → Prop} {val : α → Value} {es : α → List SL} (he : Ent e e') (h : Tri P g args ro [e'] φ val es) : Tri P g args ro [e] φ val es := by
 unfold Tri at h ⊢
 exact fun w S hf => h w S ⟨hf.fr, hf.lt, hf.sub, by
  obtain ⟨A, B, h1, h2, h3, h4, h5⟩ := hf.star
  exact ⟨A, B, h1, h2, h3, he _ _ h4, h5⟩, hf.ros⟩
def uz : UpS := ⟨none, 0, [], none, 0, [], az, false⟩
@[reducible] def ntV (c s : Int) : Value := .agg #[.int .i64 c, .int .i64 s, .slice none 0 0]
theorem refuse_t (s : Int) : Tri Tryz.prog 180 [.int .i64 s] [] [] (fun _ : Unit => True) (fun _ => .tuple #[.agg uz.e.toArray, ntV 3 s]) (fun _ => []) := by
 refine Tri_in Tryz.func180 rfl (fun w0 S0 => ?_)
 repeat' (first | refine SB ?_ | (refine S2 ?_; intro _) | fail)
 (refine SRt ?_; refine RU ?_)
 rfl
theorem cutU_none {b : List UInt8} (h : cutU b = none) : b.length < 2 ∨ (2 ≤ b.length ∧ (b.drop 2).length < ge (b.take 2)) ∨
  (2 ≤ b.length ∧ ge (b.take 2) ≤ (b.drop 2).length ∧ ((b.drop 2).drop (ge (b.take 2))).length < 2) ∨
  (2 ≤ b.length ∧ ge (b.take 2) ≤ (b.drop 2).length ∧ 2 ≤ ((b.drop 2).drop (ge (b.take 2))).length ∧ (((b.drop 2).drop (ge (b.take 2))).drop 2).length < ge (((b.drop 2).drop (ge (b.take 2))).take 2)) := by
 unfold cutU at h
 by_cases c1 : b.length < 2
 ·exact .inl c1
 rw [if_neg c1] at h
 simp only at h
 by_cases c2 : (b.drop 2).length < ge (b.take 2)
 ·exact .inr (.inl ⟨by omega, c2⟩)
 rw [if_neg c2] at h
 by_cases c3 : ((b.drop 2).drop (ge (b.take 2))).length < 2
 ·exact .inr (.inr (.inl ⟨by omega, by omega, c3⟩))
 rw [if_neg c3] at h
 by_cases c4 : (((b.drop 2).drop (ge (b.take 2))).drop 2).length < ge (((b.drop 2).drop (ge (b.take 2))).take 2)
 ·exact .inr (.inr (.inr ⟨by omega, by omega, by omega, c4⟩))
 ·rw [if_neg c4] at h
  cases h
structure CutU (b g s c : List UInt8) (n1 n2 : Nat) (d1 d2 d3 : List UInt8) : Prop where
 h1 : 2 ≤ b.length
 e1 : ge (b.take 2) = n1
 e2 : b.drop 2 = d1
 h2 : n1 ≤ d1.length
 e3 : d1.take n1 = g
 e4 : d1.drop n1 = d2
 h3 : 2 ≤ d2.length
 e5 : ge (d2.take 2) = n2
 e6 : d2.drop 2 = d3
 h4 : n2 ≤ d3.length
 e7 : d3.take n2 = s
 e8 : d3.drop n2 = c
theorem cutU_some {b g s c : List UInt8} (h : cutU b = some (g, s, c)) : ∃ n1 n2 d1 d2 d3, CutU b g s c n1 n2 d1 d2 d3 := by
 unfold cutU at h
 split at h
 ·cases h
 simp only at h
 split at h
 ·cases h
 split at h
 ·cases h
 split at h
 ·cases h
 injection h with h
 injection h with a1 h
 injection h with a2 a3
 exact ⟨_, _, _, _, _, ⟨by omega, rfl, rfl, by omega, a1, rfl, by omega, rfl, rfl, by omega, a2, a3⟩⟩
set_option maxRecDepth 100000 in
theorem uget_cut (A : Option Addr) (c : Nat) (b : List UInt8) (hb : b.length ≤ 100000) (four paths : Bool) (h : cutU b = none) :
  Tri Tryz.prog 144 [.slice A b.length c, .bool four, .bool paths] [arr bE 1 A b] [] (fun _ : Unit => True) (fun _ => .tuple #[.agg uz.e.toArray, ntV 3 1]) (fun _ => []) := by
 have hfrom := nfrom_t A b.length c b rfl (by omega)
 have hre := refuse_t 1
 dsimp only [ntV] at hre ⊢
 rcases cutU_none h with h1 | ⟨h1, h2⟩ | ⟨h1, h2, h3⟩ | ⟨h1, h2, h3, h4⟩
 ·have hn1 := fun rb rA rc hc => numS_t rb rA rc b 2 (by decide) h1 hc
  have hb1 := fun rb rA rc hc => bytesB_t rb rA rc b 0 hb hc
  have hn2 := fun rb rA rc hc => numB_t rb rA rc b 2 (by decide) hb hc
  refine Tri_in Tryz.func144 rfl (fun w0 S0 => ?_)
  repeat' (first | (refine KC ?_; refine HO_call rfl rfl rfl rfl (hfrom) rfl (srcsA) rfl rfl soA ?_; intro ⟨rb, ⟨rA, rc⟩⟩ hr; dsimp only [rdP, pt, lca, lna]) | (refine KC ?_; refine HO_call rfl rfl rfl rfl (hn1 rb rA rc hr) rfl (trivial) rfl rfl soA ?_; intro ⟨xA, xc⟩ hx; dsimp only [rdP, pt, lca, lna]) | (refine KC ?_; refine HO_call rfl rfl rfl rfl (hb1 rb xA xc hx) rfl (trivial) rfl rfl soA ?_; intro ⟨⟨uA, uc⟩, ⟨vA, vc⟩⟩ hu; dsimp only [rdP, pt, lca, lna]) | (refine KC ?_; refine HO_mv 2 rfl rfl ?_; refine HO_mv 2 rfl rfl ?_; refine HO_call rfl rfl rfl rfl (hn2 rb vA vc hu.2) rfl (trivial) rfl rfl soA ?_; intro ⟨yA, yc⟩ hy; dsimp only [rdP, pt, lca, lna]) | (refine KC ?_; refine HO_call rfl rfl rfl rfl (hb1 rb yA yc hy) rfl (trivial) rfl rfl soA ?_; intro ⟨⟨sA, sc⟩, ⟨tA, tc⟩⟩ ht; dsimp only [rdP, pt, lca, lna]) | (refine KC ?_; refine HO_callq rfl rfl rfl rfl (nbad_t _ _ _ _ _) (fun _ _ => rfl) (srcsA) rfl rfl sqA ?_) | (refine KC ?_; refine HO_callq rfl rfl rfl rfl (hre) (fun _ _ => rfl) (trivial) rfl rfl sqA ?_) | refine SB ?_ | (refine S2 ?_; intro _) | fail)
  (refine SRt ?_; refine RU ?_)
  rfl
 ·have hn1 := fun rb rA rc hc => numL_t rb rA rc b 2 (by decide) h1 hb hc
  obtain ⟨n1, e1⟩ : ∃ n, ge (b.take 2) = n := ⟨_, rfl⟩
  obtain ⟨d1, e2⟩ : ∃ d, b.drop 2 = d := ⟨_, rfl⟩
  have hd1 : d1.length ≤ 100000 := by rw [← e2, List.length_drop]; omega
  rw [e1, e2] at h2
  simp only [e1, e2] at hn1
  have hb1 := fun rb rA rc hc => bytesS_t rb rA rc d1 n1 h2 hd1 hc
  have hn2 := fun rb rA rc hc => numB_t rb rA rc d1 2 (by decide) hd1 hc
  have hb2 := fun rb rA rc hc => bytesB_t rb rA rc d1 0 hd1 hc
  refine Tri_in Tryz.func144 rfl (fun w0 S0 => ?_)
  repeat' (first | (refine KC ?_; refine HO_call rfl rfl rfl rfl (hfrom) rfl (srcsA) rfl rfl soA ?_; intro ⟨rb, ⟨rA, rc⟩⟩ hr; dsimp only [rdP, pt, lca, lna]) | (refine KC ?_; refine HO_call rfl rfl rfl rfl (hn1 rb rA rc hr) rfl (trivial) rfl rfl soA ?_; intro ⟨xA, xc⟩ hx; dsimp only [rdP, pt, lca, lna]) | (refine KC ?_; refine HO_call rfl rfl rfl rfl (hb1 rb xA xc hx) rfl (trivial) rfl rfl soA ?_; intro ⟨⟨uA, uc⟩, ⟨vA, vc⟩⟩ hu; dsimp only [rdP, pt, lca, lna]) | (refine KC ?_; refine HO_mv 2 rfl rfl ?_; refine HO_mv 2 rfl rfl ?_; refine HO_call rfl rfl rfl rfl (hn2 rb vA vc hu.2) rfl (trivial) rfl rfl soA ?_; intro ⟨yA, yc⟩ hy; dsimp only [rdP, pt, lca, lna]) | (refine KC ?_; refine HO_call rfl rfl rfl rfl (hb2 rb yA yc hy) rfl (trivial) rfl rfl soA ?_; intro ⟨⟨sA, sc⟩, ⟨tA, tc⟩⟩ ht; dsimp only [rdP, pt, lca, lna]) | (refine KC ?_; refine HO_callq rfl rfl rfl rfl (nbad_t _ _ _ _ _) (fun _ _ => rfl) (srcsA) rfl rfl sqA ?_) | (refine KC ?_; refine HO_callq rfl rfl rfl rfl (hre) (fun _ _ => rfl) (trivial) rfl rfl sqA ?_) | refine SB ?_ | (refine S2 ?_; intro _) | fail)
  (refine SRt ?_; refine RU ?_)
  rfl
 ·have hn1 := fun rb rA rc hc => numL_t rb rA rc b 2 (by decide) h1 hb hc
  obtain ⟨n1, e1⟩ : ∃ n, ge (b.take 2) = n := ⟨_, rfl⟩
  obtain ⟨d1, e2⟩ : ∃ d, b.drop 2 = d := ⟨_, rfl⟩
  have hd1 : d1.length ≤ 100000 := by rw [← e2, List.length_drop]; omega
  rw [e1, e2] at h2 h3
  simp only [e1, e2] at hn1
  have hb1 := fun rb rA rc hc => bytesL_t rb rA rc d1 n1 h2 hd1 hc
  obtain ⟨d2, e4⟩ : ∃ d, d1.drop n1 = d := ⟨_, rfl⟩
  have hd2 : d2.length ≤ 100000 := by rw [← e4, List.length_drop]; omega
  rw [e4] at h3
  simp only [e4] at hb1
  have hn2 := fun rb rA rc hc => numS_t rb rA rc d2 2 (by decide) h3 hc
  have hb2 := fun rb rA rc hc => bytesB_t rb rA rc d2 0 hd2 hc
  refine Tri_in Tryz.func144 rfl (fun w0 S0 => ?_)
  repeat' (first | (refine KC ?_; refine HO_call rfl rfl rfl rfl (hfrom) rfl (srcsA) rfl rfl soA ?_; intro ⟨rb, ⟨rA, rc⟩⟩ hr; dsimp only [rdP, pt, lca, lna]) | (refine KC ?_; refine HO_call rfl rfl rfl rfl (hn1 rb rA rc hr) rfl (trivial) rfl rfl soA ?_; intro ⟨xA, xc⟩ hx; dsimp only [rdP, pt, lca, lna]) | (refine KC ?_; refine HO_call rfl rfl rfl rfl (hb1 rb xA xc hx) rfl (trivial) rfl rfl soA ?_; intro ⟨⟨uA, uc⟩, ⟨vA, vc⟩⟩ hu; dsimp only [rdP, pt, lca, lna]) | (refine KC ?_; refine HO_mv 2 rfl rfl ?_; refine HO_mv 2 rfl rfl ?_; refine HO_call rfl rfl rfl rfl (hn2 rb vA vc hu.2) rfl (trivial) rfl rfl soA ?_; intro ⟨yA, yc⟩ hy; dsimp only [rdP, pt, lca, lna]) | (refine KC ?_; refine HO_call rfl rfl rfl rfl (hb2 rb yA yc hy) rfl (trivial) rfl rfl soA ?_; intro ⟨⟨sA, sc⟩, ⟨tA, tc⟩⟩ ht; dsimp only [rdP, pt, lca, lna]) | (refine KC ?_; refine HO_callq rfl rfl rfl rfl (nbad_t _ _ _ _ _) (fun _ _ => rfl) (srcsA) rfl rfl sqA ?_) | (refine KC ?_; refine HO_callq rfl rfl rfl rfl (hre) (fun _ _ => rfl) (trivial) rfl rfl sqA ?_) | refine SB ?_ | (refine S2 ?_; intro _) | fail)
  (refine SRt ?_; refine RU ?_)
  rfl
 ·have hn1 := fun rb rA rc hc => numL_t rb rA rc b 2 (by decide) h1 hb hc
  obtain ⟨n1, e1⟩ : ∃ n, ge (b.take 2) = n := ⟨_, rfl⟩
  obtain ⟨d1, e2⟩ : ∃ d, b.drop 2 = d := ⟨_, rfl⟩
  have hd1 : d1.length ≤ 100000 := by rw [← e2, List.length_drop]; omega
  rw [e1, e2] at h2 h3 h4
  simp only [e1, e2] at hn1
  have hb1 := fun rb rA rc hc => bytesL_t rb rA rc d1 n1 h2 hd1 hc
  obtain ⟨d2, e4⟩ : ∃ d, d1.drop n1 = d := ⟨_, rfl⟩
  have hd2 : d2.length ≤ 100000 := by rw [← e4, List.length_drop]; omega
  rw [e4] at h3 h4
  simp only [e4] at hb1
  have hn2 := fun rb rA rc hc => numL_t rb rA rc d2 2 (by decide) h3 hd2 hc
  obtain ⟨n2, e5⟩ : ∃ n, ge (d2.take 2) = n := ⟨_, rfl⟩
  obtain ⟨d3, e6⟩ : ∃ d, d2.drop 2 = d := ⟨_, rfl⟩
  have hd3 : d3.length ≤ 100000 := by rw [← e6, List.length_drop]; omega
  rw [e5, e6] at h4
  simp only [e5, e6] at hn2
  have hb2 := fun rb rA rc hc => bytesS_t rb rA rc d3 n2 h4 hd3 hc
  refine Tri_in Tryz.func144 rfl (fun w0 S0 => ?_)
  repeat' (first | (refine KC ?_; refine HO_call rfl rfl rfl rfl (hfrom) rfl (srcsA) rfl rfl soA ?_; intro ⟨rb, ⟨rA, rc⟩⟩ hr; dsimp only [rdP, pt, lca, lna]) | (refine KC ?_; refine HO_call rfl rfl rfl rfl (hn1 rb rA rc hr) rfl (trivial) rfl rfl soA ?_; intro ⟨xA, xc⟩ hx; dsimp only [rdP, pt, lca, lna]) | (refine KC ?_; refine HO_call rfl rfl rfl rfl (hb1 rb xA xc hx) rfl (trivial) rfl rfl soA ?_; intro ⟨⟨uA, uc⟩, ⟨vA, vc⟩⟩ hu; dsimp only [rdP, pt, lca, lna]) | (refine KC ?_; refine HO_mv 2 rfl rfl ?_; refine HO_mv 2 rfl rfl ?_; refine HO_call rfl rfl rfl rfl (hn2 rb vA vc hu.2) rfl (trivial) rfl rfl soA ?_; intro ⟨yA, yc⟩ hy; dsimp only [rdP, pt, lca, lna]) | (refine KC ?_; refine HO_call rfl rfl rfl rfl (hb2 rb yA yc hy) rfl (trivial) rfl rfl soA ?_; intro ⟨⟨sA, sc⟩, ⟨tA, tc⟩⟩ ht; dsimp only [rdP, pt, lca, lna]) | (refine KC ?_; refine HO_callq rfl rfl rfl rfl (nbad_t _ _ _ _ _) (fun _ _ => rfl) (srcsA) rfl rfl sqA ?_) | (refine KC ?_; refine HO_callq rfl rfl rfl rfl (hre) (fun _ _ => rfl) (trivial) rfl rfl sqA ?_) | refine SB ?_ | (refine S2 ?_; intro _) | fail)
  (refine SRt ?_; refine RU ?_)
  rfl
theorem Keeps.comp {a b c : List SL} (h1 : Keeps a b) (h2 : Keeps b c) : Keeps a c := fun S w h =>
 let ⟨T, h3, h4⟩ := h1 S w h
 let ⟨U, h5, h6⟩ := h2 T w h4
 ⟨U, fun b hb => h3 b (h5 b hb), h6⟩
theorem Tri_capN {P : Program} {g : Nat} {args : List Value} {ro rw : List SL} {φ : OA → Prop} {val : OA → Value} {l : List Nl} (h : Tri P g args ro rw φ val (fun x => [ownN x l])) :
  Tri P g args ro rw (fun x => l.length ≤ x.2) val (fun x => [ownN x l]) := by
 unfold Tri at h ⊢
 exact fun w S hf => (h w S hf).mono fun e w' ⟨x, T, hx, he, hfx⟩ => ⟨x, T, own_cap ro.length (by rw [List.getElem?_append_right (Nat.le_refl _), Nat.sub_self]; rfl) hfx.roOk, he, hfx⟩
theorem nlgB_t (A : Option Addr) (c : Nat) (l : List UInt8) (hb : l.length ≤ 100000) (hc : l.length ≤ c) (paths : Bool) (h : getR paths [] l = none) :
  Tri Tryz.prog 181 [.slice A l.length c, .bool paths] [] [ownB (A, c) l] (fun _ : Unit => True) (fun _ => .tuple #[.slice none 0 0, .int .i64 60]) (fun _ => []) := Tri_pre1 own_byte (nlg_bad A c l hb hc paths h)
theorem nlgO_t (A : Option Addr) (c : Nat) (l : List UInt8) (hb : l.length ≤ 100000) (hc : l.length ≤ c) (paths : Bool) (m : List Nl) (h : getR paths [] l = some m) :
  Tri Tryz.prog 181 [.slice A l.length c, .bool paths] [] [ownB (A, c) l] (fun x : OA => m.length ≤ x.2) (fun x => .tuple #[.slice x.1 m.length x.2, .int .i64 0]) (fun x => [ownN x m]) := Tri_capN (Tri_pre1 own_byte (nlg_t A c l hb hc paths m h))
theorem own_nl {x : OA} {l : List Nl} : Ent (ownN x l) (arr Nl.e 3 x.1 l) := fun S w h => arr_typed l S w (own_wf (WfL.map (enc := Nl.e)) S w h)
theorem az_keeps0 {rw : List SL} : Keeps rw [inn (segPs az.path), arr SegS.e 2 az.pA az.path, arr iE 1 az.cA az.comms] := az_keeps
set_option maxRecDepth 100000 in
theorem uget_nlri (A : Option Addr) (c : Nat) (b g s k : List UInt8) (hb : b.length ≤ 100000) (four paths : Bool) (hcut : cutU b = some (g, s, k)) (m : List Nl) (hl : getR paths [] g = none) (hm : getR paths [] k = some m) :
  Tri Tryz.prog 144 [.slice A b.length c, .bool four, .bool paths] [arr bE 1 A b] [] (fun _ : Unit => True) (fun _ => .tuple #[.agg uz.e.toArray, ntV 3 10]) (fun _ => []) := by
 have hfrom := nfrom_t A b.length c b rfl (by omega)
 obtain ⟨n1, n2, d1, d2, d3, hU⟩ := cutU_some hcut
 obtain ⟨h1, e1, e2, h2, e3, e4, h3, e5, e6, h4, e7, e8⟩ := hU
 have hd1 : d1.length ≤ 100000 := by rw [← e2, List.length_drop]; omega
 have hd2 : d2.length ≤ 100000 := by rw [← e4, List.length_drop]; omega
 have hd3 : d3.length ≤ 100000 := by rw [← e6, List.length_drop]; omega
 have hgl : g.length ≤ 100000 := by rw [← e3, List.length_take]; omega
 have hsl : s.length ≤ 100000 := by rw [← e7, List.length_take]; omega
 have hcl : k.length ≤ 100000 := by rw [← e8, List.length_drop]; omega
 have hn1 := fun rb rA rc hc => numL_t rb rA rc b 2 (by decide) h1 hb hc
 have hb1 := fun rb rA rc hc => bytesL_t rb rA rc d1 n1 h2 hd1 hc
 have hn2 := fun rb rA rc hc => numL_t rb rA rc d2 2 (by decide) h3 hd2 hc
 have hb2 := fun rb rA rc hc => bytesL_t rb rA rc d3 n2 h4 hd3 hc
 have hb3 := fun rb rA rc hc => bytesAll_t rb rA rc k hcl hc
 simp only [e1, e2] at hn1
 simp only [e3, e4] at hb1
 simp only [e5, e6] at hn2
 simp only [e7, e8] at hb2
 clear e1 e2 e3 e4 e5 e6 e7 e8
 have hg1 := fun A c hc => nlgB_t A c g hgl hc paths hl
 have hg2 := fun A c hc => nlgO_t A c k hcl hc paths m hm
 have hre := refuse_t 10
 dsimp only [ntV] at hre ⊢
 refine Tri_in Tryz.func144 rfl (fun w0 S0 => ?_)
 repeat' (first | refine SD ?_ | (refine KC ?_; refine HO_call rfl rfl rfl rfl (hfrom) rfl (srcsA) rfl rfl soA ?_; intro ⟨rb, ⟨rA, rc⟩⟩ hr; dsimp only [rdP, pt, lca, lna]) | (refine KC ?_; refine HO_call rfl rfl rfl rfl (hn1 rb rA rc hr) rfl (trivial) rfl rfl soA ?_; intro ⟨xA, xc⟩ hx; dsimp only [rdP, pt, lca, lna]) | (refine KC ?_; refine HO_call rfl rfl rfl rfl (hb1 rb xA xc hx) rfl (trivial) rfl rfl soA ?_; intro ⟨⟨uA, uc⟩, ⟨vA, vc⟩⟩ hu; dsimp only [rdP, pt, lca, lna]) | (refine KC ?_; refine HO_mv 2 rfl rfl ?_; refine HO_mv 2 rfl rfl ?_; refine HO_call rfl rfl rfl rfl (hn2 rb vA vc hu.2) rfl (trivial) rfl rfl soA ?_; intro ⟨yA, yc⟩ hy; dsimp only [rdP, pt, lca, lna]) | (refine KC ?_; refine HO_call rfl rfl rfl rfl (hb2 rb yA yc hy) rfl (trivial) rfl rfl soA ?_; intro ⟨⟨sA, sc⟩, ⟨tA, tc⟩⟩ ht; dsimp only [rdP, pt, lca, lna]) | (refine KC ?_; refine HO_callq rfl rfl rfl rfl (nbad_t _ _ _ _ _) (fun _ _ => rfl) (srcsA) rfl rfl sqA ?_) | (refine KC ?_; refine HO_callq rfl rfl rfl rfl (nleftF_t _ _ _ _) (fun _ _ => rfl) (srcsA) rfl rfl sqA ?_) | (refine KC ?_; refine HO_mv 3 rfl rfl ?_; refine HO_call rfl rfl rfl rfl (hg1 uA uc hu.1) rfl (trivial) rfl rfl soA ?_; intro q hq; dsimp only [lca, lna]) | (refine KC ?_; refine HO_mv 2 rfl rfl ?_; refine HO_mv 2 rfl rfl ?_; refine HO_call rfl rfl rfl rfl (hb3 rb tA tc ht.2) rfl (trivial) rfl rfl soA ?_; intro ⟨⟨kA, kc⟩, ⟨wA, wc⟩⟩ hk; dsimp only [rdP, pt, lca, lna]) | (refine KC ?_; refine HO_call rfl rfl rfl rfl (hg2 kA kc hk.1) rfl (trivial) rfl rfl soA ?_; intro ⟨mA, mc⟩ hm; dsimp only [lca, lna]) | (refine KC ?_; refine HO_callq rfl rfl rfl rfl (hre) (fun _ _ => rfl) (trivial) rfl rfl sqA ?_) | refine SB ?_ | (refine S2 ?_; intro _) | fail)
 (refine SRt ?_; refine RU ?_)
 rfl
set_option maxRecDepth 100000 in
theorem uget_gone (A : Option Addr) (c : Nat) (b g s k : List UInt8) (hb : b.length ≤ 100000) (four paths : Bool) (hcut : cutU b = some (g, s, k)) (l m : List Nl) (hl : getR paths [] g = some l) (hme : m = []) (hm : getR paths [] k = some m) :
  Tri Tryz.prog 144 [.slice A b.length c, .bool four, .bool paths] [arr bE 1 A b] [] (fun x : UpS => x.gone = l ∧ x.routes = [] ∧ x.a = az ∧ x.soft = false) (fun x => .tuple #[.agg x.e.toArray, ntV 0 0]) (fun x => x.ro) := by
 have hfrom := nfrom_t A b.length c b rfl (by omega)
 obtain ⟨n1, n2, d1, d2, d3, hU⟩ := cutU_some hcut
 obtain ⟨h1, e1, e2, h2, e3, e4, h3, e5, e6, h4, e7, e8⟩ := hU
 have hd1 : d1.length ≤ 100000 := by rw [← e2, List.length_drop]; omega
 have hd2 : d2.length ≤ 100000 := by rw [← e4, List.length_drop]; omega
 have hd3 : d3.length ≤ 100000 := by rw [← e6, List.length_drop]; omega
 have hgl : g.length ≤ 100000 := by rw [← e3, List.length_take]; omega
 have hsl : s.length ≤ 100000 := by rw [← e7, List.length_take]; omega
 have hcl : k.length ≤ 100000 := by rw [← e8, List.length_drop]; omega
 have hn1 := fun rb rA rc hc => numL_t rb rA rc b 2 (by decide) h1 hb hc
 have hb1 := fun rb rA rc hc => bytesL_t rb rA rc d1 n1 h2 hd1 hc
 have hn2 := fun rb rA rc hc => numL_t rb rA rc d2 2 (by decide) h3 hd2 hc
 have hb2 := fun rb rA rc hc => bytesL_t rb rA rc d3 n2 h4 hd3 hc
 have hb3 := fun rb rA rc hc => bytesAll_t rb rA rc k hcl hc
 simp only [e1, e2] at hn1
 simp only [e3, e4] at hb1
 simp only [e5, e6] at hn2
 simp only [e7, e8] at hb2
 clear e1 e2 e3 e4 e5 e6 e7 e8
 have hg1 := fun A c hc => nlgO_t A c g hgl hc paths l hl
 have hg2 := fun A c hc => nlgO_t A c k hcl hc paths m hm
 have hll := getR_le hl
 have hml := getR_le hm
 rw [hme] at hg2
 refine Tri_in Tryz.func144 rfl (fun w0 S0 => ?_)
 repeat' (first | refine SD ?_ | (refine KC ?_; refine HO_call rfl rfl rfl rfl (hfrom) rfl (srcsA) rfl rfl soA ?_; intro ⟨rb, ⟨rA, rc⟩⟩ hr; dsimp only [rdP, pt, lca, lna]) | (refine KC ?_; refine HO_call rfl rfl rfl rfl (hn1 rb rA rc hr) rfl (trivial) rfl rfl soA ?_; intro ⟨xA, xc⟩ hx; dsimp only [rdP, pt, lca, lna]) | (refine KC ?_; refine HO_call rfl rfl rfl rfl (hb1 rb xA xc hx) rfl (trivial) rfl rfl soA ?_; intro ⟨⟨uA, uc⟩, ⟨vA, vc⟩⟩ hu; dsimp only [rdP, pt, lca, lna]) | (refine KC ?_; refine HO_mv 2 rfl rfl ?_; refine HO_mv 2 rfl rfl ?_; refine HO_call rfl rfl rfl rfl (hn2 rb vA vc hu.2) rfl (trivial) rfl rfl soA ?_; intro ⟨yA, yc⟩ hy; dsimp only [rdP, pt, lca, lna]) | (refine KC ?_; refine HO_call rfl rfl rfl rfl (hb2 rb yA yc hy) rfl (trivial) rfl rfl soA ?_; intro ⟨⟨sA, sc⟩, ⟨tA, tc⟩⟩ ht; dsimp only [rdP, pt, lca, lna]) | (refine KC ?_; refine HO_callq rfl rfl rfl rfl (nbad_t _ _ _ _ _) (fun _ _ => rfl) (srcsA) rfl rfl sqA ?_) | (refine KC ?_; refine HO_callq rfl rfl rfl rfl (nleftF_t _ _ _ _) (fun _ _ => rfl) (srcsA) rfl rfl sqA ?_) | (refine KC ?_; refine HO_mv 3 rfl rfl ?_; refine HO_call rfl rfl rfl rfl (hg1 uA uc hu.1) rfl (trivial) rfl rfl soA ?_; intro ⟨lA, lc⟩ hl1; have hl2 : l.length ≤ lc := hl1; dsimp only [lca, lna]) | (refine KC ?_; refine HO_mv 3 rfl rfl ?_; refine HO_mv 3 rfl rfl ?_; refine HO_call rfl rfl rfl rfl (hb3 rb tA tc ht.2) rfl (trivial) rfl rfl soA ?_; intro ⟨⟨kA, kc⟩, ⟨wA, wc⟩⟩ hk; dsimp only [rdP, pt, lca, lna]) | (refine KC ?_; refine HO_call rfl rfl rfl rfl (hg2 kA kc hk.1) rfl (trivial) rfl rfl soA ?_; intro ⟨mA, mc⟩ hm; dsimp only [lca, lna]) | refine SB ?_ | (refine S2 ?_; intro _) | fail)
 (refine SRt ?_; unfold RetQ; refine ⟨(⟨lA, lc, l, none, 0, [], az, false⟩ : UpS), ⟨rfl, rfl, rfl, rfl⟩, rfl, (by repeat (first | exact Keeps.cons own_nl (Keeps.add (fun w => arr_nil _ w) az_keeps0) | refine Keeps.skip ?_))⟩)
set_option maxRecDepth 100000 in
theorem uget_fine (A : Option Addr) (c : Nat) (b g s k : List UInt8) (hb : b.length ≤ 100000) (four paths : Bool) (hcut : cutU b = some (g, s, k)) (l m : List Nl) (hl : getR paths [] g = some l) (hm : getR paths [] k = some m) (hne : 0 < m.length) (p : PA) (hp : getG (szF four) s = (p, 1)) :
  Tri Tryz.prog 144 [.slice A b.length c, .bool four, .bool paths] [arr bE 1 A b] [] (fun x : UpS => x.gone = l ∧ x.routes = m ∧ x.a.pa = p ∧ x.soft = false) (fun x => .tuple #[.agg x.e.toArray, ntV 0 0]) (fun x => x.ro) := by
 have hfrom := nfrom_t A b.length c b rfl (by omega)
 obtain ⟨n1, n2, d1, d2, d3, hU⟩ := cutU_some hcut
 obtain ⟨h1, e1, e2, h2, e3, e4, h3, e5, e6, h4, e7, e8⟩ := hU
 have hd1 : d1.length ≤ 100000 := by rw [← e2, List.length_drop]; omega
 have hd2 : d2.length ≤ 100000 := by rw [← e4, List.length_drop]; omega
 have hd3 : d3.length ≤ 100000 := by rw [← e6, List.length_drop]; omega
 have hgl : g.length ≤ 100000 := by rw [← e3, List.length_take]; omega
 have hsl : s.length ≤ 100000 := by rw [← e7, List.length_take]; omega
 have hcl : k.length ≤ 100000 := by rw [← e8, List.length_drop]; omega
 have hn1 := fun rb rA rc hc => numL_t rb rA rc b 2 (by decide) h1 hb hc
 have hb1 := fun rb rA rc hc => bytesL_t rb rA rc d1 n1 h2 hd1 hc
 have hn2 := fun rb rA rc hc => numL_t rb rA rc d2 2 (by decide) h3 hd2 hc
 have hb2 := fun rb rA rc hc => bytesL_t rb rA rc d3 n2 h4 hd3 hc
 have hb3 := fun rb rA rc hc => bytesAll_t rb rA rc k hcl hc
 simp only [e1, e2] at hn1
 simp only [e3, e4] at hb1
 simp only [e5, e6] at hn2
 simp only [e7, e8] at hb2
 clear e1 e2 e3 e4 e5 e6 e7 e8
 have hg1 := fun A c hc => nlgO_t A c g hgl hc paths l hl
 have hg2 := fun A c hc => nlgO_t A c k hcl hc paths m hm
 have hll := getR_le hl
 have hml := getR_le hm
 have hat := fun A c => aget_t four A c s hsl
 rw [hp] at hat
 refine Tri_in Tryz.func144 rfl (fun w0 S0 => ?_)
 repeat' (first | refine SD ?_ | (refine KC ?_; refine HO_call rfl rfl rfl rfl (hfrom) rfl (srcsA) rfl rfl soA ?_; intro ⟨rb, ⟨rA, rc⟩⟩ hr; dsimp only [rdP, pt, lca, lna]) | (refine KC ?_; refine HO_call rfl rfl rfl rfl (hn1 rb rA rc hr) rfl (trivial) rfl rfl soA ?_; intro ⟨xA, xc⟩ hx; dsimp only [rdP, pt, lca, lna]) | (refine KC ?_; refine HO_call rfl rfl rfl rfl (hb1 rb xA xc hx) rfl (trivial) rfl rfl soA ?_; intro ⟨⟨uA, uc⟩, ⟨vA, vc⟩⟩ hu; dsimp only [rdP, pt, lca, lna]) | (refine KC ?_; refine HO_mv 2 rfl rfl ?_; refine HO_mv 2 rfl rfl ?_; refine HO_call rfl rfl rfl rfl (hn2 rb vA vc hu.2) rfl (trivial) rfl rfl soA ?_; intro ⟨yA, yc⟩ hy; dsimp only [rdP, pt, lca, lna]) | (refine KC ?_; refine HO_call rfl rfl rfl rfl (hb2 rb yA yc hy) rfl (trivial) rfl rfl soA ?_; intro ⟨⟨sA, sc⟩, ⟨tA, tc⟩⟩ ht; dsimp only [rdP, pt, lca, lna]) | (refine KC ?_; refine HO_callq rfl rfl rfl rfl (nbad_t _ _ _ _ _) (fun _ _ => rfl) (srcsA) rfl rfl sqA ?_) | (refine KC ?_; refine HO_callq rfl rfl rfl rfl (nleftF_t _ _ _ _) (fun _ _ => rfl) (srcsA) rfl rfl sqA ?_) | (refine KC ?_; refine HO_mv 3 rfl rfl ?_; refine HO_call rfl rfl rfl rfl (hg1 uA uc hu.1) rfl (trivial) rfl rfl soA ?_; intro ⟨lA, lc⟩ hl1; have hl2 : l.length ≤ lc := hl1; dsimp only [lca, lna]) | (refine KC ?_; refine HO_mv 3 rfl rfl ?_; refine HO_mv 3 rfl rfl ?_; refine HO_call rfl rfl rfl rfl (hb3 rb tA tc ht.2) rfl (trivial) rfl rfl soA ?_; intro ⟨⟨kA, kc⟩, ⟨wA, wc⟩⟩ hk; dsimp only [rdP, pt, lca, lna]) | (refine KC ?_; refine HO_call rfl rfl rfl rfl (hg2 kA kc hk.1) rfl (trivial) rfl rfl soA ?_; intro ⟨mA, mc⟩ hm; dsimp only [lca, lna]) | (refine KC ?_; refine HO_call rfl rfl rfl rfl (hat sA sc) rfl (srcsA) rfl rfl soA ?_; intro a ha; dsimp only [AttS.ro, lca, lna]) | refine SB ?_ | (refine S2 ?_; intro _) | fail)
 (refine SRt ?_; unfold RetQ; refine ⟨(⟨lA, lc, l, mA, mc, m, a, false⟩ : UpS), ⟨rfl, rfl, ha, rfl⟩, rfl, (Keeps.comp (b := [ownN (lA, lc) l, ownN (mA, mc) m, inn (segPs a.path), arr SegS.e 2 a.pA a.path, arr iE 1 a.cA a.comms]) permA (Keeps.cons own_nl (Keeps.cons own_nl Keeps.refl)))⟩)
set_option maxRecDepth 100000 in
theorem uget_soft (A : Option Addr) (c : Nat) (b g s k : List UInt8) (hb : b.length ≤ 100000) (four paths : Bool) (hcut : cutU b = some (g, s, k)) (l m : List Nl) (hl : getR paths [] g = some l) (hm : getR paths [] k = some m) (hne : 0 < m.length) (v : Int) (hv : v ≠ 1) (p : PA) (hp : getG (szF four) s = (p, v)) :
  Tri Tryz.prog 144 [.slice A b.length c, .bool four, .bool paths] [arr bE 1 A b] [] (fun x : UpS => x.gone = l ++ m ∧ x.routes = [] ∧ x.a = az ∧ x.soft = true) (fun x => .tuple #[.agg x.e.toArray, ntV 0 0]) (fun x => x.ro) := by
 have hfrom := nfrom_t A b.length c b rfl (by omega)
 obtain ⟨n1, n2, d1, d2, d3, hU⟩ := cutU_some hcut
 obtain ⟨h1, e1, e2, h2, e3, e4, h3, e5, e6, h4, e7, e8⟩ := hU
 have hd1 : d1.length ≤ 100000 := by rw [← e2, List.length_drop]; omega
 have hd2 : d2.length ≤ 100000 := by rw [← e4, List.length_drop]; omega
 have hd3 : d3.length ≤ 100000 := by rw [← e6, List.length_drop]; omega
 have hgl : g.length ≤ 100000 := by rw [← e3, List.length_take]; omega
 have hsl : s.length ≤ 100000 := by rw [← e7, List.length_take]; omega
 have hcl : k.length ≤ 100000 := by rw [← e8, List.length_drop]; omega
 have hn1 := fun rb rA rc hc => numL_t rb rA rc b 2 (by decide) h1 hb hc
 have hb1 := fun rb rA rc hc => bytesL_t rb rA rc d1 n1 h2 hd1 hc
 have hn2 := fun rb rA rc hc => numL_t rb rA rc d2 2 (by decide) h3 hd2 hc
 have hb2 := fun rb rA rc hc => bytesL_t rb rA rc d3 n2 h4 hd3 hc
 have hb3 := fun rb rA rc hc => bytesAll_t rb rA rc k hcl hc
 simp only [e1, e2] at hn1
 simp only [e3, e4] at hb1
 simp only [e5, e6] at hn2
 simp only [e7, e8] at hb2
 clear e1 e2 e3 e4 e5 e6 e7 e8
 have hg1 := fun A c hc => nlgO_t A c g hgl hc paths l hl
 have hg2 := fun A c hc => nlgO_t A c k hcl hc paths m hm
 have hll := getR_le hl
 have hml := getR_le hm
 have hat := fun A c => aget_t four A c s hsl
 rw [hp] at hat
 refine Tri_in Tryz.func144 rfl (fun w0 S0 => ?_)
 repeat' (first | refine SD ?_ | (refine KC ?_; refine HO_call rfl rfl rfl rfl (hfrom) rfl (srcsA) rfl rfl soA ?_; intro ⟨rb, ⟨rA, rc⟩⟩ hr; dsimp only [rdP, pt, lca, lna]) | (refine KC ?_; refine HO_call rfl rfl rfl rfl (hn1 rb rA rc hr) rfl (trivial) rfl rfl soA ?_; intro ⟨xA, xc⟩ hx; dsimp only [rdP, pt, lca, lna]) | (refine KC ?_; refine HO_call rfl rfl rfl rfl (hb1 rb xA xc hx) rfl (trivial) rfl rfl soA ?_; intro ⟨⟨uA, uc⟩, ⟨vA, vc⟩⟩ hu; dsimp only [rdP, pt, lca, lna]) | (refine KC ?_; refine HO_mv 2 rfl rfl ?_; refine HO_mv 2 rfl rfl ?_; refine HO_call rfl rfl rfl rfl (hn2 rb vA vc hu.2) rfl (trivial) rfl rfl soA ?_; intro ⟨yA, yc⟩ hy; dsimp only [rdP, pt, lca, lna]) | (refine KC ?_; refine HO_call rfl rfl rfl rfl (hb2 rb yA yc hy) rfl (trivial) rfl rfl soA ?_; intro ⟨⟨sA, sc⟩, ⟨tA, tc⟩⟩ ht; dsimp only [rdP, pt, lca, lna]) | (refine KC ?_; refine HO_callq rfl rfl rfl rfl (nbad_t _ _ _ _ _) (fun _ _ => rfl) (srcsA) rfl rfl sqA ?_) | (refine KC ?_; refine HO_callq rfl rfl rfl rfl (nleftF_t _ _ _ _) (fun _ _ => rfl) (srcsA) rfl rfl sqA ?_) | (refine KC ?_; refine HO_mv 3 rfl rfl ?_; refine HO_call rfl rfl rfl rfl (hg1 uA uc hu.1) rfl (trivial) rfl rfl soA ?_; intro ⟨lA, lc⟩ hl1; have hl2 : l.length ≤ lc := hl1; dsimp only [lca, lna]) | (refine KC ?_; refine HO_mv 3 rfl rfl ?_; refine HO_mv 3 rfl rfl ?_; refine HO_call rfl rfl rfl rfl (hb3 rb tA tc ht.2) rfl (trivial) rfl rfl soA ?_; intro ⟨⟨kA, kc⟩, ⟨wA, wc⟩⟩ hk; dsimp only [rdP, pt, lca, lna]) | (refine KC ?_; refine HO_call rfl rfl rfl rfl (hg2 kA kc hk.1) rfl (trivial) rfl rfl soA ?_; intro ⟨mA, mc⟩ hm; dsimp only [lca, lna]) | (refine KC ?_; refine HO_call rfl rfl rfl rfl (hat sA sc) rfl (srcsA) rfl rfl soA ?_; intro a ha; dsimp only [AttS.ro, lca, lna]) | (refine HO_k 11 rfl ?_; refine HO_appf 8 5 rfl rfl rfl rfl (own_wf WfL.map) rfl (own_wf WfL.map) (by simp) (by simp) WfL.map WfL.map (by omega) rfl rfl ?hb ?hb2 rfl rfl soA ?_; (case hb => simp; omega); (case hb2 => simp; omega); intro A' c') | refine SB ?_ | (refine S2 ?_; intro _) | fail)
 rename_i A' c'
 have eM : List.map Nl.e l ++ List.map Nl.e m = List.map Nl.e (l ++ m) := List.map_append.symm
 have eL : ((l.length : Nat) : Int).toNat + m.length = (l ++ m).length := by rw [Int.toNat_natCast, List.length_append]
 rw [eL, eM]
 (refine SRt ?_; unfold RetQ; refine ⟨(⟨A', c', l ++ m, none, 0, [], az, true⟩ : UpS), ⟨rfl, rfl, rfl, rfl⟩, rfl, (Keeps.cons (own_nl (x := (A', c')) (l := l ++ m)) (Keeps.add (fun w => arr_nil _ w) az_keeps0))⟩)
theorem ok_parts {four paths : Bool} {u : UpS} (h : upOk four paths u = true) : upPre four paths u = true ∧ (upB four paths u).length ≤ 4077 := by
 unfold upOk at h
 rw [Bool.and_eq_true, decide_eq_true_eq] at h
 exact h
theorem uz_w : UpW uz := ⟨fun x hx => (by cases hx), fun x hx => (by cases hx), by decide, ⟨by decide, by decide, fun s hs => (by cases hs)⟩, by decide, by decide⟩
end Go.Proofs.YteeogabkkblkgaaGreatDoor
