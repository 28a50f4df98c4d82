/- Part of a proof of many texts: what the theorem at its end leans on. -/
import Derived.Test.YtbhiojedmkcfoaaGreatDoorZSdL
import Derived.Test.YtbhiojedmkcfoaaGreatDoorZScI
import Derived.Test.YtbhiojedmkcfoaaGreatDoorZScZ
namespace Go.Proofs.YtbhiojedmkcfoaaGreatDoor
set_option linter.unusedVariables false
set_option linter.unusedSimpArgs false
open Go.RowKit
attribute [local irreducible] HC HX HO Tri eP adr
theorem SYSdM {p q : Prop} (hq : q) (h : q → p := by intro hq; refine HO_k 3 rfl ?_; exact HO_lastG (by decide +kernel) rfl rfl (by decide +kernel) (by decide +kernel) rfl hq) : p := h hq
def lgD (d : DoQ) : Bool := decide (9000 < d.data.length) || (decide (300 < d.cl.length) || decide (300 < d.rl.length))
def lgC (c : CfQ) : Bool := decide ((60 : Int) < c.ifs.length) || decide ((60 : Int) < c.deny.length)
def lgS (s : ScS) : Bool := lgC s.c.q || (decide (200 < s.l.length ∧ s.l.length ≤ 4096) || (decide (5000 < s.l.length) || s.l.any fun d => lgD d.q))
set_option maxHeartbeats 1000000000 in
theorem rlarge27_t (s : ScS) : Tri Tryz.prog 40 [.agg s.e.toArray] s.ro [] (fun _ : Unit => True) (fun _ => .bool (lgS s)) (fun _ => []) := by
 have c1 := rlarge19_t s.c
 unfold lgS
 change Tri _ _ _ _ _ _ (fun _ => Value.bool (lgC s.c.q)) _ at c1
 dsimp only [CfS.e] at c1
 cases hg : lgC s.c.q with
 | true =>
  rw [hg] at c1
  refine Tri_of (N := Tryz.f40.ntmps) (c := bodyOf Tryz.f40) Tryz.func40 rfl rfl rfl rfl (fun w0 S0 => ?_)
  dsimp only [ScS.e, ScS.ro, CfS.e, lca, lna]
  repeat' (first | refine SW ?_ | ((refine HO_g 2 rfl ?_); (refine HO_skip rfl rfl rfl rfl rdA ?_)) | refine SD ?_ | (refine HO_k 12 rfl ?_; refine HO_callq rfl rfl rfl rfl (c1) (fun _ _ => rfl) (srcsA) rfl rfl sqA ?_) | exact HO_seg rfl rfl | refine S1 ?_ | (refine S2 ?_; intro _) | (refine S3 ?_; intro _ _) | (refine S4 ?_; intro _ _ _) | (refine HO_g 2 rfl ?_; first | apply HO_a1 rfl | apply HO_o1 rfl) | refine SYSdM ?_ | refine S5 ?_ | (intro hb; try replace hb := simB hb; try exact kill hb))
  (refine SR ?_; unfold RetQ; refine ⟨(), trivial, ?_, Keeps.nil⟩)
  rfl
 | false =>
  rw [hg] at c1
  rw [Bool.false_or]
  by_cases h1 : 200 < s.l.length ∧ s.l.length ≤ 4096
  ·rw [decide_eq_true h1]
   obtain ⟨h2, h3⟩ := h1
   refine Tri_of (N := Tryz.f40.ntmps) (c := bodyOf Tryz.f40) Tryz.func40 rfl rfl rfl rfl (fun w0 S0 => ?_)
   dsimp only [ScS.e, ScS.ro, CfS.e, lca, lna]
   repeat' (first | refine SW ?_ | ((refine HO_g 2 rfl ?_); (refine HO_skip rfl rfl rfl rfl rdA ?_)) | refine SD ?_ | (refine HO_k 12 rfl ?_; refine HO_callq rfl rfl rfl rfl (c1) (fun _ _ => rfl) (srcsA) rfl rfl sqA ?_) | exact HO_seg rfl rfl | refine S1 ?_ | (refine S2 ?_; intro _) | (refine S3 ?_; intro _ _) | (refine S4 ?_; intro _ _ _) | (refine HO_g 2 rfl ?_; first | apply HO_a1 rfl | apply HO_o1 rfl) | refine SYSdM ?_ | refine S5 ?_ | (intro hb; try replace hb := simB hb; try exact kill hb))
   (refine SR ?_; unfold RetQ; refine ⟨(), trivial, ?_, Keeps.nil⟩)
   rfl
  rw [decide_eq_false h1, Bool.false_or]
  by_cases h2 : 5000 < s.l.length
  ·rw [decide_eq_true h2]
   have h3 : 4096 < s.l.length := by omega
   have h4 : 200 < s.l.length := by omega
   refine Tri_of (N := Tryz.f40.ntmps) (c := bodyOf Tryz.f40) Tryz.func40 rfl rfl rfl rfl (fun w0 S0 => ?_)
   dsimp only [ScS.e, ScS.ro, CfS.e, lca, lna]
   repeat' (first | refine SW ?_ | ((refine HO_g 2 rfl ?_); (refine HO_skip rfl rfl rfl rfl rdA ?_)) | refine SD ?_ | (refine HO_k 12 rfl ?_; refine HO_callq rfl rfl rfl rfl (c1) (fun _ _ => rfl) (srcsA) rfl rfl sqA ?_) | exact HO_seg rfl rfl | refine S1 ?_ | (refine S2 ?_; intro _) | (refine S3 ?_; intro _ _) | (refine S4 ?_; intro _ _ _) | (refine HO_g 2 rfl ?_; first | apply HO_a1 rfl | apply HO_o1 rfl) | refine SYSdM ?_ | refine S5 ?_ | (intro hb; try replace hb := simB hb; try exact kill hb))
   (refine SR ?_; unfold RetQ; refine ⟨(), trivial, ?_, Keeps.nil⟩)
   rfl
  rw [decide_eq_false h2, Bool.false_or]
  rcases (by omega : s.l.length ≤ 200 ∨ (200 < s.l.length ∧ 4096 < s.l.length)) with h3 | ⟨h3, h4⟩
  all_goals
   refine Tri_of (N := Tryz.f40.ntmps) (c := bodyOf Tryz.f40) Tryz.func40 rfl rfl rfl rfl (fun w0 S0 => ?_)
   dsimp only [ScS.e, ScS.ro, CfS.e, lca, lna]
   repeat' (first | refine SW ?_ | ((refine HO_g 2 rfl ?_); (refine HO_skip rfl rfl rfl rfl rdA ?_)) | refine SD ?_ | (refine HO_k 12 rfl ?_; refine HO_callq rfl rfl rfl rfl (c1) (fun _ _ => rfl) (srcsA) rfl rfl sqA ?_) | exact HO_seg rfl rfl | refine S1 ?_ | (refine S2 ?_; intro _) | (refine S3 ?_; intro _ _) | (refine S4 ?_; intro _ _ _) | (refine HO_g 2 rfl ?_; first | apply HO_a1 rfl | apply HO_o1 rfl) | refine SYSdM ?_ | refine S5 ?_ | (intro hb; try replace hb := simB hb; try exact kill hb))
   rename_i bs
   refine HC_loop (α := Nat) (fun j => j ≤ s.l.length ∧ ∀ q, q < j → ∀ x, s.l[q]? = some x → lgD x.q = false) (fun j => [(3, .int .i64 j), (1, pt bs)]) (fun _ => [cel bs 77 s.e]) (fun j => s.l.length - j) rfl 0 ⟨Nat.zero_le _, fun q hq => by omega⟩ ⟨rfl, rfl, trivial⟩ rfl ?_
   intro j ⟨hj, hall⟩
   rcases Nat.lt_or_ge j s.l.length with hlt | hge
   ·obtain ⟨x, hx⟩ : ∃ x, s.l[j]? = some x := ⟨s.l[j], List.getElem?_eq_getElem hlt⟩
    have hmem := List.mem_of_getElem? hx
    dsimp only [ScS.e, CfS.e, lca, lna]
    by_cases d1 : 9000 < x.q.data.length
    ·have hd : (s.l.any fun d => lgD d.q) = true := List.any_eq_true.2 ⟨x, hmem, by unfold lgD; rw [decide_eq_true d1]; rfl⟩
     rw [hd]
     repeat' (first | refine SW ?_ | ((refine HO_g 2 rfl ?_); (refine HO_skip rfl rfl rfl rfl rdA ?_)) | refine SD ?_ | exact HO_seg rfl rfl | refine S1 ?_ | (refine S2 ?_; intro _) | (refine S3 ?_; intro _ _) | (refine S4 ?_; intro _ _ _) | (refine HO_g 2 rfl ?_; first | apply HO_a1 rfl | apply HO_o1 rfl) | refine SYSdM ?_ | refine S5 ?_ | (intro hb; try replace hb := simB hb; try exact kill hb))
     (refine SR ?_; unfold RetQ; refine ⟨(), trivial, ?_, Keeps.nil⟩)
     rfl
    by_cases d2 : 300 < x.q.cl.length
    ·have hd : (s.l.any fun d => lgD d.q) = true := List.any_eq_true.2 ⟨x, hmem, by unfold lgD; rw [decide_eq_true d2]; simp⟩
     rw [hd]
     repeat' (first | refine SW ?_ | ((refine HO_g 2 rfl ?_); (refine HO_skip rfl rfl rfl rfl rdA ?_)) | refine SD ?_ | exact HO_seg rfl rfl | refine S1 ?_ | (refine S2 ?_; intro _) | (refine S3 ?_; intro _ _) | (refine S4 ?_; intro _ _ _) | (refine HO_g 2 rfl ?_; first | apply HO_a1 rfl | apply HO_o1 rfl) | refine SYSdM ?_ | refine S5 ?_ | (intro hb; try replace hb := simB hb; try exact kill hb))
     (refine SR ?_; unfold RetQ; refine ⟨(), trivial, ?_, Keeps.nil⟩)
     rfl
    by_cases d3 : 300 < x.q.rl.length
    ·have hd : (s.l.any fun d => lgD d.q) = true := List.any_eq_true.2 ⟨x, hmem, by unfold lgD; rw [decide_eq_true d3]; simp⟩
     rw [hd]
     repeat' (first | refine SW ?_ | ((refine HO_g 2 rfl ?_); (refine HO_skip rfl rfl rfl rfl rdA ?_)) | refine SD ?_ | exact HO_seg rfl rfl | refine S1 ?_ | (refine S2 ?_; intro _) | (refine S3 ?_; intro _ _) | (refine S4 ?_; intro _ _ _) | (refine HO_g 2 rfl ?_; first | apply HO_a1 rfl | apply HO_o1 rfl) | refine SYSdM ?_ | refine S5 ?_ | (intro hb; try replace hb := simB hb; try exact kill hb))
     (refine SR ?_; unfold RetQ; refine ⟨(), trivial, ?_, Keeps.nil⟩)
     rfl
    repeat' (first | refine SW ?_ | ((refine HO_g 2 rfl ?_); (refine HO_skip rfl rfl rfl rfl rdA ?_)) | refine SD ?_ | exact HO_seg rfl rfl | refine S1 ?_ | (refine S2 ?_; intro _) | (refine S3 ?_; intro _ _) | (refine S4 ?_; intro _ _ _) | (refine HO_g 2 rfl ?_; first | apply HO_a1 rfl | apply HO_o1 rfl) | refine SYSdM ?_ | refine S5 ?_ | (intro hb; try replace hb := simB hb; try exact kill hb))
    exact HX_at (j + 1) ⟨⟨hlt, fun q hq y hy => by
     rcases Nat.lt_or_ge q j with h | h
     ·exact hall q h y hy
     ·obtain rfl : q = j := by omega
      rw [hx] at hy
      injection hy with hy
      subst hy
      unfold lgD
      rw [decide_eq_false d1, decide_eq_false d2, decide_eq_false d3]
      rfl⟩, by omega⟩ ⟨rfl, rfl, trivial⟩ rfl
   obtain rfl : j = s.l.length := by omega
   have hd : (s.l.any fun d => lgD d.q) = false := by
    rw [List.any_eq_false]
    intro y hy
    obtain ⟨q, hq⟩ := List.mem_iff_getElem?.1 hy
    have := hall q (by have := (List.getElem?_eq_some_iff.1 hq).1; omega) y hq
    rw [this]
    decide
   rw [hd]
   dsimp only [ScS.e, CfS.e, lca, lna]
   repeat' (first | refine SW ?_ | ((refine HO_g 2 rfl ?_); (refine HO_skip rfl rfl rfl rfl rdA ?_)) | refine SD ?_ | exact HO_seg rfl rfl | refine S1 ?_ | (refine S2 ?_; intro _) | (refine S3 ?_; intro _ _) | (refine S4 ?_; intro _ _ _) | (refine HO_g 2 rfl ?_; first | apply HO_a1 rfl | apply HO_o1 rfl) | refine SYSdM ?_ | refine S5 ?_ | (intro hb; try replace hb := simB hb; try exact kill hb))
   (refine SR ?_; unfold RetQ; refine ⟨(), trivial, ?_, Keeps.nil⟩)
   rfl
theorem lg_L {s : ScS} (hv : ScV s) (h : lgS s = false) : ScL s := by
 unfold lgS lgC at h
 simp only [Bool.or_eq_false_iff, decide_eq_false_iff_not, List.any_eq_false] at h
 obtain ⟨⟨h1, h2⟩, h3, h4, h5⟩ := h
 refine ⟨⟨by omega, by omega, hv.1.2.2.1, hv.1.2.2.2⟩, by omega, fun d hd => ?_⟩
 have h6 := h5 d hd
 unfold lgD at h6
 simp only [Bool.or_eq_true, decide_eq_true_eq, not_or, Nat.not_lt] at h6
 obtain ⟨g1, g2⟩ := hv.2 d hd
 exact ⟨⟨by omega, by omega, by omega⟩, g1, g2⟩
theorem encM_len {s : ScS} (hl : s.l.length ≤ 5000) (h : scB s = true) : (encM s.c.q s.q).length ≤ 100000000 := by
 unfold scB at h
 simp only [Bool.and_eq_true, decide_eq_true_eq, List.all_eq_true] at h
 have h1 := text_len s.c.q h.1 (linesOf s.c.q).length
 rw [List.take_length] at h1
 have h2 := doBs_len s.q h.2.2
 have h3 : s.q.length = s.l.length := by unfold ScS.q; rw [List.length_map]
 unfold encM
 simp only [List.length_append, be_length]
 omega
theorem sc_dec {s : ScS} (hv : ScV s) (h : scB s = true) : decM (encM s.c.q s.q) = some (s.c.q, s.q) := by
 refine dec_enc s.c.q s.q hv.1 ?_ ?_
 ·unfold scB at h
  unfold scOk
  have h3 : s.q.length = s.l.length := by unfold ScS.q; rw [List.length_map]
  rw [h3, Bool.and_assoc]
  exact h
 ·intro d hd
  obtain ⟨e, he, rfl⟩ := List.mem_map.1 hd
  exact (hv.2 e he).2
def mkX2 (s : ScS) (x : DecX) : ScS := ⟨⟨s.c.q, x.1.1.1, x.1.1.2, x.1.2.1, x.1.2.2⟩, x.2.1.1, x.2.1.2, x.2.2⟩
theorem W_map {l l' : List DoS} (h : l'.map (·.q) = l.map (·.q)) (hw : ∀ d ∈ l, DoW d.q) : ∀ d ∈ l', DoW d.q := fun d hd => by
 have hm : d.q ∈ l.map (·.q) := by
  rw [← h]
  exact List.mem_map.2 ⟨d, hd, rfl⟩
 obtain ⟨e, he, h2⟩ := List.mem_map.1 hm
 exact h2 ▸ hw e he
theorem mkX2_L {s : ScS} (hs : ScL s) {x : DecX} (hx : x.2.2.map (·.q) = s.q) : ScL (mkX2 s x) := by
 have hl : x.2.2.length = s.l.length := by
  have := congrArg List.length hx
  unfold ScS.q at this
  rw [List.length_map, List.length_map] at this
  exact this
 exact ⟨hs.1, by show x.2.2.length ≤ 1000000; have := hs.2.1; omega, W_map hx hs.2.2⟩
theorem decx_t (m : Int) (A : Option Addr) (c : Nat) (s : ScS) (E : List UInt8) (hl : E.length ≤ 1000000000) (h : decM E = some (s.c.q, s.q)) : Tri Tryz.prog 47 [.slice A E.length c] [arr bE 1 A E, glW, maxLen0 m] [] (fun x : DecX => x.2.2.map (·.q) = s.q) (fun x => .tuple #[.agg (mkX2 s x).e.toArray, .int .i64 0]) (fun x => (mkX2 s x).ro) := by
 have g := sdec_t m A c E hl
 unfold decP decSc at g
 rw [h] at g
 exact g
set_option maxHeartbeats 1000000000 in
theorem lawCodes (m : Int) (s t : ScS) (hs : ScV s) (ht : ScV t) : Tri Tryz.prog 10 [.agg s.e.toArray, .agg t.e.toArray] ([tab1, glW, maxLen0 m] ++ (s.ro ++ t.ro)) [] (fun _ : Unit => True) (fun _ => .bool true) (fun _ => []) := by
 have c1 := rlarge27_t s
 have c2 := rlarge27_t t
 have c3 := lives27_t m
 cases h1 : lgS s with
 | true =>
  rw [h1] at c1
  refine Tri_of (N := Tryz.f10.ntmps) (c := bodyOf Tryz.f10) Tryz.func10 rfl rfl rfl rfl (fun w0 S0 => ?_)
  dsimp only [ScS.e, ScS.ro, CfS.e, lca, lna] at c1 c2 ⊢
  repeat' (first | refine SW ?_ | ((refine HO_g 2 rfl ?_); (refine HO_skip rfl rfl rfl rfl rdA ?_)) | refine SD ?_ | (refine HO_k 12 rfl ?_; refine HO_callq rfl rfl rfl rfl (c1) (fun _ _ => rfl) (srcsA) rfl rfl sqA ?_) | (refine HO_k 12 rfl ?_; refine HO_callq rfl rfl rfl rfl (c3) (fun _ _ => rfl) (srcsA) rfl rfl sqA ?_) | exact HO_seg rfl rfl | refine S1 ?_ | (refine S2 ?_; intro _) | (refine S3 ?_; intro _ _) | (refine S4 ?_; intro _ _ _) | (refine HO_g 2 rfl ?_; first | apply HO_a1 rfl | apply HO_o1 rfl) | refine SYSdM ?_ | refine S5 ?_ | (intro hb; try replace hb := simB hb; try exact kill hb))
  (refine SR ?_; unfold RetQ; refine ⟨(), trivial, ?_, Keeps.nil⟩)
  rfl
 | false =>
  rw [h1] at c1
  have sL := lg_L hs h1
  cases h2 : lgS t with
  | true =>
   rw [h2] at c2
   refine Tri_of (N := Tryz.f10.ntmps) (c := bodyOf Tryz.f10) Tryz.func10 rfl rfl rfl rfl (fun w0 S0 => ?_)
   dsimp only [ScS.e, ScS.ro, CfS.e, lca, lna] at c1 c2 ⊢
   repeat' (first | refine SW ?_ | ((refine HO_g 2 rfl ?_); (refine HO_skip rfl rfl rfl rfl rdA ?_)) | refine SD ?_ | (refine HO_k 12 rfl ?_; refine HO_callq rfl rfl rfl rfl (c1) (fun _ _ => rfl) (srcsA) rfl rfl sqA ?_) | (refine HO_k 12 rfl ?_; refine HO_callq rfl rfl rfl rfl (c2) (fun _ _ => rfl) ((AllSrc.at_ 7 rfl (AllSrc.at_ 8 rfl (AllSrc.at_ 9 rfl (AllSrc.at_ 10 rfl trivial))))) rfl rfl sqA ?_) | (refine HO_k 12 rfl ?_; refine HO_callq rfl rfl rfl rfl (c3) (fun _ _ => rfl) (srcsA) rfl rfl sqA ?_) | exact HO_seg rfl rfl | refine S1 ?_ | (refine S2 ?_; intro _) | (refine S3 ?_; intro _ _) | (refine S4 ?_; intro _ _ _) | (refine HO_g 2 rfl ?_; first | apply HO_a1 rfl | apply HO_o1 rfl) | refine SYSdM ?_ | refine S5 ?_ | (intro hb; try replace hb := simB hb; try exact kill hb))
   (refine SR ?_; unfold RetQ; refine ⟨(), trivial, ?_, Keeps.nil⟩)
   rfl
  | false =>
   rw [h2] at c2
   have tL := lg_L ht h2
   have hn : s.l.length ≤ 5000 := by
    unfold lgS at h1
    simp only [Bool.or_eq_false_iff, decide_eq_false_iff_not] at h1
    omega
   have c4 := ssame_t s t sL tL
   have c5 := rsame27_t s t sL tL
   have c6 := rcheck27_t s sL
   have c7 := scheck_t s sL
   cases h3 : scB s with
   | false =>
    have c8 := senc_no s sL h3
    rw [h3] at c6 c7
    simp only [Bool.false_eq_true, if_false] at c7
    obtain ⟨v, hv⟩ : ∃ v, scSame s t = v := ⟨_, rfl⟩
    rw [hv] at c4 c5
    refine Tri_of (N := Tryz.f10.ntmps) (c := bodyOf Tryz.f10) Tryz.func10 rfl rfl rfl rfl (fun w0 S0 => ?_)
    dsimp only [ScS.e, ScS.ro, CfS.e, lca, lna] at c1 c2 c4 c5 c6 c7 c8 ⊢
    repeat' (first | refine SW ?_ | ((refine HO_g 2 rfl ?_); (refine HO_skip rfl rfl rfl rfl rdA ?_)) | refine SD ?_ | (refine HO_k 12 rfl ?_; refine HO_callq rfl rfl rfl rfl (c1) (fun _ _ => rfl) (srcsA) rfl rfl sqA ?_) | (refine HO_k 12 rfl ?_; refine HO_callq rfl rfl rfl rfl (c2) (fun _ _ => rfl) ((AllSrc.at_ 7 rfl (AllSrc.at_ 8 rfl (AllSrc.at_ 9 rfl (AllSrc.at_ 10 rfl trivial))))) rfl rfl sqA ?_) | (refine HO_k 12 rfl ?_; refine HO_callq rfl rfl rfl rfl (c3) (fun _ _ => rfl) (srcsA) rfl rfl sqA ?_) | (refine HO_k 12 rfl ?_; refine HO_callq rfl rfl rfl rfl (c4) (fun _ _ => rfl) (srcM) rfl rfl sqA ?_) | (refine HO_k 12 rfl ?_; refine HO_callq rfl rfl rfl rfl (c5) (fun _ _ => rfl) (srcM) rfl rfl sqA ?_) | (refine HO_k 12 rfl ?_; refine HO_callq rfl rfl rfl rfl (c6) (fun _ _ => rfl) (srcM) rfl rfl sqA ?_) | (refine HO_k 12 rfl ?_; refine HO_callq rfl rfl rfl rfl (c7) (fun _ _ => rfl) (srcM) rfl rfl sqA ?_) | (refine HO_k 12 rfl ?_; refine HO_callq rfl rfl rfl rfl (c8) (fun _ _ => rfl) (srcM) rfl rfl sqA ?_) | exact HO_seg rfl rfl | refine S1 ?_ | (refine S2 ?_; intro _) | (refine S3 ?_; intro _ _) | (refine S4 ?_; intro _ _ _) | (refine HO_g 2 rfl ?_; first | apply HO_a1 rfl | apply HO_o1 rfl) | refine SYSdM ?_ | refine S5 ?_ | (intro hb; try replace hb := simB hb; try exact kill hb))
    (refine SR ?_; unfold RetQ; refine ⟨(), trivial, ?_, Keeps.nil⟩)
    rfl
   | true =>
    have c8 := senc_yes s sL h3
    rw [h3] at c6 c7
    simp only [if_true] at c7
    obtain ⟨v, hv⟩ : ∃ v, scSame s t = v := ⟨_, rfl⟩
    rw [hv] at c4 c5
    have hlen := encM_len hn h3
    have hdec := sc_dec hs h3
    have c10 := r27enc_t s sL h3
    have c11 := fun (x : DecX) (hx : x.2.2.map (·.q) = s.q) => rsame27_t (mkX2 s x) s (mkX2_L sL hx) sL
    have s11 := fun (x : DecX) (hx : x.2.2.map (·.q) = s.q) => scsame_q (s := mkX2 s x) (t := s) rfl hx
    have c11 := fun (x : DecX) (hx : x.2.2.map (·.q) = s.q) => (s11 x hx) ▸ (c11 x hx)
    obtain ⟨E, hE⟩ : ∃ E, encM s.c.q s.q = E := ⟨_, rfl⟩
    rw [hE] at c8 hlen hdec c10
    have c9 := fun A c => decx_t m A c s E (by omega) hdec
    clear hE hdec s11
    refine Tri_of (N := Tryz.f10.ntmps) (c := bodyOf Tryz.f10) Tryz.func10 rfl rfl rfl rfl (fun w0 S0 => ?_)
    dsimp only [ScS.e, ScS.ro, mkX2, CfS.e, lca, lna] at c1 c2 c4 c5 c6 c7 c8 c9 c10 c11 ⊢
    repeat' (first | refine SW ?_ | (refine HC_lex rfl rfl (by decide +kernel) rfl rfl ?_) | (with_reducible refine HO_rw (congrArg Value.bool (sba_eq _ _)) ?_) | ((refine HO_g 2 rfl ?_); (refine HO_skip rfl rfl rfl rfl rdA ?_)) | refine SD ?_ | (refine HO_k 12 rfl ?_; refine HO_callq rfl rfl rfl rfl (c1) (fun _ _ => rfl) (srcM) rfl rfl sqA ?_) | (refine HO_k 12 rfl ?_; refine HO_callq rfl rfl rfl rfl (c2) (fun _ _ => rfl) (srcM) rfl rfl sqA ?_) | (refine HO_k 12 rfl ?_; refine HO_callq rfl rfl rfl rfl (c3) (fun _ _ => rfl) (srcM) rfl rfl sqA ?_) | (refine HO_k 12 rfl ?_; refine HO_callq rfl rfl rfl rfl (c4) (fun _ _ => rfl) (srcM) rfl rfl sqA ?_) | (refine HO_k 12 rfl ?_; refine HO_callq rfl rfl rfl rfl (c5) (fun _ _ => rfl) (srcM) rfl rfl sqA ?_) | (refine HO_k 12 rfl ?_; refine HO_callq rfl rfl rfl rfl (c6) (fun _ _ => rfl) (srcM) rfl rfl sqA ?_) | (refine HO_k 12 rfl ?_; refine HO_callq rfl rfl rfl rfl (c7) (fun _ _ => rfl) (srcM) rfl rfl sqA ?_) | (refine HO_k 12 rfl ?_; refine HO_call rfl rfl rfl rfl (c8) rfl (srcM) rfl rfl soA ?_; intro x1 hx1; dsimp only [lca, lna]) | (refine HO_k 12 rfl ?_; refine HO_call rfl rfl rfl rfl (c9 _ _) rfl ((by first | exact AllSrc.own 11 rfl rfl (AllSrc.at_ 1 rfl (AllSrc.at_ 2 rfl trivial)) | exact AllSrc.own 12 rfl rfl (AllSrc.at_ 1 rfl (AllSrc.at_ 2 rfl trivial)) | exact AllSrc.own 13 rfl rfl (AllSrc.at_ 1 rfl (AllSrc.at_ 2 rfl trivial)) | exact AllSrc.own 14 rfl rfl (AllSrc.at_ 1 rfl (AllSrc.at_ 2 rfl trivial)) | exact AllSrc.own 15 rfl rfl (AllSrc.at_ 1 rfl (AllSrc.at_ 2 rfl trivial)))) rfl rfl soA ?_; intro x2 hx2; dsimp only [lca, lna]) | (refine HO_k 7 rfl ?_; (first | (refine HO_holdA 0 rfl rfl ?_; refine HO_b2sr (l := E) 0 rfl rfl rfl rfl rfl rfl rfl rdA ?_) | (refine HO_holdA 1 rfl rfl ?_; refine HO_b2sr (l := E) 0 rfl rfl rfl rfl rfl rfl rfl rdA ?_) | (refine HO_holdA 2 rfl rfl ?_; refine HO_b2sr (l := E) 0 rfl rfl rfl rfl rfl rfl rfl rdA ?_) | (refine HO_holdA 3 rfl rfl ?_; refine HO_b2sr (l := E) 0 rfl rfl rfl rfl rfl rfl rfl rdA ?_) | (refine HO_holdA 4 rfl rfl ?_; refine HO_b2sr (l := E) 0 rfl rfl rfl rfl rfl rfl rfl rdA ?_) | (refine HO_holdA 5 rfl rfl ?_; refine HO_b2sr (l := E) 0 rfl rfl rfl rfl rfl rfl rfl rdA ?_) | (refine HO_holdA 6 rfl rfl ?_; refine HO_b2sr (l := E) 0 rfl rfl rfl rfl rfl rfl rfl rdA ?_) | (refine HO_holdA 7 rfl rfl ?_; refine HO_b2sr (l := E) 0 rfl rfl rfl rfl rfl rfl rfl rdA ?_) | (refine HO_holdA 8 rfl rfl ?_; refine HO_b2sr (l := E) 0 rfl rfl rfl rfl rfl rfl rfl rdA ?_) | (refine HO_holdA 9 rfl rfl ?_; refine HO_b2sr (l := E) 0 rfl rfl rfl rfl rfl rfl rfl rdA ?_) | (refine HO_holdA 10 rfl rfl ?_; refine HO_b2sr (l := E) 0 rfl rfl rfl rfl rfl rfl rfl rdA ?_) | (refine HO_holdA 11 rfl rfl ?_; refine HO_b2sr (l := E) 0 rfl rfl rfl rfl rfl rfl rfl rdA ?_))) | (refine HO_k 12 rfl ?_; refine HO_call rfl rfl rfl rfl (c10) rfl (srcM) rfl rfl soA ?_; intro x3 hx3; dsimp only [lca, lna]) | (refine HO_k 12 rfl ?_; refine HO_callq rfl rfl rfl rfl (c11 x2 hx2) (fun _ _ => rfl) (srcM) rfl rfl sqA ?_) | exact HO_seg rfl rfl | refine S1 ?_ | (refine S2 ?_; intro _) | (refine S3 ?_; intro _ _) | (refine S4 ?_; intro _ _ _) | (refine HO_g 2 rfl ?_; first | apply HO_a1 rfl | apply HO_o1 rfl) | refine SYSdM ?_ | refine S5 ?_ | (intro hb; try replace hb := simB hb; try exact kill hb))
    (refine SR ?_; unfold RetQ; refine ⟨(), trivial, ?_, Keeps.nil⟩)
    rfl
end Go.Proofs.YtbhiojedmkcfoaaGreatDoor
