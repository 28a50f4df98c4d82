/- A line behind the first eighteen, as the reader of settings takes it. -/
import Derived.Test.YtbhiojedmkcfoaaGreatDoorCfY
namespace Go.Proofs.YtbhiojedmkcfoaaGreatDoor
set_option linter.unusedVariables false
set_option linter.unusedSimpArgs false
open Go.RowKit
attribute [local irreducible] HC HX HO Tri eP adr

set_option maxHeartbeats 16000000 in
theorem line_bad (b : Nat) (c : CfS) (bad : Bool) (i : Nat) (hi : ¬ i < 18) (hi2 : i < 1000000) (A : Option Addr) (n cc : Nat) (ws : List (List UInt8)) (hn : n = ws.length) (h5 : ∀ w a b p d, ws = [w, a, b, p, d] → ¬ w = ifaceW) (h2 : ∀ w v, ws = [w, v] → ¬ w = denyW) (m : Int) :
    Tri Tryz.prog 62 [pt b, .int .i64 i, .slice A n cc] [arr strE 1 A ws, glW, maxLen0 m] (rdrP b c bad) (fun x : OA × OA => True) (fun _ => .tuple #[]) (fun x => rdrP b (c.wth c.q x) true) := by
  subst hn
  have hiI : ¬ ((i : Nat) : Int) < 18 := by omega
  by_cases l5 : ws.length = 5
  · match ws, l5 with
    | [w, x1, x2, x3, x4], _ =>
      have hw : ¬ w = [105, 102, 97, 99, 101] := h5 w x1 x2 x3 x4 rfl
      refine Tri_of (N := Tryz.f62.ntmps) (c := bodyOf Tryz.f62) Tryz.func62 rfl rfl rfl rfl (fun w0 S0 => ?_)
      repeat' (first | refine SW ?_ | ((refine HO_g 2 rfl ?_); (refine HO_skip rfl rfl rfl rfl rdA ?_)) | (with_reducible refine HO_rw (congrArg Value.bool (sba_eq _ _)) ?_) | refine SD ?_ | exact HO_seg rfl rfl | refine S1 ?_ | (refine S2 ?_; intro _) | (refine S3 ?_; intro _ _) | (refine S4 ?_; intro _ _ _) | (refine HO_g 2 rfl ?_; (first | apply HO_and rfl rfl rfl rfl rfl rfl rfl rfl rfl | apply HO_or rfl rfl rfl rfl rfl rfl rfl rfl rfl)) | refine S5 ?_ | (intro hb; try replace hb := simB hb; try exact kill hb))
      ((first | apply HX_ret | apply HX_retn); (repeat (first | exact Res_nil | apply Res_tmp rfl | apply Res_ce rfl rfl rfl)); unfold RetQ; apply Exists.intro (((c.iA, c.ic), (c.dA, c.dc))); refine ⟨trivial, ?_, ?_⟩; rotate_left 1; (repeat (first | exact Keeps.nil | refine Keeps.own_cons ?_ ?_ ?_ | refine Keeps.arr_cons ?_ ?_ | refine Keeps.cons Ent.rfl_ ?_ | refine Keeps.skip ?_ | refine Keeps.own_none ?_ ?_ ?_ | refine Keeps.arr_none ?_ ?_)))
      all_goals rfl
  · by_cases l2 : ws.length = 2
    · match ws, l2 with
      | [w, v], _ =>
        have hw : ¬ w = [100, 101, 110, 121] := h2 w v rfl
        refine Tri_of (N := Tryz.f62.ntmps) (c := bodyOf Tryz.f62) Tryz.func62 rfl rfl rfl rfl (fun w0 S0 => ?_)
        repeat' (first | refine SW ?_ | ((refine HO_g 2 rfl ?_); (refine HO_skip rfl rfl rfl rfl rdA ?_)) | (with_reducible refine HO_rw (congrArg Value.bool (sba_eq _ _)) ?_) | refine SD ?_ | exact HO_seg rfl rfl | refine S1 ?_ | (refine S2 ?_; intro _) | (refine S3 ?_; intro _ _) | (refine S4 ?_; intro _ _ _) | (refine HO_g 2 rfl ?_; (first | apply HO_and rfl rfl rfl rfl rfl rfl rfl rfl rfl | apply HO_or rfl rfl rfl rfl rfl rfl rfl rfl rfl)) | refine S5 ?_ | (intro hb; try replace hb := simB hb; try exact kill hb))
        ((first | apply HX_ret | apply HX_retn); (repeat (first | exact Res_nil | apply Res_tmp rfl | apply Res_ce rfl rfl rfl)); unfold RetQ; apply Exists.intro (((c.iA, c.ic), (c.dA, c.dc))); refine ⟨trivial, ?_, ?_⟩; rotate_left 1; (repeat (first | exact Keeps.nil | refine Keeps.own_cons ?_ ?_ ?_ | refine Keeps.arr_cons ?_ ?_ | refine Keeps.cons Ent.rfl_ ?_ | refine Keeps.skip ?_ | refine Keeps.own_none ?_ ?_ ?_ | refine Keeps.arr_none ?_ ?_)))
        all_goals rfl
    · refine Tri_of (N := Tryz.f62.ntmps) (c := bodyOf Tryz.f62) Tryz.func62 rfl rfl rfl rfl (fun w0 S0 => ?_)
      repeat' (first | refine SW ?_ | ((refine HO_g 2 rfl ?_); (refine HO_skip rfl rfl rfl rfl rdA ?_)) | (with_reducible refine HO_rw (congrArg Value.bool (sba_eq _ _)) ?_) | refine SD ?_ | exact HO_seg rfl rfl | refine S1 ?_ | (refine S2 ?_; intro _) | (refine S3 ?_; intro _ _) | (refine S4 ?_; intro _ _ _) | (refine HO_g 2 rfl ?_; (first | apply HO_and rfl rfl rfl rfl rfl rfl rfl rfl rfl | apply HO_or rfl rfl rfl rfl rfl rfl rfl rfl rfl)) | refine S5 ?_ | (intro hb; try replace hb := simB hb; try exact kill hb))
      ((first | apply HX_ret | apply HX_retn); (repeat (first | exact Res_nil | apply Res_tmp rfl | apply Res_ce rfl rfl rfl)); unfold RetQ; apply Exists.intro (((c.iA, c.ic), (c.dA, c.dc))); refine ⟨trivial, ?_, ?_⟩; rotate_left 1; (repeat (first | exact Keeps.nil | refine Keeps.own_cons ?_ ?_ ?_ | refine Keeps.arr_cons ?_ ?_ | refine Keeps.cons Ent.rfl_ ?_ | refine Keeps.skip ?_ | refine Keeps.own_none ?_ ?_ ?_ | refine Keeps.arr_none ?_ ?_)))
      all_goals rfl
set_option maxHeartbeats 16000000 in
theorem line_if (b : Nat) (c : CfS) (bad : Bool) (i : Nat) (hi : ¬ i < 18) (hi2 : i < 1000000) (A : Option Addr) (n cc : Nat) (x1 x2 x3 x4 : List UInt8) (h1 : x1.length ≤ 100000) (h2 : x2.length ≤ 100000) (h3 : x3.length ≤ 100000) (h4 : x4.length ≤ 100000) (hn : n = 5) (hcc : 5 ≤ cc) (m : Int) (hlen : c.q.ifs.length ≤ 100000) (hdl : c.q.deny.length ≤ 100000) :
    Tri Tryz.prog 62 [pt b, .int .i64 i, .slice A n cc] [arr strE 1 A [ifaceW, x1, x2, x3, x4], glW, maxLen0 m] (rdrP b c bad) (fun x : OA × OA => True) (fun _ => .tuple #[]) (fun x => rdrP b (c.wth { c.q with ifs := c.q.ifs ++ [ifX x1 x2 x3 x4] } x) (ifBad c.q bad x1 x2 x3 x4)) := by
  subst hn
  have hiI : ¬ ((i : Nat) : Int) < 18 := by omega
  have hif := iface_t b c bad (cutA A 1 cc 1) (cc - 1) x1 x2 x3 x4 h1 h2 h3 h4 m hlen hdl
  have hw : ifaceW = [105, 102, 97, 99, 101] := rfl
  refine Tri_of (N := Tryz.f62.ntmps) (c := bodyOf Tryz.f62) Tryz.func62 rfl rfl rfl rfl (fun w0 S0 => ?_)
  repeat' (first | refine SW ?_ | (with_reducible refine HO_rw (congrArg Value.bool (sba_eq _ _)) ?_) | refine SD ?_ | (refine HO_k 12 rfl ?_; refine HO_call rfl rfl rfl rfl (hif) rfl (AllSrc.via 0 rfl (arr_drop (l := [ifaceW, x1, x2, x3, x4]) cc 1 (fun e => by omega)) srcsA) rfl rfl soA ?_; intro ⟨⟨xA, xc⟩, xb⟩ hx; dsimp only [List.cons_append, List.nil_append]) | exact HO_seg rfl rfl | refine S1 ?_ | (refine S2 ?_; intro _) | (refine S3 ?_; intro _ _) | (refine S4 ?_; intro _ _ _) | (refine HO_g 2 rfl ?_; (first | apply HO_and rfl rfl rfl rfl rfl rfl rfl rfl rfl | apply HO_or rfl rfl rfl rfl rfl rfl rfl rfl rfl)) | refine S5 ?_ | (intro hb; try replace hb := simB hb; try exact kill hb))
  have hx' : xb = ifBad c.q bad x1 x2 x3 x4 := hx
  subst hx'
  ((first | apply HX_ret | apply HX_retn); (repeat (first | exact Res_nil | apply Res_tmp rfl | apply Res_ce rfl rfl rfl)); unfold RetQ; refine ⟨((xA, xc), (c.dA, c.dc)), trivial, rfl, Keeps.refl⟩)
theorem rd_deny (c : CfS) (bad : Bool) (A : Option Addr) (n cc : Nat) (l : List Int) (hn : n = l.length) : putL (rdE c bad) 17 [.slice A n cc] = some (rdE { c with q := { c.q with deny := l }, dA := A, dc := cc } bad) := by
  subst hn
  rfl
set_option maxHeartbeats 16000000 in
theorem line_deny (b : Nat) (c : CfS) (bad : Bool) (i : Nat) (hi : ¬ i < 18) (hi2 : i < 1000000) (A : Option Addr) (n cc : Nat) (v : List UInt8) (hv : v.length ≤ 100000) (hn : n = 2) (m : Int) (hdl : c.q.deny.length ≤ 100000) :
    Tri Tryz.prog 62 [pt b, .int .i64 i, .slice A n cc] [arr strE 1 A [denyW, v], glW, maxLen0 m] (rdrP b c bad) (fun x : OA × OA => True) (fun _ => .tuple #[]) (fun x => rdrP b (c.wth { c.q with deny := c.q.deny ++ [numV v] } x) (bad || (numR v).isNone)) := by
  subst hn
  have hiI : ¬ ((i : Nat) : Int) < 18 := by omega
  have hN := number_t b c bad v (by omega)
  have hw : denyW = [100, 101, 110, 121] := rfl
  have hlX : (c.q.deny ++ [numV v]).length = c.q.deny.length + 1 := by simp
  generalize (bad || (numR v).isNone) = bd at hN ⊢
  refine Tri_of (N := Tryz.f62.ntmps) (c := bodyOf Tryz.f62) Tryz.func62 rfl rfl rfl rfl (fun w0 S0 => ?_)
  repeat' (first | refine SW ?_ | (with_reducible refine HO_rw (congrArg Value.bool (sba_eq _ _)) ?_) | refine SD ?_ | (refine HC_lex rfl rfl (by decide +kernel) rfl rfl ?_; refine HO_names (l' := [0, 1, 2, 3, 4, 6, 7, 8, 9, 10, 5, 11, 12, 13, 14, 15, 16]) (by decide +kernel) ?_) | (refine HO_k 12 rfl ?_; refine HO_2p 5 10 (by decide +kernel) rfl rfl (by decide +kernel) ?_ ?_) | (refine HO_k 2 rfl ?_; first | refine HO_2p 5 10 (by decide +kernel) rfl rfl (by decide +kernel) ?_ ?_ | refine HO_2p 5 11 (by decide +kernel) rfl rfl (by decide +kernel) ?_ ?_) | (refine HO_k 2 rfl ?_; refine HO_loT rfl rfl rfl rfl rfl rfl soA ?_) | (refine HO_k 12 rfl ?_; refine HO_call rfl rfl rfl rfl (hN) rfl (trivial) rfl rfl soA ?_; intro g h; dsimp only [List.cons_append, List.nil_append]) | exact HO_seg rfl rfl | refine S1 ?_ | (refine S2 ?_; intro _) | (refine S3 ?_; intro _ _) | (refine S4 ?_; intro _ _ _) | (refine HO_g 2 rfl ?_; (first | apply HO_and rfl rfl rfl rfl rfl rfl rfl rfl rfl | apply HO_or rfl rfl rfl rfl rfl rfl rfl rfl rfl)) | refine S5 ?_ | (intro hb; try replace hb := simB hb; try exact kill hb))
  all_goals
    rename_i A' c'
    refine HX_keeps (rw' := rdrP b (c.wth { c.q with deny := c.q.deny ++ [numV v] } ((c.iA, c.ic), (A', c'))) bd) ?_ ?_
    · dsimp only [rdrP, rdE, CfS.wth, CfS.e]
      rw [hlX, List.map_append]
      exact permA
    · ((first | apply HX_ret | apply HX_retn); (repeat (first | exact Res_nil | apply Res_tmp rfl | apply Res_ce rfl rfl rfl)); unfold RetQ; refine ⟨((c.iA, c.ic), (A', c')), trivial, rfl, Keeps.refl⟩)
theorem line_t (b : Nat) (c : CfS) (bad : Bool) (hl : c.q.nums.length = 18) (i : Nat) (hi2 : i < 1000000) (A : Option Addr) (n cc : Nat) (ws : List (List UInt8)) (hn : n = ws.length) (hcc : n ≤ cc) (hws : ∀ w ∈ ws, w.length ≤ 100000) (m : Int) (hlen : c.q.ifs.length ≤ 100000) (hdl : c.q.deny.length ≤ 100000) :
    Tri Tryz.prog 62 [pt b, .int .i64 i, .slice A n cc] [arr strE 1 A ws, glW, maxLen0 m] (rdrP b c bad) (fun x : OA × OA => True) (fun _ => .tuple #[]) (fun x => rdrP b (c.wth (lineX i ws c.q bad).1 x) (lineX i ws c.q bad).2) := by
  by_cases hi : i < 18
  · exact line_fix b c bad hl i hi A n cc ws hn hws m
  · by_cases hw : (∀ w a b p d, ws = [w, a, b, p, d] → ¬ w = ifaceW) ∧ (∀ w v, ws = [w, v] → ¬ w = denyW)
    · have e : lineX i ws c.q bad = (c.q, true) := by
        unfold lineX
        rw [if_neg hi]
        split
        · rw [if_neg (hw.2 _ _ rfl)]
        · rw [if_neg (hw.1 _ _ _ _ _ rfl)]
        · rfl
      rw [e]
      exact line_bad b c bad i hi hi2 A n cc ws hn hw.1 hw.2 m
    · by_cases h5 : ∃ a b p d, ws = [ifaceW, a, b, p, d]
      · obtain ⟨x1, x2, x3, x4, rfl⟩ := h5
        have e : lineX i [ifaceW, x1, x2, x3, x4] c.q bad = ({ c.q with ifs := c.q.ifs ++ [ifX x1 x2 x3 x4] }, ifBad c.q bad x1 x2 x3 x4) := by
          unfold lineX
          rw [if_neg hi]
          simp only [if_true]
        rw [e]
        exact line_if b c bad i hi hi2 A n cc x1 x2 x3 x4 (hws _ (by simp)) (hws _ (by simp)) (hws _ (by simp)) (hws _ (by simp)) hn (by simp at hn; omega) m hlen hdl
      · obtain ⟨v, rfl⟩ : ∃ v, ws = [denyW, v] := by
          refine Classical.byContradiction fun hno => hw ⟨fun w a b p d e h => h5 ⟨a, b, p, d, by rw [e, h]⟩, fun w v e h => hno ⟨v, by rw [e, h]⟩⟩
        have e : lineX i [denyW, v] c.q bad = ({ c.q with deny := c.q.deny ++ [numV v] }, bad || (numR v).isNone) := by
          unfold lineX
          rw [if_neg hi]
          simp only [if_true]
        rw [e]
        exact line_deny b c bad i hi hi2 A n cc v (hws _ (by simp)) hn m hdl
end Go.Proofs.YtbhiojedmkcfoaaGreatDoor
