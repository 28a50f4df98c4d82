/- Part of a proof of many texts: what the theorem at its end leans on. -/
import Derived.Test.YtbhiojedmkcfoaaGreatDoorZCgE
import Derived.Test.YtbhiojedmkcfoaaGreatDoorZCgG
import Derived.Test.YtbhiojedmkcfoaaGreatDoorZCfK
import Derived.Test.YtbhiojedmkcfoaaGreatDoorZCgC
namespace Go.Proofs.YtbhiojedmkcfoaaGreatDoor
set_option linter.unusedVariables false
set_option linter.unusedSimpArgs false
open Go.RowKit
attribute [local irreducible] HC HX HO Tri eP adr
theorem SYCgH {p q : Prop} (hq : q) (h : q → p := by intro hq; refine HO_k 3 rfl ?_; exact HO_lastG (by decide +kernel) rfl rfl (by decide +kernel) (by decide +kernel) rfl hq) : p := h hq
theorem more_t (b : Nat) (c : CfS) (A : Option Addr) (n cc : Nat) (ws : List (List UInt8)) (hn : n = ws.length) (hws : ∀ w ∈ ws, w.length ≤ 90000) (hlen : c.q.ifs.length ≤ 100000) (hdl : c.q.deny.length ≤ 100000) :
  Tri Tryz.prog 84 [pt b, .slice A n cc] [arr strE 1 A ws] (pcP b c) (fun _ : OA × OA => True) (fun _ => .bool (moreY ws c.q).2) (fun x => pcP b (c.wth (moreY ws c.q).1 x)) := by
 by_cases hw : (∀ w a b p d, ws = [w, a, b, p, d] → ¬ (w = ifaceW ∧ c.q.deny = [])) ∧ (∀ w v, ws = [w, v] → ¬ w = denyW)
 ·have e : moreY ws c.q = (c.q, false) := by
   unfold moreY
   split
   ·rw [if_neg (hw.2 _ _ rfl)]
   ·rw [if_neg (hw.1 _ _ _ _ _ rfl)]
   ·rfl
  rw [e]
  exact Tri_weak (more_bad b c A n cc ws hn hw.1 hw.2) (fun _ _ => ⟨((c.iA, c.ic), (c.dA, c.dc)), trivial, rfl, Keeps.refl⟩)
 ·by_cases h5 : ∃ a b p d, ws = [ifaceW, a, b, p, d] ∧ c.q.deny = []
  ·obtain ⟨x1, x2, x3, x4, rfl, hd⟩ := h5
   have e : moreY [ifaceW, x1, x2, x3, x4] c.q = ({ c.q with ifs := c.q.ifs ++ [ifX x1 x2 x3 x4] }, (numR x1).isSome && (numR x2).isSome && (paR x3).isSome && (numR x4).isSome) := by
    unfold moreY
    simp only [hd, and_self, if_true]
   rw [e]
   exact Tri_weak (more_if b c A n cc x1 x2 x3 x4 (hws _ (by simp)) (hws _ (by simp)) (hws _ (by simp)) (hws _ (by simp)) hn hlen hd) (fun x _ => ⟨(x, (c.dA, c.dc)), trivial, rfl, Keeps.refl⟩)
  ·obtain ⟨v, rfl⟩ : ∃ v, ws = [denyW, v] := by
    refine Classical.byContradiction fun hno => hw ⟨fun w a b p d e h => h5 ⟨a, b, p, d, by rw [e, h.1], h.2⟩, fun w v e h => hno ⟨v, by rw [e, h]⟩⟩
   have e : moreY [denyW, v] c.q = ({ c.q with deny := c.q.deny ++ [numV v] }, (numR v).isSome) := by
    unfold moreY
    simp only [if_true]
   rw [e]
   exact Tri_weak (more_deny b c A n cc v (hws _ (by simp)) hn hdl) (fun x _ => ⟨((c.iA, c.ic), x), trivial, rfl, Keeps.refl⟩)
set_option maxHeartbeats 1000000000 in
theorem of_t (A : Option Addr) (nums : List Int) (hl : nums.length = 18) : Tri Tryz.prog 83 [.slice A 18 18] [arr iE 1 A nums] [] (fun _ : Unit => True) (fun _ => .agg (CfS.e ⟨⟨nums, 0, [], []⟩, none, 0, none, 0⟩).toArray) (fun _ => []) := by
 match nums, hl with
 | [x0, x1, x2, x3, x4, x5, x6, x7, x8, x9, x10, x11, x12, x13, x14, x15, x16, x17], _ =>
  refine Tri_of (N := Tryz.f83.ntmps) (c := bodyOf Tryz.f83) Tryz.func83 rfl rfl rfl rfl (fun w0 S0 => ?_)
  repeat' (first | refine SW ?_ | refine SD ?_ | exact HO_seg rfl rfl | refine S1 ?_ | (refine S2 ?_; intro _) | (refine S3 ?_; intro _ _) | (refine S4 ?_; intro _ _ _) | (refine HO_g 2 rfl ?_; first | apply HO_a1 rfl | apply HO_o1 rfl) | refine SYCgH ?_ | refine S5 ?_ | (intro hb; try replace hb := simB hb; try exact kill hb))
  (refine SR ?_; unfold RetQ; refine ⟨(), trivial, ?_, Keeps.nil⟩)
  rfl
structure RpI (s : List UInt8) (LL : List (List UInt8)) (j : Nat) (q : CfQ) : Prop where
 le : j ≤ LL.length
 g : CfG q
 n1 : q.ifs.length ≤ j
 n2 : q.deny.length ≤ j
 yes : parM s = okE (linesM j (LL.drop j) q)
 cnt : q.ifs.length + q.deny.length = j - 18
theorem linesM_next {LL : List (List UInt8)} {j : Nat} {x : List UInt8} (hx : LL[j]? = some x) (q : CfQ) : linesM j (LL.drop j) q = match lineM j x q with
  | none => none
  | some c => linesM (j + 1) (LL.drop (j + 1)) c := by
 obtain ⟨hlt, he⟩ := List.getElem?_eq_some_iff.1 hx
 rw [List.drop_eq_getElem_cons hlt, he]
 rfl
theorem RpI.none {s : List UInt8} {LL : List (List UInt8)} {j : Nat} {q : CfQ} (h : RpI s LL j q) {x : List UInt8} (hx : LL[j]? = some x) (hn : lineM j x q = none) : parM s = none := by
 rw [h.yes, linesM_next hx, hn]
 rfl
theorem RpI.step {s : List UInt8} {LL : List (List UInt8)} {j : Nat} {q q' : CfQ} (h : RpI s LL j q) {x : List UInt8} (hx : LL[j]? = some x) (hn : lineM j x q = some q') : RpI s LL (j + 1) q' := by
 have hk := lineX_ok j x q
 rw [hn] at hk
 have hb : (lineX j (splB 32 x) q false).2 = false := by
  cases e : (lineX j (splB 32 x) q false).2 with
  | false => rfl
  | true => rw [if_pos e] at hk; cases hk
 rw [hb, if_neg (by decide)] at hk
 injection hk with hk
 subst hk
 have hl := lineX_len j (splB 32 x) q false
 have hc := lineX_count hb
 have hcnt := h.cnt
 refine ⟨(List.getElem?_eq_some_iff.1 hx).1, lineX_g _ _ _ _ h.g, ?_, ?_, ?_, ?_⟩
 ·have := h.n1; omega
 ·have := h.n2; omega
 ·rw [h.yes, linesM_next hx, hn]
 ·omega
set_option maxHeartbeats 1000000000 in
theorem rparse19_t (s : List UInt8) (hs : s.length ≤ 90000) : Tri Tryz.prog 24 [.string ⟨s.toArray⟩] [] [] (fun _ : OA × OA => True) (fun x => .tuple #[.agg (parS s x).e.toArray, .bool (parM s).isSome])
  (fun x => [arr IfQ.e 5 (parS s x).iA (parS s x).q.ifs, arr iE 1 (parS s x).dA (parS s x).q.deny]) := by
 have hsp : Tri Tryz.prog 26 [.string ⟨s.toArray⟩, .int .u8 10] [] [] (fun _ : OA => True) (fun x => .slice x.1 (splB 10 s).length x.2) (fun x => [ownT x (splB 10 s)]) := rsplit19_t s 10 (by omega)
 have hW := rwords_t
 have href := parM_ref s
 have hsl := splB_len 10 s
 have hmem := splB_mem 10 s
 have hLn := splB_ne 10 s
 obtain ⟨L, hL⟩ : ∃ L, splB 10 s = L := ⟨_, rfl⟩
 rw [hL] at hsp href hsl hmem hLn
 have hLp : 0 < L.length := List.length_pos_iff.2 hLn
 by_cases h19 : L.length < 19
 ·rw [if_pos (.inl h19)] at href
  refine Tri_of (N := Tryz.f24.ntmps) (c := bodyOf Tryz.f24) Tryz.func24 rfl rfl rfl rfl (fun w0 S0 => ?_)
  repeat' (first | refine SW ?_ | refine SD ?_ | (refine HO_k 12 rfl ?_; refine HO_call rfl rfl rfl rfl (hsp) rfl (trivial) rfl rfl soA ?_; intro ⟨lA, lc⟩ hl; dsimp only [lca, lna]) | (refine HO_k 12 rfl ?_; refine HO_call rfl rfl rfl rfl (hW) rfl (trivial) rfl rfl soA ?_; intro bw hbw; dsimp only [lca, lna]) | ((refine HO_g 2 rfl ?_); (refine HO_skip rfl rfl rfl rfl rdA ?_)) | exact HO_seg rfl rfl | refine S1 ?_ | (refine S2 ?_; intro _) | (refine S3 ?_; intro _ _) | (refine S4 ?_; intro _ _ _) | (refine HO_g 2 rfl ?_; first | apply HO_a1 rfl | apply HO_o1 rfl) | refine SYCgH ?_ | refine S5 ?_ | (intro hb; try replace hb := simB hb; try exact kill hb))
  ((first | apply HX_ret | apply HX_retn); (repeat (first | exact Res_nil | apply Res_tmp rfl | apply Res_ce rfl rfl rfl)); unfold RetQ)
  refine ⟨((none, 0), (none, 0)), trivial, ?_, ?_⟩
  ·dsimp only; rw [parS_none href, href]
   rfl
  ·dsimp only; rw [parS_none href]
   exact Keeps.add (fun w => arr_nil _ w) (Keeps.add (fun w => arr_nil _ w) Keeps.nil)
 obtain ⟨z, hz⟩ : ∃ z, L[((L.length : Int) - 1).toNat]? = some z := ⟨_, List.getElem?_eq_getElem (by omega)⟩
 have hzl : L.getLast? = some z := by
  rw [List.getLast?_eq_getElem?, ← hz]
  congr 1
  omega
 by_cases hz0 : ¬ z = []
 ·rw [if_pos (.inr (by rw [hzl]; simpa using hz0))] at href
  have hz1 : (!decide (z = [])) = true := by simp [hz0]
  refine Tri_of (N := Tryz.f24.ntmps) (c := bodyOf Tryz.f24) Tryz.func24 rfl rfl rfl rfl (fun w0 S0 => ?_)
  repeat' (first | refine SW ?_ | refine SD ?_ | (with_reducible refine HO_rw (congrArg Value.bool hz1) ?_) | (with_reducible refine HO_rw (congrArg Value.bool (sba_ne _ _)) ?_) | (refine HO_k 12 rfl ?_; refine HO_call rfl rfl rfl rfl (hsp) rfl (trivial) rfl rfl soA ?_; intro ⟨lA, lc⟩ hl; dsimp only [lca, lna]) | (refine HO_k 12 rfl ?_; refine HO_call rfl rfl rfl rfl (hW) rfl (trivial) rfl rfl soA ?_; intro bw hbw; dsimp only [lca, lna]) | exact HO_seg rfl rfl | refine S1 ?_ | (refine S2 ?_; intro _) | (refine S3 ?_; intro _ _) | (refine S4 ?_; intro _ _ _) | (refine HO_g 2 rfl ?_; first | apply HO_a1 rfl | apply HO_o1 rfl) | refine SYCgH ?_ | refine S5 ?_ | (intro hb; try replace hb := simB hb; try exact kill hb))
  ((first | apply HX_ret | apply HX_retn); (repeat (first | exact Res_nil | apply Res_tmp rfl | apply Res_ce rfl rfl rfl)); unfold RetQ)
  refine ⟨((none, 0), (none, 0)), trivial, ?_, ?_⟩
  ·dsimp only; rw [parS_none href, href]
   rfl
  ·dsimp only; rw [parS_none href]
   exact Keeps.add (fun w => arr_nil _ w) (Keeps.add (fun w => arr_nil _ w) Keeps.nil)
 have hz0 := Classical.not_not.1 hz0
 subst hz0
 rw [if_neg (by rw [hzl]; simp; omega)] at href
 obtain ⟨LL, hLL⟩ : ∃ LL, L.dropLast = LL := ⟨_, rfl⟩
 rw [hLL] at href
 have hlen : L.length = LL.length + 1 := by rw [← hLL, List.length_dropLast]; omega
 have hLat : ∀ j, j < LL.length → L[j]? = LL[j]? := fun j hj => by
  rw [← hLL, List.getElem?_dropLast, if_pos (by omega)]
 have h18 : 18 ≤ LL.length := by omega
 refine Tri_of (N := Tryz.f24.ntmps) (c := bodyOf Tryz.f24) Tryz.func24 rfl rfl rfl rfl (fun w0 S0 => ?_)
 repeat' (first | refine SW ?_ | refine SD ?_ | (with_reducible refine HO_rw (congrArg Value.bool (sba_ne _ _)) ?_) | (refine HO_k 12 rfl ?_; refine HO_call rfl rfl rfl rfl (hsp) rfl (trivial) rfl rfl soA ?_; intro ⟨lA, lc⟩ hl; dsimp only [lca, lna]) | (refine HO_k 12 rfl ?_; refine HO_call rfl rfl rfl rfl (hW) rfl (trivial) rfl rfl soA ?_; intro bw hbw; dsimp only [lca, lna]) | exact HO_seg rfl rfl | refine S1 ?_ | (refine S2 ?_; intro _) | (refine S3 ?_; intro _ _) | (refine S4 ?_; intro _ _ _) | (refine HO_g 2 rfl ?_; first | apply HO_a1 rfl | apply HO_o1 rfl) | refine SYCgH ?_ | refine S5 ?_ | (intro hb; try replace hb := simB hb; try exact kill hb))
 rename_i br bn
 have e18 : List.replicate (18 : Int).toNat [Value.int .i64 0] = (List.replicate 18 (0 : Int)).map iE := rfl
 rw [e18]
 refine HC_loop (α := Nat × List Int × Nat) (fun x => x.2.1.length = 18 ∧ x.1 ≤ 18 ∧ RpI s LL x.1 ⟨x.2.1, x.2.2, [], []⟩) (fun x => [(8, .int .i64 x.1), (7, .int .u32 x.2.2), (6, .slice (some ⟨bn, 0, none⟩) 18 18), (5, .slice (some ⟨bw, 0, none⟩) 18 18), (4, .slice lA L.length lc), (2, pt br)]) (fun x => [own idE 3 1 (some ⟨bn, 0, none⟩) 18 18 (x.2.1.map iE), own idE 9 1 (some ⟨bw, 0, none⟩) 18 18 (wordsL.map strE), ownT (lA, lc) L, cel br TCf c0S.e]) (fun x => 18 - x.1) rfl (0, List.replicate 18 0, 0) ⟨rfl, Nat.zero_le _, ⟨Nat.zero_le _, cf0_g, Nat.zero_le _, Nat.zero_le _, by rw [href]; rfl, rfl⟩⟩ ⟨rfl, rfl, rfl, rfl, rfl, rfl, trivial⟩ rfl ?_
 rintro ⟨i, nums, id⟩ ⟨hnl, hi, hinv⟩
 dsimp only at hnl hi hinv ⊢
 rcases Nat.lt_or_ge i 18 with hlt | hge
 ·obtain ⟨x, hx⟩ : ∃ x, LL[i]? = some x := ⟨LL[i]'(by omega), List.getElem?_eq_getElem _⟩
  have hxL : L[i]? = some x := (hLat i (by omega)).trans hx
  have hxl := hmem x (List.mem_of_getElem? hxL)
  have hsx : Tri Tryz.prog 26 [.string ⟨x.toArray⟩, .int .u8 32] [] [] (fun _ : OA => True) (fun y => .slice y.1 (splB 32 x).length y.2) (fun y => [ownT y (splB 32 x)]) := rsplit19_t x 32 (by omega)
  have hwm := splB_mem 32 x
  have hln : lineM i x ⟨nums, id, [], []⟩ = fixM i (splB 32 x) ⟨nums, id, [], []⟩ := by unfold lineM; rw [if_pos hlt]
  obtain ⟨ws, hws⟩ : ∃ ws, splB 32 x = ws := ⟨_, rfl⟩
  rw [hws] at hsx hwm hln
  have hwi := words_at i hlt
  by_cases h2 : ¬ ws.length = 2
  ·have hpn : parM s = none := hinv.none hx (by
    rw [hln]; unfold fixM
    split
    ·exact absurd rfl h2
    ·rfl)
   repeat' (first | refine SW ?_ | refine SD ?_ | ((refine HO_g 2 rfl ?_); (refine HO_skip rfl rfl rfl rfl rdA ?_)) | (refine HO_k 12 rfl ?_; refine HO_call rfl rfl rfl rfl (hsx) rfl (trivial) rfl rfl soA ?_; intro ⟨xA, xc⟩ hy; dsimp only [lca, lna]) | exact HO_seg rfl rfl | refine S1 ?_ | (refine S2 ?_; intro _) | (refine S3 ?_; intro _ _) | (refine S4 ?_; intro _ _ _) | (refine HO_g 2 rfl ?_; first | apply HO_a1 rfl | apply HO_o1 rfl) | refine SYCgH ?_ | refine S5 ?_ | (intro hb; try replace hb := simB hb; try exact kill hb))
   ((first | apply HX_ret | apply HX_retn); (repeat (first | exact Res_nil | apply Res_tmp rfl | apply Res_ce rfl rfl rfl)); unfold RetQ)
   refine ⟨((none, 0), (none, 0)), trivial, ?_, ?_⟩
   ·dsimp only; rw [parS_none hpn, hpn]
    rfl
   ·dsimp only; rw [parS_none hpn]
    exact Keeps.add (fun w => arr_nil _ w) (Keeps.add (fun w => arr_nil _ w) Keeps.nil)
  have h2 := Classical.not_not.1 h2
  match ws, h2 with
  | [w, v], _ =>
   by_cases hw : ¬ w = wordsL.getD i []
   ·have hpn : parM s = none := hinv.none hx (by
     rw [hln]; unfold fixM
     simp only
     rw [if_neg]
     rw [hwi]
     exact fun e => hw (Option.some.inj e).symm)
    repeat' (first | refine SW ?_ | (with_reducible refine HO_rw (congrArg Value.bool (sba_ne _ _)) ?_) | refine SD ?_ | (refine HO_k 12 rfl ?_; refine HO_call rfl rfl rfl rfl (hsx) rfl (trivial) rfl rfl soA ?_; intro ⟨xA, xc⟩ hy; dsimp only [lca, lna]) | exact HO_seg rfl rfl | refine S1 ?_ | (refine S2 ?_; intro _) | (refine S3 ?_; intro _ _) | (refine S4 ?_; intro _ _ _) | (refine HO_g 2 rfl ?_; first | apply HO_a1 rfl | apply HO_o1 rfl) | refine SYCgH ?_ | refine S5 ?_ | (intro hb; try replace hb := simB hb; try exact kill hb))
    ((first | apply HX_ret | apply HX_retn); (repeat (first | exact Res_nil | apply Res_tmp rfl | apply Res_ce rfl rfl rfl)); unfold RetQ)
    refine ⟨((none, 0), (none, 0)), trivial, ?_, ?_⟩
    ·dsimp only; rw [parS_none hpn, hpn]
     rfl
    ·dsimp only; rw [parS_none hpn]
     exact Keeps.add (fun w => arr_nil _ w) (Keeps.add (fun w => arr_nil _ w) Keeps.nil)
   have hw := Classical.not_not.1 hw
   have hvl := hwm v (by simp)
   by_cases h1 : i = 1
   ·subst h1
    have hA := raddr_t v (by omega)
    have hw1 : w = [105, 100] := hw
    cases hav : adR v with
    | none =>
     rw [hav] at hA
     have hpn : parM s = none := hinv.none hx (by
      rw [hln]; unfold fixM
      simp only
      rw [if_pos (by rw [hwi, hw]), if_pos trivial, hav]
      rfl)
     repeat' (first | refine SW ?_ | (with_reducible refine HO_rw (congrArg Value.bool (sba_ne _ _)) ?_) | refine SD ?_ | (refine HO_k 12 rfl ?_; refine HO_call rfl rfl rfl rfl (hsx) rfl (trivial) rfl rfl soA ?_; intro ⟨xA, xc⟩ hy; dsimp only [lca, lna]) | (refine HO_k 12 rfl ?_; refine HO_callq rfl rfl rfl rfl (hA) (fun _ _ => rfl) (trivial) rfl rfl sqA ?_) | exact HO_seg rfl rfl | refine S1 ?_ | (refine S2 ?_; intro _) | (refine S3 ?_; intro _ _) | (refine S4 ?_; intro _ _ _) | (refine HO_g 2 rfl ?_; first | apply HO_a1 rfl | apply HO_o1 rfl) | refine SYCgH ?_ | refine S5 ?_ | (intro hb; try replace hb := simB hb; try exact kill hb))
     ((first | apply HX_ret | apply HX_retn); (repeat (first | exact Res_nil | apply Res_tmp rfl | apply Res_ce rfl rfl rfl)); unfold RetQ)
     refine ⟨((none, 0), (none, 0)), trivial, ?_, ?_⟩
     ·dsimp only; rw [parS_none hpn, hpn]
      rfl
     ·dsimp only; rw [parS_none hpn]
      exact Keeps.add (fun w => arr_nil _ w) (Keeps.add (fun w => arr_nil _ w) Keeps.nil)
    | some a =>
     rw [hav] at hA
     have hst := hinv.step (q' := ⟨nums, a, [], []⟩) hx (by
      rw [hln]; unfold fixM
      simp only
      rw [if_pos (by rw [hwi, hw]), if_pos trivial, hav]
      rfl)
     repeat' (first | refine SW ?_ | (with_reducible refine HO_rw (congrArg Value.bool (sba_ne _ _)) ?_) | refine SD ?_ | (refine HO_k 12 rfl ?_; refine HO_call rfl rfl rfl rfl (hsx) rfl (trivial) rfl rfl soA ?_; intro ⟨xA, xc⟩ hy; dsimp only [lca, lna]) | (refine HO_k 12 rfl ?_; refine HO_callq rfl rfl rfl rfl (hA) (fun _ _ => rfl) (trivial) rfl rfl sqA ?_) | exact HO_seg rfl rfl | refine S1 ?_ | (refine S2 ?_; intro _) | (refine S3 ?_; intro _ _) | (refine S4 ?_; intro _ _ _) | (refine HO_g 2 rfl ?_; first | apply HO_a1 rfl | apply HO_o1 rfl) | refine SYCgH ?_ | refine S5 ?_ | (intro hb; try replace hb := simB hb; try exact kill hb))
     refine HX_keeps (rw' := [own idE 3 1 (some ⟨bn, 0, none⟩) 18 18 (nums.map iE), own idE 9 1 (some ⟨bw, 0, none⟩) 18 18 (wordsL.map strE), ownT (lA, lc) L, cel br TCf c0S.e]) permA ?_
     exact HX_at (1 + 1, nums, a) ⟨⟨hnl, by show 2 ≤ 18; decide, hst⟩, by show 18 - 2 < 18 - 1; decide⟩ ⟨rfl, rfl, rfl, rfl, rfl, rfl, trivial⟩ rfl
   ·have hN := rnum19_t v (by omega)
    have hst0 : (numR v).isSome = true → RpI s LL (i + 1) ⟨nums.set i (numV v), id, [], []⟩ := fun hs => hinv.step hx (by
     rw [hln]; unfold fixM
     simp only
     rw [if_pos (by rw [hwi, hw]), if_neg h1]
     unfold numV
     cases hn : numR v with
     | none => rw [hn] at hs; cases hs
     | some n => rfl)
    have hno : (numR v).isSome = false → parM s = none := fun hs => hinv.none hx (by
     rw [hln]; unfold fixM
     simp only
     rw [if_pos (by rw [hwi, hw]), if_neg h1]
     cases hn : numR v with
     | none => rfl
     | some n => rw [hn] at hs; cases hs)
    have hmp : (nums.map iE).set i [Value.int .i64 (numV v)] = (nums.set i (numV v)).map iE := by rw [List.map_set]; rfl
    obtain ⟨n0, hn0⟩ : ∃ n0, nums[i]? = some n0 := ⟨nums[i]'(by omega), List.getElem?_eq_getElem _⟩
    cases hsm : (numR v).isSome with
    | false =>
     rw [hsm] at hN
     have hpn := hno hsm
     repeat' (first | refine SW ?_ | (with_reducible refine HO_rw (congrArg Value.bool (sba_ne _ _)) ?_) | refine SD ?_ | (refine HO_k 12 rfl ?_; refine HO_call rfl rfl rfl rfl (hsx) rfl (trivial) rfl rfl soA ?_; intro ⟨xA, xc⟩ hy; dsimp only [lca, lna]) | (refine HO_k 12 rfl ?_; refine HO_callq rfl rfl rfl rfl (hN) (fun _ _ => rfl) (trivial) rfl rfl sqA ?_) | exact HO_seg rfl rfl | refine S1 ?_ | (refine S2 ?_; intro _) | (refine S3 ?_; intro _ _) | (refine S4 ?_; intro _ _ _) | (refine HO_g 2 rfl ?_; first | apply HO_a1 rfl | apply HO_o1 rfl) | refine SYCgH ?_ | refine S5 ?_ | (intro hb; try replace hb := simB hb; try exact kill hb))
     ((first | apply HX_ret | apply HX_retn); (repeat (first | exact Res_nil | apply Res_tmp rfl | apply Res_ce rfl rfl rfl)); unfold RetQ)
     refine ⟨((none, 0), (none, 0)), trivial, ?_, ?_⟩
     ·dsimp only; rw [parS_none hpn, hpn]
      rfl
     ·dsimp only; rw [parS_none hpn]
      exact Keeps.add (fun w => arr_nil _ w) (Keeps.add (fun w => arr_nil _ w) Keeps.nil)
    | true =>
     rw [hsm] at hN
     have hst := hst0 hsm
     repeat' (first | refine SW ?_ | (with_reducible refine HO_rw (congrArg Value.bool (sba_ne _ _)) ?_) | refine SD ?_ | (refine HO_k 12 rfl ?_; refine HO_call rfl rfl rfl rfl (hsx) rfl (trivial) rfl rfl soA ?_; intro ⟨xA, xc⟩ hy; dsimp only [lca, lna]) | (refine HO_k 12 rfl ?_; refine HO_callq rfl rfl rfl rfl (hN) (fun _ _ => rfl) (trivial) rfl rfl sqA ?_) | exact HO_seg rfl rfl | refine S1 ?_ | (refine S2 ?_; intro _) | (refine S3 ?_; intro _ _) | (refine S4 ?_; intro _ _ _) | (refine HO_g 2 rfl ?_; first | apply HO_a1 rfl | apply HO_o1 rfl) | refine SYCgH ?_ | refine S5 ?_ | (intro hb; try replace hb := simB hb; try exact kill hb))
     refine HX_keeps (rw' := [own idE 3 1 (some ⟨bn, 0, none⟩) 18 18 ((nums.set i (numV v)).map iE), own idE 9 1 (some ⟨bw, 0, none⟩) 18 18 (wordsL.map strE), ownT (lA, lc) L, cel br TCf c0S.e]) ?_ ?_
     ·rw [← hmp]
      exact permA
     ·exact HX_at (i + 1, nums.set i (numV v), id) ⟨⟨by show (nums.set i (numV v)).length = 18; rw [List.length_set]; exact hnl, hlt, hst⟩, by show 18 - (i + 1) < 18 - i; omega⟩ ⟨rfl, rfl, rfl, rfl, rfl, rfl, trivial⟩ rfl
 obtain rfl : i = 18 := by omega
 have hof := fun A => of_t A nums hnl
 repeat' (first | refine SW ?_ | refine SD ?_ | (refine HO_k 12 rfl ?_; refine HO_callq rfl rfl rfl rfl (hof _) (fun _ _ => rfl) (srcsA) rfl rfl sqA ?_) | exact HO_seg rfl rfl | refine S1 ?_ | (refine S2 ?_; intro _) | (refine S3 ?_; intro _ _) | (refine S4 ?_; intro _ _ _) | (refine HO_g 2 rfl ?_; first | apply HO_a1 rfl | apply HO_o1 rfl) | refine SYCgH ?_ | refine S5 ?_ | (intro hb; try replace hb := simB hb; try exact kill hb))
 rename_i bc
 refine HC_keeps (rw' := pcP bc ⟨⟨nums, id, [], []⟩, none, 0, none, 0⟩ ++ [ownT (lA, lc) L, cel br TCf c0S.e]) ?_ ?_
 ·exact Keeps.pick 0 rfl rfl (Keeps.add (fun w => own_nil w) (Keeps.add (fun w => own_nil w) permA))
 refine HC_loop (α := Nat × CfS) (fun x => 18 ≤ x.1 ∧ RpI s LL x.1 x.2.q) (fun x => [(12, .int .i64 x.1), (11, pt bc), (4, .slice lA L.length lc), (2, pt br)]) (fun x => pcP bc x.2 ++ [ownT (lA, lc) L, cel br TCf c0S.e]) (fun x => LL.length - x.1) rfl (18, ⟨⟨nums, id, [], []⟩, none, 0, none, 0⟩) ⟨Nat.le_refl _, hinv⟩ ⟨rfl, rfl, rfl, rfl, trivial⟩ rfl ?_
 clear hinv hnl hof hi nums id
 rintro ⟨j, c⟩ ⟨hj, hinv⟩
 dsimp only [pcP, lca, lna] at hj hinv ⊢
 have hle := hinv.le
 have hG := hinv.g
 have n1 := hinv.n1
 have n2 := hinv.n2
 rcases Nat.lt_or_ge j LL.length with hlt | hge
 ·by_cases hmany : 300 < c.q.ifs.length + c.q.deny.length
  ·have hpn : parM s = none := by rw [hinv.yes]; exact okE_many hj (by omega)
   dsimp only [CfS.e]
   repeat' (first | refine SW ?_ | ((refine HO_g 2 rfl ?_); (refine HO_skip rfl rfl rfl rfl rdA ?_)) | refine SD ?_ | exact HO_seg rfl rfl | refine S1 ?_ | (refine S2 ?_; intro _) | (refine S3 ?_; intro _ _) | (refine S4 ?_; intro _ _ _) | (refine HO_g 2 rfl ?_; first | apply HO_a1 rfl | apply HO_o1 rfl) | refine SYCgH ?_ | refine S5 ?_ | (intro hb; try replace hb := simB hb; try exact kill hb))
   ((first | apply HX_ret | apply HX_retn); (repeat (first | exact Res_nil | apply Res_tmp rfl | apply Res_ce rfl rfl rfl)); unfold RetQ)
   refine ⟨((none, 0), (none, 0)), trivial, ?_, ?_⟩
   ·dsimp only; rw [parS_none hpn, hpn]
    rfl
   ·dsimp only; rw [parS_none hpn]
    exact Keeps.add (fun w => arr_nil _ w) (Keeps.add (fun w => arr_nil _ w) Keeps.nil)
  ·obtain ⟨x, hx⟩ : ∃ x, LL[j]? = some x := ⟨LL[j], List.getElem?_eq_getElem hlt⟩
   have hxL : L[j]? = some x := (hLat j (by omega)).trans hx
   have hxl := hmem x (List.mem_of_getElem? hxL)
   have hsx : Tri Tryz.prog 26 [.string ⟨x.toArray⟩, .int .u8 32] [] [] (fun _ : OA => True) (fun y => .slice y.1 (splB 32 x).length y.2) (fun y => [ownT y (splB 32 x)]) := rsplit19_t x 32 (by omega)
   have hwm := splB_mem 32 x
   have hln : lineM j x c.q = moreM (splB 32 x) c.q := by unfold lineM; rw [if_neg (by omega)]
   rw [moreY_ok] at hln
   have hM := fun (y : OA) => more_t bc c y.1 (splB 32 x).length y.2 (splB 32 x) rfl (fun w hw => by have := hwm w hw; omega) (by omega) (by omega)
   dsimp only [pcP] at hM
   cases hy : (moreY (splB 32 x) c.q).2 with
   | false =>
    rw [hy, if_neg (by decide)] at hln
    rw [hy] at hM
    have hpn : parM s = none := hinv.none hx hln
    repeat' (first | refine SW ?_ | refine SD ?_ | (refine HO_k 12 rfl ?_; refine HO_call rfl rfl rfl rfl (hsx) rfl (trivial) rfl rfl soA ?_; intro y9 hy9; dsimp only [lca, lna]) | (refine HO_k 12 rfl ?_; refine HO_mv 3 rfl rfl ?_; refine HO_mv 3 rfl rfl ?_; refine HO_mv 3 rfl rfl ?_; refine HO_call rfl rfl rfl rfl (hM _) rfl (srcsA) rfl rfl soA ?_; intro z9 hz9; dsimp only [lca, lna]) | exact HO_seg rfl rfl | refine S1 ?_ | (refine S2 ?_; intro _) | (refine S3 ?_; intro _ _) | (refine S4 ?_; intro _ _ _) | (refine HO_g 2 rfl ?_; first | apply HO_a1 rfl | apply HO_o1 rfl) | refine SYCgH ?_ | refine S5 ?_ | (intro hb; try replace hb := simB hb; try exact kill hb))
    ((first | apply HX_ret | apply HX_retn); (repeat (first | exact Res_nil | apply Res_tmp rfl | apply Res_ce rfl rfl rfl)); unfold RetQ)
    refine ⟨((none, 0), (none, 0)), trivial, ?_, ?_⟩
    ·dsimp only; rw [parS_none hpn, hpn]
     rfl
    ·dsimp only; rw [parS_none hpn]
     exact Keeps.add (fun w => arr_nil _ w) (Keeps.add (fun w => arr_nil _ w) Keeps.nil)
   | true =>
    rw [hy, if_pos rfl] at hln
    rw [hy] at hM
    have hst := hinv.step hx hln
    repeat' (first | refine SW ?_ | refine SD ?_ | (refine HO_k 12 rfl ?_; refine HO_call rfl rfl rfl rfl (hsx) rfl (trivial) rfl rfl soA ?_; intro y9 hy9; dsimp only [lca, lna]) | (refine HO_k 12 rfl ?_; refine HO_mv 3 rfl rfl ?_; refine HO_mv 3 rfl rfl ?_; refine HO_mv 3 rfl rfl ?_; refine HO_call rfl rfl rfl rfl (hM _) rfl (srcsA) rfl rfl soA ?_; intro z9 hz9; dsimp only [lca, lna]) | exact HO_seg rfl rfl | refine S1 ?_ | (refine S2 ?_; intro _) | (refine S3 ?_; intro _ _) | (refine S4 ?_; intro _ _ _) | (refine HO_g 2 rfl ?_; first | apply HO_a1 rfl | apply HO_o1 rfl) | refine SYCgH ?_ | refine S5 ?_ | (intro hb; try replace hb := simB hb; try exact kill hb))
    refine HX_keeps (rw' := pcP bc (c.wth (moreY (splB 32 x) c.q).1 z9) ++ [ownT (lA, lc) L, cel br TCf c0S.e]) permA ?_
    exact HX_at (j + 1, c.wth (moreY (splB 32 x) c.q).1 z9) ⟨⟨by show 18 ≤ j + 1; omega, hst⟩, by show LL.length - (j + 1) < LL.length - j; omega⟩ ⟨rfl, rfl, rfl, rfl, trivial⟩ rfl
 obtain rfl : j = LL.length := by omega
 have hy := hinv.yes
 rw [List.drop_length] at hy
 have hpm : parM s = if cfOk c.q = true then some c.q else none := hy
 have hck := rcheck19_t c ⟨by omega, by omega, hG.2.1, hG.2.2⟩
 cases hok : cfOk c.q with
 | false =>
  rw [hok] at hck hpm
  have hpn : parM s = none := hpm
  repeat' (first | refine SW ?_ | refine SD ?_ | (refine HO_k 12 rfl ?_; refine HO_callq rfl rfl rfl rfl (hck) (fun _ _ => rfl) (srcsA) rfl rfl sqA ?_) | exact HO_seg rfl rfl | refine S1 ?_ | (refine S2 ?_; intro _) | (refine S3 ?_; intro _ _) | (refine S4 ?_; intro _ _ _) | (refine HO_g 2 rfl ?_; first | apply HO_a1 rfl | apply HO_o1 rfl) | refine SYCgH ?_ | refine S5 ?_ | (intro hb; try replace hb := simB hb; try exact kill hb))
  ((first | apply HX_ret | apply HX_retn); (repeat (first | exact Res_nil | apply Res_tmp rfl | apply Res_ce rfl rfl rfl)); unfold RetQ)
  refine ⟨((none, 0), (none, 0)), trivial, ?_, ?_⟩
  ·dsimp only; rw [parS_none hpn, hpn]
   rfl
  ·dsimp only; rw [parS_none hpn]
   exact Keeps.add (fun w => arr_nil _ w) (Keeps.add (fun w => arr_nil _ w) Keeps.nil)
 | true =>
  rw [hok] at hck hpm
  have hpn : parM s = some c.q := hpm
  repeat' (first | refine SW ?_ | refine SD ?_ | (refine HO_k 12 rfl ?_; refine HO_callq rfl rfl rfl rfl (hck) (fun _ _ => rfl) (srcsA) rfl rfl sqA ?_) | exact HO_seg rfl rfl | refine S1 ?_ | (refine S2 ?_; intro _) | (refine S3 ?_; intro _ _) | (refine S4 ?_; intro _ _ _) | (refine HO_g 2 rfl ?_; first | apply HO_a1 rfl | apply HO_o1 rfl) | refine SYCgH ?_ | refine S5 ?_ | (intro hb; try replace hb := simB hb; try exact kill hb))
  ((first | apply HX_ret | apply HX_retn); (repeat (first | exact Res_nil | apply Res_tmp rfl | apply Res_ce rfl rfl rfl)); unfold RetQ)
  refine ⟨((c.iA, c.ic), (c.dA, c.dc)), trivial, ?_, ?_⟩
  ·dsimp only; rw [parS_some hpn, hpn]
   rfl
  ·dsimp only; rw [parS_some hpn]
   exact Keeps.skip (Keeps.cons own_e (Keeps.cons own_e Keeps.nil))
end Go.Proofs.YtbhiojedmkcfoaaGreatDoor
