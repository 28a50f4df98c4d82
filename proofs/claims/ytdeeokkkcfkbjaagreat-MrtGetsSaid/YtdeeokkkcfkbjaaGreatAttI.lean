/- attr's reading of communities. -/
import Derived.Test.YtdeeokkkcfkbjaaGreatAttH
import Derived.Shelf.Abstract
namespace Go.Proofs.YtdeeokkkcfkbjaaGreat
set_option linter.unusedVariables false
set_option linter.unusedSimpArgs false
open Go.RowKit
attribute [local irreducible] HC HX HO Tri eP adr

@[reducible] def TG : Nat := 167
@[reducible] def TSg : Nat := 99
@[reducible] def TIn : Nat := 3
/-- attributes under way -/
@[reducible] def rgC (a : AttS) (four : Bool) (seen : Int) : List Value := [.int .i64 a.org, .slice a.pA a.path.length a.pc, .int .u32 a.nxt, .int .i64 a.med, .int .i64 a.pref, .slice a.cA a.comms.length a.cc, .bool four, .int .u32 seen]
@[reducible] def ownI (A : Option Addr) (c : Nat) (l : List Int) : SL := own idE TIn 1 A l.length c (l.map iE)
theorem chunk_t (A : Option Addr) (n c : Nat) : Tri Tryz.prog 118 [.slice A n c, .int .i64 4] [] [] (fun _ : Nat × Nat => True) (fun x => .func (.func 119) #[] #[pt x.1, pt x.2])
    (fun x => [cel x.1 29 [.slice A n c], cel x.2 TIn [.int .i64 4]]) := by
  refine Tri_of (N := Tryz.f118.ntmps) (c := bodyOf Tryz.f118) Tryz.func118 rfl rfl rfl rfl (fun w0 S0 => ?_)
  repeat' (first | refine SW ?_ | refine SD ?_ | exact HO_seg rfl rfl | refine S1 ?_ | (refine S2 ?_; intro _) | (refine S3 ?_; intro _ _) | (refine S4 ?_; intro _ _ _) | (refine HO_g 2 rfl ?_; (first | apply HO_and rfl rfl rfl rfl rfl rfl rfl rfl rfl | apply HO_or rfl rfl rfl rfl rfl rfl rfl rfl rfl)) | refine S5 ?_ | (intro hb; try replace hb := simB hb; try exact kill hb))
  rename_i b1 b2
  ((first | apply HX_ret | apply HX_retn); (repeat (first | exact Res_nil | apply Res_tmp rfl | apply Res_ce rfl rfl rfl)); unfold RetQ; refine ⟨(b1, b2), trivial, rfl, Keeps.swap Keeps.refl⟩)
theorem chunk_stops {w0 : World} {S0 : Foot} {ro rw : List SL} {S : Foot} {w : World} (hf : Fits w0 S0 ro rw S w) {b1 b2 T1 T2 : Nat} {A : Option Addr} {n c m : Nat} (hn : n = 4 * m) (hm : 4 * m ≤ 1000000) (hc : 4 * m ≤ c)
    (h1 : cel b1 T1 [.slice A n c] ∈ ro) (h2 : cel b2 T2 [.int .i64 4] ∈ ro) :
    SeqStopsK Fence.wide 2 Tryz.prog 119 #[pt b1, pt b2] (fun x : Fin m => #[chkV A c x.val]) (KpB b1 b2) (fun ys => ys = List.finRange m) (fun pre => pre <+: List.finRange m) (List.finRange m).length w := fun l J Jx W hW hJ _ hY h0 => by
  subst hn
  obtain ⟨F1, hF1, hq1⟩ := hf.ros _ h1
  obtain ⟨F2, hF2, hq2⟩ := hf.ros _ h2
  exact chunk_in l b1 b2 T1 T2 A c m hm hc J Jx (fun s W' h => hJ s W' W'.drew none h ⟨rfl, rfl, rfl, Nat.le_refl _, fun _ _ _ => rfl⟩ (fun _ e => by cases e)) (fun pre x W1 hj hl => hY pre x W1 hj (by simpa using hl)) W
    ((hW.block _ (hF1 _ hq1.1).1).trans hq1.2) ((hW.block _ (hF2 _ hq2.1).1).trans hq2.2) h0
def cv (d : List UInt8) (k : Nat) : Int := (ge ((d.drop (4 * k)).take 4) : Int)
def cms (d : List UInt8) {m : Nat} (pre : List (Fin m)) : List Int := pre.map fun k => cv d k.val
theorem cms_all (d : List UInt8) (m : Nat) : cms d (List.finRange m) = numsG 4 m d := by
  unfold cms numsG cv
  apply List.ext_getElem
  · simp
  · intro i h1 h2
    simp [Nat.mul_comm]
def cmF (b : Nat) (a : AttS) (four : Bool) (seen : Int) (new : List Int) (x : OA) : List SL := [cel b TG (rgC { a with cA := x.1, cc := x.2, comms := a.comms ++ new } four seen), ownI x.1 x.2 (a.comms ++ new)]
theorem cmF_nil (b : Nat) (a : AttS) (four : Bool) (seen : Int) : cmF b a four seen [] (a.cA, a.cc) = [cel b TG (rgC a four seen), ownI a.cA a.cc a.comms] := by
  unfold cmF
  rw [List.append_nil]
theorem cmF_cells (b : Nat) (a : AttS) (four : Bool) (seen : Int) (new : List Int) : ∀ e ∈ [exS (cmF b a four seen new)], Cellish e := fun e he => by
  simp at he
  subst he
  refine Cellish.exS fun x e he => ?_
  simp [cmF] at he
  rcases he with rfl | rfl
  · exact Cellish.cel
  · exact Cellish.own
theorem cmF_cells' (b : Nat) (a : AttS) (four : Bool) (seen : Int) (new : List Int) (x : OA) : ∀ e ∈ cmF b a four seen new x, Cellish e := fun e he => by
  simp [cmF] at he
  rcases he with rfl | rfl
  · exact Cellish.cel
  · exact Cellish.own
theorem ge4 {l : List UInt8} (h : l.length = 4) : (ngetR l).1 = (ge l : Int) := by unfold ngetR; rw [if_neg (by omega)]
set_option maxHeartbeats 4000000 in
theorem comms_t (b : Nat) (a : AttS) (four : Bool) (seen : Int) (dA : Option Addr) (dc : Nat) (d : List UInt8) (hc : d.length ≤ dc) (m : Nat) (hm : d.length = 4 * m) (h1 : 1 ≤ m) (h32 : m ≤ 32) (ha : a.comms.length ≤ 1000000) :
    Tri Tryz.prog 116 [pt b, .slice dA d.length dc] [arr bE 1 dA d] [cel b TG (rgC a four seen), ownI a.cA a.cc a.comms] (fun _ : OA => True) (fun _ => .bool true)
      (fun x => [cel b TG (rgC { a with cA := x.1, cc := x.2, comms := a.comms ++ numsG 4 m d } four seen), ownI x.1 x.2 (a.comms ++ numsG 4 m d)]) := by
  have hrem : bRem (d.length : Int) 4 = 0 := by unfold bRem; rw [hm, Int.tmod_eq_emod_of_nonneg (by omega)]; omega
  refine Tri_ofM (N := Tryz.f116.ntmps) (c := bodyOf Tryz.f116) Tryz.func116 rfl rfl rfl rfl (fun w0 S0 => ?_)
  dsimp only [pt]
  repeat' (first | refine SW ?_ | refine SD ?_ | (refine HO_k 12 rfl ?_; refine HO_call rfl rfl rfl rfl (chunk_t _ _ _) rfl (trivial) rfl rfl soA ?_; intro ⟨b1, b2⟩ hx; dsimp only [List.cons_append, List.nil_append]) | exact HO_seg rfl rfl | refine S1 ?_ | (refine S2 ?_; intro _) | (refine S3 ?_; intro _ _) | (refine S4 ?_; intro _ _ _) | (refine HO_g 2 rfl ?_; (first | apply HO_and rfl rfl rfl rfl rfl rfl rfl rfl rfl | apply HO_or rfl rfl rfl rfl rfl rfl rfl rfl rfl)) | refine S5 ?_ | (intro hb; try replace hb := simB hb; try exact kill hb))
  rename_i b0
  refine HC_give 0 rfl rfl (HC_give 0 rfl rfl (HC_give 0 rfl rfl ?_))
  refine HC_keeps (rw' := [exS (cmF b a four seen (cms d ([] : List (Fin m))))]) (by rw [← cmF_nil]; exact Keeps.ex _ Keeps.nil) ?_
  refine HC_range (α := Fin m) (ty := 29) (pos := "attr.go:148") (i := 4) (t := 23) (p := 24) (d := 5) rfl rfl rfl rfl (Go.Proofs.enters_of Tryz.func119 (by kernel_rfl) rfl) (fun k => chkV dA dc k.val) (List.finRange m) (b1 := b1) (b2 := b2) (T1 := 29) (T2 := TIn) (cs1 := [.slice dA d.length dc]) (cs2 := [.int .i64 4]) (by simp) (by simp)
    (fun S w hf => chunk_stops (T1 := 29) (T2 := TIn) hf hm (by omega) (by omega) (by simp) (by simp)) (fun pre => [exS (cmF b a four seen (cms d pre))]) rfl ?_ (fun pre => cmF_cells b a four seen _) ?_ ?_
  · intro e he
    simp at he
    rcases he with rfl | rfl | rfl | rfl
    · exact Cellish.cel
    · exact Cellish.cel
    · exact Cellish.cel
    · exact Cellish.arr rfl
  · intro l pre k w S hlen
    have hk := k.isLt
    have hpl : pre.length < m := by simpa using hlen
    have hcl : (cms d pre).length = pre.length := by simp [cms]
    have h4 : 4 = ((d.drop (4 * k.val)).take 4).length := by simp; omega
    have hg := ge4 h4.symm
    refine HR_ex fun ⟨xA, xc⟩ => ?_
    dsimp only [cmF, chkV]
    repeat' (first | refine SW ?_ | refine SD ?_ | (refine HO_k 12 rfl ?_; refine HO_callq rfl rfl rfl rfl (nget_t (cutA dA 1 dc (4 * k.val)) 4 4 ((d.drop (4 * k.val)).take 4) h4) (fun _ _ => rfl) (AllSrc.via 3 rfl (arr_cut _ _ _ (fun h => by omega)) trivial) rfl rfl sqA ?_) | exact HO_seg rfl rfl | refine S1 ?_ | (refine S2 ?_; intro _) | (refine S3 ?_; intro _ _) | (refine S4 ?_; intro _ _ _) | (refine HO_g 2 rfl ?_; (first | apply HO_and rfl rfl rfl rfl rfl rfl rfl rfl rfl | apply HO_or rfl rfl rfl rfl rfl rfl rfl rfl rfl)) | refine SR ?_ | refine S5 ?_ | (intro hb; try replace hb := simB hb; try exact kill hb))
    rename_i A' c'
    have e0 : a.comms ++ cms d (pre ++ [k]) = (a.comms ++ cms d pre) ++ [cv d k.val] := by simp [cms]
    have eL : (a.comms ++ cms d pre).length + 1 = (a.comms ++ cms d (pre ++ [k])).length := by rw [e0]; simp; omega
    have eM : List.map iE (a.comms ++ cms d pre) ++ [[Value.int .i64 (ge ((d.drop (4 * k.val)).take 4) : Int)]] = List.map iE (a.comms ++ cms d (pre ++ [k])) := by rw [e0, List.map_append (l₂ := [cv d k.val])]; rfl
    dsimp only
    rw [hg, eL, eM]
    exact HX_keeps (rw' := cmF b a four seen (cms d (pre ++ [k])) (A', c')) (Keeps.cons Ent.rfl_ (Keeps.cons Ent.rfl_ (Keeps.skip Keeps.nil))) (HX_keeps (Keeps.ex (A', c') Keeps.nil) (HX_endR rfl))
  · intro D hD
    refine HX_ex fun ⟨xA, xc⟩ => ?_
    rw [cms_all]
    refine HM_block (HM_then (HM_seq rfl (HM_asg (i := 7) (d := 4) (ty := 4) (pos := "attr.go:152") (x := .const (.bool true)) rfl rfl rfl (HM_then (HM_ret rfl ?_)))))
    refine HX_retD hD (fun e he => by simp at he; simp [he]) (fun e he => by simp at he; subst he; exact Cellish.arr rfl) (fun e he => cmF_cells' b a four seen _ _ e he) (Res_tmp rfl Res_nil) ⟨(xA, xc), trivial, rfl, Keeps.refl⟩
end Go.Proofs.YtdeeokkkcfkbjaaGreat
