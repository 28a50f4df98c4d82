/- Part of a proof of many texts: what the theorem at its end leans on. -/
import Derived.Test.YtbhiojedmkcfoaaGreatDoorShf
import Derived.Test.YtbhiojedmkcfoaaGreatDoorZKc
import Derived.Test.YtbhiojedmkcfoaaGreatDoorZTypes
import Derived.Test.YtbhiojedmkcfoaaGreatDoorZAd0
namespace Go.Proofs.YtbhiojedmkcfoaaGreatDoor
set_option linter.unusedVariables false
set_option linter.unusedSimpArgs false
open Go.RowKit
attribute [local irreducible] HC HX HO Tri eP adr
@[reducible] def TBu : Nat := 104
theorem Tri_setc {P : Program} {f b T i : Nat} {args : List Value} {cs cs' : List Value} {v u : Value} (hi : i < cs.length) (hset : cs.set i u = cs') (h : ∀ w, w.cell? ⟨b, i, none⟩ = cs[i]? → w.shape? b = some (T, cs.length) → w.frozen? ⟨b, i, none⟩ = false → Calls P f args.toArray w fun e w' => e = .returned v ∧ w' = w.setCell ⟨b, i, none⟩ u) :
  Tri P f args [] [cel b T cs] (fun _ : Unit => True) (fun _ => v) (fun _ => [cel b T cs']) := by
 unfold Tri
 intro w S hf
 obtain ⟨A, hA, hAS, hAl, _, _, hstep⟩ := Fits.step (cs := [cel b T cs]) (rest := []) hf
 obtain ⟨B1, B2, hB1, hB2, _, hp, _⟩ := hA
 have hb := hp.2
 refine (h w (cel_cell hp i) (by simp [World.shape?, hb]) (cel_free hp i)).mono fun e w' ⟨he, hw⟩ => ?_
 subst hw
 have hsz : (w.setCell ⟨b, i, none⟩ u).heap.size = w.heap.size := by simp [World.setCell]
 obtain ⟨T', hT'⟩ := hstep (w.setCell ⟨b, i, none⟩ u) (fun k => k = b) [cel b T cs'] ⟨rfl, rfl, rfl, by rw [hsz]; exact Nat.le_refl _, fun k _ hn => Below.heap_setCell _ _ _ _ (fun e => hn (by subst e; exact hB1 _ hp.1))⟩
  (fun k hk => by subst hk; rw [hsz]; exact hAl _ (hB1 _ hp.1)) (fun k hk => by subst hk; exact .inl (hB1 _ hp.1))
  ⟨fun k => k = b, fun _ => False, fun _ h => h, fun _ h => h.elim, fun _ _ h => h, ⟨rfl, by
   rw [← hset]
   simp [World.setCell, Array.getElem?_modify, hb]⟩, trivial⟩
 exact ⟨(), T', trivial, he, hT'⟩
theorem cpyF_t (b : Nat) (v : Value) : Tri Tryz.prog 129 [pt b] [] [cel b TBu [.pointer none, v]] (fun _ : Unit => True) (fun _ => .tuple #[]) (fun _ => [cel b TBu [pt b, v]]) :=
 Tri_setc (i := 0) (Nat.zero_lt_succ _) rfl fun w h1 h2 h3 => Any.Builder_copyCheck_fresh { Tryz.lays156 with } Tryz.Builder_Extra_156.toX72 b w h1 h2 h3
theorem cpyU_t (b : Nat) (v : Value) : Tri Tryz.prog 129 [pt b] [] [cel b TBu [pt b, v]] (fun _ : Unit => True) (fun _ => .tuple #[]) (fun _ => [cel b TBu [pt b, v]]) := by
 unfold Tri
 intro w S hf
 obtain ⟨A, hA, _⟩ := Fits.step (cs := [cel b TBu [pt b, v]]) (rest := []) hf
 obtain ⟨B1, B2, hB1, hB2, _, hp, _⟩ := hA
 refine (Any.Builder_copyCheck_used (P := Tryz.prog) (ρ := Tryz.lays156_ren) { Tryz.lays156 with } Tryz.Builder_Extra_156.toX72 b w (cel_cell hp 0)).mono fun e w' ⟨he, hw⟩ => ?_
 subst hw
 exact ⟨(), S, trivial, he, hf⟩
@[reducible] def bldE (b : Nat) (u : Bool) (x : OA) (l : List UInt8) : List Value := [.pointer (if u = true then some ⟨b, 0, none⟩ else none), .slice x.1 l.length x.2]
@[reducible] def bldP (b : Nat) (u : Bool) (x : OA) (l : List UInt8) : List SL := [cel b TBu (bldE b u x l), own idE 5 1 x.1 l.length x.2 (l.map byV)]
theorem cpy_t (b : Nat) (u : Bool) (v : Value) : Tri Tryz.prog 129 [pt b] [] [cel b TBu [.pointer (if u = true then some ⟨b, 0, none⟩ else none), v]] (fun _ : Unit => True) (fun _ => .tuple #[]) (fun _ => [cel b TBu [pt b, v]]) := by
 cases u
 ·exact cpyF_t b v
 ·exact cpyU_t b v
set_option maxHeartbeats 4000000 in
theorem wstr_t (b : Nat) (u : Bool) (x : OA) (l s : List UInt8) (hl : l.length + s.length ≤ 1000000) : Tri Tryz.prog 53 [pt b, .string ⟨s.toArray⟩] [] (bldP b u x l) (fun _ : OA => True) (fun _ => .tuple #[.int .i64 s.length, .nilIface]) (fun x' => bldP b true x' (l ++ s)) := by
 have hc := fun v => cpy_t b u v
 refine Tri_of (N := Tryz.f53.ntmps) (c := bodyOf Tryz.f53) Tryz.func53 rfl rfl rfl rfl (fun w0 S0 => ?_)
 repeat' (first | refine SW ?_ | refine SD ?_ | (refine HO_k 8 rfl ?_; refine HO_slen rfl rfl rfl rfl rdA ?_) | (refine HO_k 12 rfl ?_; refine HO_call rfl rfl rfl rfl (hc _) rfl (trivial) rfl rfl soA ?_; intro g h; dsimp only [lca, lna]) | (refine HO_k 11 rfl ?_; refine HO_appS 0 rfl rfl rfl rfl rfl (by omega) rfl rfl soA ?_; intro _ _; dsimp only [List.eraseIdx]) | (refine HO_k 11 rfl ?_; refine HO_appS 1 rfl rfl rfl rfl rfl (by omega) rfl rfl soA ?_; intro _ _; dsimp only [List.eraseIdx]) | exact HO_seg rfl rfl | refine S1 ?_ | (refine S2 ?_; intro _) | (refine S3 ?_; intro _ _) | (refine S4 ?_; intro _ _ _) | (refine HO_g 2 rfl ?_; first | apply HO_a1 rfl | apply HO_o1 rfl) | refine S5 ?_ | (intro hb; try replace hb := simB hb; try exact kill hb))
 rename_i A' c'
 have hE : l.length + s.length = (l ++ s).length := by simp
 rw [hE]
 refine HX_keeps (rw' := bldP b true (A', c') (l ++ s)) permA ?_
 (refine SR ?_; unfold RetQ; refine ⟨(A', c'), trivial, rfl, Keeps.refl⟩)
theorem Tri_ownA {P : Program} {f T sz n c : Nat} {A : Option Addr} {xs : List (List Value)} {args : List Value} {ro rw : List SL} {α : Type} {φ : α → Prop} {val : α → Value} {es : α → List SL} (k : Nat) (hk : rw[k]? = some (own idE T sz A n c xs)) (hne : n ≠ 0)
  (h : ∀ g, A = some ⟨g, 0, none⟩ → n ≤ c → Tri P f args ro rw φ val es) : Tri P f args ro rw φ val es := by
 unfold Tri
 intro w S hf
 obtain ⟨F, _, hp⟩ := hf.see (List.mem_append.2 (.inr (List.mem_of_getElem? hk)))
 rcases hp.2.1.2 with ⟨hv, hn⟩ | ⟨g, cap, cur, hv, _, hh, hnc, _⟩
 ·exact absurd hn hne
 ·injection hv with hv1 _ hv2
  subst hv2
  have := h g hv1 hnc
  unfold Tri at this
  exact this w S hf
set_option maxHeartbeats 4000000 in
theorem bstr_t (b : Nat) (u : Bool) (x : OA) (l : List UInt8) (hne : l ≠ []) (hl : l.length ≤ 1000000) : Tri Tryz.prog 59 [pt b] [] (bldP b u x l) (fun _ : Unit => True) (fun _ => .string ⟨l.toArray⟩) (fun _ => []) := by
 obtain ⟨A, c⟩ := x
 have hlp : 0 < l.length := List.length_pos_iff.2 hne
 refine Tri_ownA 1 rfl (by omega) fun g hA hc => ?_
 dsimp only at hA hc
 subst hA
 refine Tri_of (N := Tryz.f59.ntmps) (c := bodyOf Tryz.f59) Tryz.func59 rfl rfl rfl rfl (fun w0 S0 => ?_)
 repeat' (first | refine SW ?_ | (refine HC_lex rfl rfl (by decide +kernel) rfl rfl ?_) | refine SD ?_ | (refine HO_k 8 rfl ?_; refine HO_slen rfl rfl rfl rfl rdA ?_) | (refine HO_k 19 rfl ?_; refine HO_sdata rfl rfl (by omega) rfl rfl rdA ?_) | exact HO_seg rfl rfl | refine S1 ?_ | (refine S2 ?_; intro _) | (refine S3 ?_; intro _ _) | (refine S4 ?_; intro _ _ _) | (refine HO_g 2 rfl ?_; first | apply HO_a1 rfl | apply HO_o1 rfl) | refine S5 ?_ | (intro hb; try replace hb := simB hb; try exact kill hb))
 refine HO_k 19 rfl ?_
 refine HO_ustr (l := l) (E := 0) 0 ?hp ?hc rfl rfl rfl rfl rfl hne (by omega) rfl rfl soA ?_
 case hp => kernel_rfl
 case hc => kernel_rfl
 dsimp only [List.eraseIdx]
 repeat' (first | refine SW ?_ | exact HO_seg rfl rfl | refine S1 ?_ | (refine S2 ?_; intro _) | (refine S3 ?_; intro _ _) | (refine S4 ?_; intro _ _ _) | (refine HO_g 2 rfl ?_; first | apply HO_a1 rfl | apply HO_o1 rfl) | refine S5 ?_ | (intro hb; try replace hb := simB hb; try exact kill hb))
 (refine SR ?_; unfold RetQ; refine ⟨(), trivial, ?_, Keeps.nil⟩)
 rfl
end Go.Proofs.YtbhiojedmkcfoaaGreatDoor
