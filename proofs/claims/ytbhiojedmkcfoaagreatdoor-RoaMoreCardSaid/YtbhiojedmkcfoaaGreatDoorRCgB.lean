/- Part of a proof of many texts: what the theorem at its end leans on. -/
import Derived.Test.YtbhiojedmkcfoaaGreatDoorShf
import Derived.Test.YtbhiojedmkcfoaaGreatDoorRKc
import Derived.Test.YtbhiojedmkcfoaaGreatDoorRTypes
import Derived.Test.YtbhiojedmkcfoaaGreatDoorRAd0
import Derived.Test.YtbhiojedmkcfoaaGreatDoorRCfF
import Derived.Test.YtbhiojedmkcfoaaGreatDoorRAdV
import Derived.Test.YtbhiojedmkcfoaaGreatDoorRCfH
namespace Go.Proofs.YtbhiojedmkcfoaaGreatDoor
set_option linter.unusedVariables false
set_option linter.unusedSimpArgs false
open Go.RowKit
attribute [local irreducible] HC HX HO Tri eP adr
@[reducible] def TBu : Nat := 104
theorem Tri_setc {P : Program} {f b T i : Nat} {args : List Value} {cs cs' : List Value} {v u : Value} (hi : i < cs.length) (hset : cs.set i u = cs') (h : ∀ w, w.cell? ⟨b, i, none⟩ = cs[i]? → w.shape? b = some (T, cs.length) → w.frozen? ⟨b, i, none⟩ = false → Calls P f args.toArray w fun e w' => e = .returned v ∧ w' = w.setCell ⟨b, i, none⟩ u) :
  Tri P f args [] [cel b T cs] (fun _ : Unit => True) (fun _ => v) (fun _ => [cel b T cs']) := by
 unfold Tri
 intro w S hf
 obtain ⟨A, hA, hAS, hAl, _, _, hstep⟩ := Fits.step (cs := [cel b T cs]) (rest := []) hf
 obtain ⟨B1, B2, hB1, hB2, _, hp, _⟩ := hA
 have hb := hp.2
 refine (h w (cel_cell hp i) (by simp [World.shape?, hb]) (cel_free hp i)).mono fun e w' ⟨he, hw⟩ => ?_
 subst hw
 have hsz : (w.setCell ⟨b, i, none⟩ u).heap.size = w.heap.size := by simp [World.setCell]
 obtain ⟨T', hT'⟩ := hstep (w.setCell ⟨b, i, none⟩ u) (fun k => k = b) [cel b T cs'] ⟨rfl, rfl, rfl, by rw [hsz]; exact Nat.le_refl _, fun k _ hn => Below.heap_setCell _ _ _ _ (fun e => hn (by subst e; exact hB1 _ hp.1))⟩
  (fun k hk => by subst hk; rw [hsz]; exact hAl _ (hB1 _ hp.1)) (fun k hk => by subst hk; exact .inl (hB1 _ hp.1))
  ⟨fun k => k = b, fun _ => False, fun _ h => h, fun _ h => h.elim, fun _ _ h => h, ⟨rfl, by
   rw [← hset]
   simp [World.setCell, Array.getElem?_modify, hb]⟩, trivial⟩
 exact ⟨(), T', trivial, he, hT'⟩
theorem cpyF_t (b : Nat) (v : Value) : Tri Tryz.prog 129 [pt b] [] [cel b TBu [.pointer none, v]] (fun _ : Unit => True) (fun _ => .tuple #[]) (fun _ => [cel b TBu [pt b, v]]) :=
 Tri_setc (i := 0) (Nat.zero_lt_succ _) rfl fun w h1 h2 h3 => Any.Builder_copyCheck_fresh { Tryz.lays156 with } Tryz.Builder_Extra_156.toX72 b w h1 h2 h3
theorem cpyU_t (b : Nat) (v : Value) : Tri Tryz.prog 129 [pt b] [] [cel b TBu [pt b, v]] (fun _ : Unit => True) (fun _ => .tuple #[]) (fun _ => [cel b TBu [pt b, v]]) := by
 unfold Tri
 intro w S hf
 obtain ⟨A, hA, _⟩ := Fits.step (cs := [cel b TBu [pt b, v]]) (rest := []) hf
 obtain ⟨B1, B2, hB1, hB2, _, hp, _⟩ := hA
 refine (Any.Builder_copyCheck_used (P := Tryz.prog) (ρ := Tryz.lays156_ren) { Tryz.lays156 with } Tryz.Builder_Extra_156.toX72 b w (cel_cell hp 0)).mono fun e w' ⟨he, hw⟩ => ?_
 subst hw
 exact ⟨(), S, trivial, he, hf⟩
@[reducible] def bldE (b : Nat) (u : Bool) (x : OA) (l : List UInt8) : List Value := [.pointer (if u = true then some ⟨b, 0, none⟩ else none), .slice x.1 l.length x.2]
@[reducible] def bldP (b : Nat) (u : Bool) (x : OA) (l : List UInt8) : List SL := [cel b TBu (bldE b u x l), own idE 5 1 x.1 l.length x.2 (l.map byV)]
theorem cpy_t (b : Nat) (u : Bool) (v : Value) : Tri Tryz.prog 129 [pt b] [] [cel b TBu [.pointer (if u = true then some ⟨b, 0, none⟩ else none), v]] (fun _ : Unit => True) (fun _ => .tuple #[]) (fun _ => [cel b TBu [pt b, v]]) := by
 cases u
 ·exact cpyF_t b v
 ·exact cpyU_t b v
set_option maxHeartbeats 1000000000 in
theorem wstr_t (b : Nat) (u : Bool) (x : OA) (l s : List UInt8) (hl : l.length + s.length ≤ 1000000) : Tri Tryz.prog 53 [pt b, .string ⟨s.toArray⟩] [] (bldP b u x l) (fun _ : OA => True) (fun _ => .tuple #[.int .i64 s.length, .nilIface]) (fun x' => bldP b true x' (l ++ s)) := by
 have hc := fun v => cpy_t b u v
 refine Tri_of (N := Tryz.f53.ntmps) (c := bodyOf Tryz.f53) Tryz.func53 rfl rfl rfl rfl (fun w0 S0 => ?_)
 repeat' (first | refine SW ?_ | refine SD ?_ | (refine HO_k 8 rfl ?_; refine HO_slen rfl rfl rfl rfl rdA ?_) | (refine HO_k 12 rfl ?_; refine HO_call rfl rfl rfl rfl (hc _) rfl (trivial) rfl rfl soA ?_; intro g h; dsimp only [lca, lna]) | (refine HO_k 11 rfl ?_; refine HO_appS 0 rfl rfl rfl rfl rfl (by omega) rfl rfl soA ?_; intro _ _; dsimp only [List.eraseIdx]) | (refine HO_k 11 rfl ?_; refine HO_appS 1 rfl rfl rfl rfl rfl (by omega) rfl rfl soA ?_; intro _ _; dsimp only [List.eraseIdx]) | exact HO_seg rfl rfl | refine S1 ?_ | (refine S2 ?_; intro _) | (refine S3 ?_; intro _ _) | (refine S4 ?_; intro _ _ _) | (refine HO_g 2 rfl ?_; first | apply HO_a1 rfl | apply HO_o1 rfl) | refine S5 ?_ | (intro hb; try replace hb := simB hb; try exact kill hb))
 rename_i A' c'
 have hE : l.length + s.length = (l ++ s).length := by simp
 rw [hE]
 refine HX_keeps (rw' := bldP b true (A', c') (l ++ s)) permA ?_
 (refine SRt ?_; unfold RetQ; refine ⟨(A', c'), trivial, rfl, Keeps.refl⟩)
theorem Tri_ownA {P : Program} {f T sz n c : Nat} {A : Option Addr} {xs : List (List Value)} {args : List Value} {ro rw : List SL} {α : Type} {φ : α → Prop} {val : α → Value} {es : α → List SL} (k : Nat) (hk : rw[k]? = some (own idE T sz A n c xs)) (hne : n ≠ 0)
  (h : ∀ g, A = some ⟨g, 0, none⟩ → n ≤ c → Tri P f args ro rw φ val es) : Tri P f args ro rw φ val es := by
 unfold Tri
 intro w S hf
 obtain ⟨F, _, hp⟩ := hf.see (List.mem_append.2 (.inr (List.mem_of_getElem? hk)))
 rcases hp.2.1.2 with ⟨hv, hn⟩ | ⟨g, cap, cur, hv, _, hh, hnc, _⟩
 ·exact absurd hn hne
 ·injection hv with hv1 _ hv2
  subst hv2
  have := h g hv1 hnc
  unfold Tri at this
  exact this w S hf
set_option maxHeartbeats 1000000000 in
theorem bstr_t (b : Nat) (u : Bool) (x : OA) (l : List UInt8) (hne : l ≠ []) (hl : l.length ≤ 1000000) : Tri Tryz.prog 59 [pt b] [] (bldP b u x l) (fun _ : Unit => True) (fun _ => .string ⟨l.toArray⟩) (fun _ => []) := by
 obtain ⟨A, c⟩ := x
 have hlp : 0 < l.length := List.length_pos_iff.2 hne
 refine Tri_ownA 1 rfl (by omega) fun g hA hc => ?_
 dsimp only at hA hc
 subst hA
 refine Tri_of (N := Tryz.f59.ntmps) (c := bodyOf Tryz.f59) Tryz.func59 rfl rfl rfl rfl (fun w0 S0 => ?_)
 repeat' (first | refine SW ?_ | (refine HC_lex rfl rfl (by decide +kernel) rfl rfl ?_) | refine SD ?_ | (refine HO_k 8 rfl ?_; refine HO_slen rfl rfl rfl rfl rdA ?_) | (refine HO_k 19 rfl ?_; refine HO_sdata rfl rfl (by omega) rfl rfl rdA ?_) | exact HO_seg rfl rfl | refine S1 ?_ | (refine S2 ?_; intro _) | (refine S3 ?_; intro _ _) | (refine S4 ?_; intro _ _ _) | (refine HO_g 2 rfl ?_; first | apply HO_a1 rfl | apply HO_o1 rfl) | refine S5 ?_ | (intro hb; try replace hb := simB hb; try exact kill hb))
 refine HO_k 19 rfl ?_
 refine HO_ustr (l := l) (E := 0) 0 ?hp ?hc rfl rfl rfl rfl rfl hne (by omega) rfl rfl soA ?_
 case hp => kernel_rfl
 case hc => kernel_rfl
 dsimp only [List.eraseIdx]
 repeat' (first | refine SW ?_ | exact HO_seg rfl rfl | refine S1 ?_ | (refine S2 ?_; intro _) | (refine S3 ?_; intro _ _) | (refine S4 ?_; intro _ _ _) | (refine HO_g 2 rfl ?_; first | apply HO_a1 rfl | apply HO_o1 rfl) | refine S5 ?_ | (intro hb; try replace hb := simB hb; try exact kill hb))
 (refine SRt ?_; unfold RetQ; refine ⟨(), trivial, ?_, Keeps.nil⟩)
 rfl
theorem splC_t (m : Int) (c : UInt8) (l : List UInt8) (hl : l.length < 4294967281) : Tri Tryz.prog 61 [.string ⟨l.toArray⟩, .string ⟨#[c]⟩] [maxLen0 m] [] (fun _ : Nat => True)
  (fun b => .slice (some ⟨b, 0, none⟩) (splB c l).length (splB c l).length) (fun b => [arr strE 1 (some ⟨b, 0, none⟩) (splB c l)]) := by
 refine Tri_texts (T := 9) fun w hro => ?_
 have := Tryz.strings_Split ⟨l.toArray⟩ ⟨#[c]⟩ m w (by show l.toArray.size < _; simpa using hl) (glbs_cell hro (List.mem_singleton.2 rfl)) (by show 1 ≤ 1; decide)
 have h1 := Lib.splitB_all ⟨#[c]⟩ (by show 1 ≤ 1; decide) 0 _ (⟨l.toArray⟩ : ByteArray) rfl
 rw [splitB_eq, List.length_map] at h1
 rw [splitB_eq, ← h1, List.map_map] at this
 exact this
def cutN (l : List UInt8) : List UInt8 := if l.getLast? = some 10 then l.dropLast else l
def endN (l : List UInt8) : Bool := decide (l.getLast? = some 10)
theorem suf_end (l : List UInt8) : Lib.hasSuffix l [10] = endN l := by
 unfold Lib.hasSuffix endN
 rw [Bool.eq_iff_iff, List.isSuffixOf_iff_suffix, decide_eq_true_eq]
 constructor
 ·rintro ⟨t, rfl⟩
  simp
 ·intro h
  have hne : l ≠ [] := by intro e; subst e; cases h
  refine ⟨l.dropLast, ?_⟩
  have := List.dropLast_concat_getLast hne
  rw [List.getLast?_eq_some_getLast hne] at h
  injection h with h
  rw [h] at this
  exact this
theorem cutsuf_t (l : List UInt8) (hl : l.length ≤ 1000000) : Tri Tryz.prog 60 [.string ⟨l.toArray⟩, .string ⟨#[10]⟩] [] [] (fun _ : Unit => True) (fun _ => .tuple #[.string ⟨(cutN l).toArray⟩, .bool (endN l)]) (fun _ => []) := by
 refine Tri_below fun w _ => ?_
 have := Tryz.strings_CutSuffix ⟨l.toArray⟩ ⟨#[10]⟩ w (by show l.toArray.size ≤ _; simp; omega)
 rw [ba_data, show (ByteArray.mk #[(10 : UInt8)]).data.toList = [10] from rfl, suf_end] at this
 refine this.mono fun e w' ⟨h1, h2⟩ => ⟨?_, by rw [h2]; exact Below.refl _ _⟩
 rw [h1]
 have e1 : Lib.trimSuffix l [10] = cutN l := by
  unfold Lib.trimSuffix cutN
  rw [suf_end]
  unfold endN
  by_cases h : l.getLast? = some 10
  ·rw [if_pos (decide_eq_true h), if_pos h, List.dropLast_eq_take]; rfl
  ·rw [if_neg (by simpa using h), if_neg h]
 rw [e1]
theorem cutN_len (l : List UInt8) : (cutN l).length ≤ l.length := by
 unfold cutN
 split
 ·rw [List.length_dropLast]; omega
 ·exact Nat.le_refl _
theorem itoaD_t (z : Int) (h0 : 0 ≤ z) (h1 : z < 10000000000000000) : Tri Tryz.prog 56 [.int .i64 z] [tab1] [] (fun _ : Unit => True) (fun _ => .string ⟨(decD z.toNat).toArray⟩) (fun _ => []) := by
 refine Tri_below fun w hro => ?_
 have := Tryz.strconv_Itoa z (by omega) (by omega) w (glbs_var g1 hro (List.mem_singleton.2 rfl))
 rw [show Lib.itoa z = decD z.toNat by unfold Lib.itoa; rw [if_neg (by omega)]] at this
 exact this.mono fun e w' ⟨h1, k, os, h2⟩ => ⟨h1, by rw [h2]; exact below_grow _ _ _⟩
end Go.Proofs.YtbhiojedmkcfoaaGreatDoor
