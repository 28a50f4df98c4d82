/- num's reader: what each method computes. -/
import Derived.Test.YtdeeokkkcfkbjaaGreatAttA
namespace Go.Proofs.YtdeeokkkcfkbjaaGreat
set_option linter.unusedVariables false
set_option linter.unusedSimpArgs false
open Go.RowKit
attribute [local irreducible] HC HX HO Tri eP adr

@[reducible] def TR : Nat := 116
/-- a reader: its cells, and the bytes that are left -/
@[reducible] def rdP (b : Nat) (A : Option Addr) (c : Nat) (bad : Bool) (l : List UInt8) : List SL := [cel b TR [.slice A l.length c, .bool bad], arr bE 1 A l]
@[reducible] def pt (b : Nat) : Value := .pointer (some ⟨b, 0, none⟩)
theorem own_byte {x : OA} {l : List UInt8} : Ent (ownB x l) (arr bE 1 x.1 l) := fun S w h => arr_typed l S w (own_wf (WfL.map (enc := bE)) S w h)
/-- num.From -/
theorem nfrom_t (A : Option Addr) (n c : Nat) (l : List UInt8) (hn : n = l.length) (hb : l.length ≤ 1000000000) :
    Tri Tryz.prog 33 [.slice A n c] [arr bE 1 A l] [] (fun x : Nat × OA => l.length ≤ x.2.2) (fun x => pt x.1) (fun x => rdP x.1 x.2.1 x.2.2 false l) := by
  refine Tri_of (N := Tryz.f33.ntmps) (c := bodyOf Tryz.f33) Tryz.func33 rfl rfl rfl rfl (fun w0 S0 => ?_)
  repeat' (first | refine SW ?_ | refine SD ?_ | (refine HO_k 12 rfl ?_; refine HO_call rfl rfl rfl rfl (nclone_t A n c l hn hb) rfl (AllSrc.at_ 0 rfl trivial) rfl rfl soA ?_; intro ⟨xA, xc⟩ hx; dsimp only [List.cons_append, List.nil_append]) | exact HO_seg rfl rfl | refine S1 ?_ | (refine S2 ?_; intro _) | (refine S3 ?_; intro _ _) | (refine S4 ?_; intro _ _ _) | (refine HO_g 2 rfl ?_; (first | apply HO_and rfl rfl rfl rfl rfl rfl rfl rfl rfl | apply HO_or rfl rfl rfl rfl rfl rfl rfl rfl rfl)) | refine S5 ?_ | (intro hb; try replace hb := simB hb; try exact kill hb))
  rename_i b
  ((first | apply HX_ret | apply HX_retn); (repeat (first | exact Res_nil | apply Res_tmp rfl | apply Res_ce rfl rfl rfl)); unfold RetQ; refine ⟨(b, (xA, xc)), hx, rfl, Keeps.cons Ent.rfl_ (Keeps.cons (own_byte) Keeps.nil)⟩)
/-- what Reader.Bytes gives, whether the reader is bad then, what is left -/
def rdB (bad : Bool) (l : List UInt8) (n : Int) : List UInt8 × Bool × List UInt8 := if bad = true ∨ n < 0 ∨ l.length < n then ([], true, l) else (l.take n.toNat, bad, l.drop n.toNat)
theorem nbytes_t (b : Nat) (A : Option Addr) (c : Nat) (bad : Bool) (l : List UInt8) (n : Int) (hb : l.length ≤ 1000000000) (hc : l.length ≤ c) :
    Tri Tryz.prog 48 [pt b, .int .i64 n] [] (rdP b A c bad l) (fun x : OA × OA => (rdB bad l n).1.length ≤ x.1.2 ∧ (rdB bad l n).2.2.length ≤ x.2.2) (fun x => .slice x.1.1 (rdB bad l n).1.length x.1.2)
      (fun x => ownB x.1 (rdB bad l n).1 :: rdP b x.2.1 x.2.2 (rdB bad l n).2.1 (rdB bad l n).2.2) := by
  by_cases h : bad = true ∨ n < 0 ∨ l.length < n
  · rw [show rdB bad l n = ([], true, l) from if_pos h]
    rcases h with rfl | h | h
    all_goals
      refine Tri_of (N := Tryz.f48.ntmps) (c := bodyOf Tryz.f48) Tryz.func48 rfl rfl rfl rfl (fun w0 S0 => ?_)
      dsimp only [rdP, pt]
      repeat' (first | refine SW ?_ | refine SD ?_ | exact HO_seg rfl rfl | refine S1 ?_ | (refine S2 ?_; intro _) | (refine S3 ?_; intro _ _) | (refine S4 ?_; intro _ _ _) | (refine HO_g 2 rfl ?_; (first | apply HO_and rfl rfl rfl rfl rfl rfl rfl rfl rfl | apply HO_or rfl rfl rfl rfl rfl rfl rfl rfl rfl)) | refine S5 ?_ | (intro hb; try replace hb := simB hb; try exact kill hb) | refine HC_cond rfl rfl ?_ ?_)
    all_goals try exact false
    all_goals ((first | apply HX_ret | apply HX_retn); (repeat (first | exact Res_nil | apply Res_tmp rfl | apply Res_ce rfl rfl rfl)); unfold RetQ; refine ⟨((none, 0), (A, c)), ⟨Nat.le_refl _, hc⟩, rfl, Keeps.add (fun w => own_nil w) Keeps.refl⟩)
  · rw [show rdB bad l n = (l.take n.toNat, bad, l.drop n.toNat) from if_neg h]
    have hbad : bad = false := by cases bad <;> simp_all
    subst hbad
    have hn : 0 ≤ n ∧ n ≤ l.length := by simp at h; omega
    have hcl := nclone_t A n.toNat c (l.take n.toNat) (by simp; omega) (by simp; omega)
    refine Tri_of (N := Tryz.f48.ntmps) (c := bodyOf Tryz.f48) Tryz.func48 rfl rfl rfl rfl (fun w0 S0 => ?_)
    dsimp only [rdP, pt]
    repeat' (first | refine SW ?_ | refine SD ?_ | (refine HO_k 12 rfl ?_; refine HO_call rfl rfl rfl rfl (hcl) rfl (by first | exact AllSrc.via 0 rfl (arr_take _) trivial | exact AllSrc.via 1 rfl (arr_take _) trivial) rfl rfl soA ?_; intro ⟨xA, xc⟩ hx; dsimp only [List.cons_append, List.nil_append]) | exact HO_seg rfl rfl | refine S1 ?_ | (refine S2 ?_; intro _) | (refine S3 ?_; intro _ _) | (refine S4 ?_; intro _ _ _) | (refine HO_g 2 rfl ?_; (first | apply HO_and rfl rfl rfl rfl rfl rfl rfl rfl rfl | apply HO_or rfl rfl rfl rfl rfl rfl rfl rfl rfl)) | refine S5 ?_ | (intro hb; try replace hb := simB hb; try exact kill hb))
    have e : (l.drop n.toNat).length = l.length - n.toNat := by simp
    ((first | apply HX_ret | apply HX_retn); (repeat (first | exact Res_nil | apply Res_tmp rfl | apply Res_ce rfl rfl rfl)); unfold RetQ; refine ⟨((xA, xc), (cutA A 1 c n.toNat, c - n.toNat)), ⟨hx, by rw [e]; simp only; omega⟩, rfl, Keeps.cons Ent.rfl_ (Keeps.cons (by rw [e]; exact Ent.rfl_) (Keeps.cons (arr_drop _ _ (fun h => by omega)) Keeps.nil))⟩)

/-- Reader.Num: with a wide that may be -/
theorem nnum_t (b : Nat) (A : Option Addr) (c : Nat) (bad : Bool) (l : List UInt8) (w : Int) (hw : 1 ≤ w ∧ w ≤ 4) (hb : l.length ≤ 1000000000) (hc : l.length ≤ c) :
    Tri Tryz.prog 49 [pt b, .int .i64 w] [] (rdP b A c bad l) (fun x : OA => (rdB bad l w).2.2.length ≤ x.2) (fun _ => .int .i64 (ngetR (rdB bad l w).1).1)
      (fun x => rdP b x.1 x.2 (rdB bad l w).2.1 (rdB bad l w).2.2) := by
  have hby := nbytes_t b A c bad l w hb hc
  obtain ⟨out, bad', l', hr⟩ : ∃ out bad' l', rdB bad l w = (out, bad', l') := ⟨_, _, _, rfl⟩
  rw [hr] at hby ⊢
  refine Tri_of (N := Tryz.f49.ntmps) (c := bodyOf Tryz.f49) Tryz.func49 rfl rfl rfl rfl (fun w0 S0 => ?_)
  dsimp only [rdP, pt]
  repeat' (first | refine SW ?_ | refine SD ?_ | (refine HO_k 12 rfl ?_; refine HO_callq rfl rfl rfl rfl (nget_t _ _ _ out rfl) (fun _ _ => rfl) (AllSrc.via 0 rfl own_byte trivial) rfl rfl sqA ?_) | (refine HO_k 12 rfl ?_; refine HO_call rfl rfl rfl rfl (hby) rfl (trivial) rfl rfl soA ?_; intro ⟨⟨xA, xc⟩, ⟨yA, yc⟩⟩ hx; dsimp only [List.cons_append, List.nil_append]) | exact HO_seg rfl rfl | refine S1 ?_ | (refine S2 ?_; intro _) | (refine S3 ?_; intro _ _) | (refine S4 ?_; intro _ _ _) | (refine HO_g 2 rfl ?_; (first | apply HO_and rfl rfl rfl rfl rfl rfl rfl rfl rfl | apply HO_or rfl rfl rfl rfl rfl rfl rfl rfl rfl)) | refine S5 ?_ | (intro hb; try replace hb := simB hb; try exact kill hb))
  ((first | apply HX_ret | apply HX_retn); (repeat (first | exact Res_nil | apply Res_tmp rfl | apply Res_ce rfl rfl rfl)); unfold RetQ; refine ⟨(yA, yc), hx.2, rfl, Keeps.skip Keeps.refl⟩)
theorem nbad_t (b : Nat) (A : Option Addr) (n c : Nat) (bad : Bool) :
    Tri Tryz.prog 50 [pt b] [cel b TR [.slice A n c, .bool bad]] [] (fun _ : Unit => True) (fun _ => .bool bad) (fun _ => []) := by
  refine Tri_of (N := Tryz.f50.ntmps) (c := bodyOf Tryz.f50) Tryz.func50 rfl rfl rfl rfl (fun w0 S0 => ?_)
  dsimp only [pt]
  repeat' (first | refine SW ?_ | refine SD ?_ | exact HO_seg rfl rfl | refine S1 ?_ | (refine S2 ?_; intro _) | (refine S3 ?_; intro _ _) | (refine S4 ?_; intro _ _ _) | (refine HO_g 2 rfl ?_; (first | apply HO_and rfl rfl rfl rfl rfl rfl rfl rfl rfl | apply HO_or rfl rfl rfl rfl rfl rfl rfl rfl rfl)) | refine S5 ?_ | (intro hb; try replace hb := simB hb; try exact kill hb))
  ((first | apply HX_ret | apply HX_retn); (repeat (first | exact Res_nil | apply Res_tmp rfl | apply Res_ce rfl rfl rfl)); unfold RetQ; refine ⟨(), trivial, ?_, Keeps.nil⟩)
  rfl
theorem nleft_t (b : Nat) (A : Option Addr) (n c : Nat) (bad : Bool) :
    Tri Tryz.prog 34 [pt b] [cel b TR [.slice A n c, .bool bad]] [] (fun _ : Unit => True) (fun _ => .int .i64 (if bad = true then 0 else n)) (fun _ => []) := by
  cases bad
  all_goals
    refine Tri_of (N := Tryz.f34.ntmps) (c := bodyOf Tryz.f34) Tryz.func34 rfl rfl rfl rfl (fun w0 S0 => ?_)
    dsimp only [pt]
    repeat' (first | refine SW ?_ | refine SD ?_ | (refine HO_k 12 rfl ?_; refine HO_callq rfl rfl rfl rfl (nbad_t _ _ _ _ _) (fun _ _ => rfl) (AllSrc.at_ 0 rfl trivial) rfl rfl sqA ?_) | exact HO_seg rfl rfl | refine S1 ?_ | (refine S2 ?_; intro _) | (refine S3 ?_; intro _ _) | (refine S4 ?_; intro _ _ _) | (refine HO_g 2 rfl ?_; (first | apply HO_and rfl rfl rfl rfl rfl rfl rfl rfl rfl | apply HO_or rfl rfl rfl rfl rfl rfl rfl rfl rfl)) | refine S5 ?_ | (intro hb; try replace hb := simB hb; try exact kill hb))
    ((first | apply HX_ret | apply HX_retn); (repeat (first | exact Res_nil | apply Res_tmp rfl | apply Res_ce rfl rfl rfl)); unfold RetQ; refine ⟨(), trivial, ?_, Keeps.nil⟩)
    rfl
end Go.Proofs.YtdeeokkkcfkbjaaGreat
