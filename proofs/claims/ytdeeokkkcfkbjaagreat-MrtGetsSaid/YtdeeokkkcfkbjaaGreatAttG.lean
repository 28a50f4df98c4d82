/- attr's writer: add, path. -/
import Derived.Test.YtdeeokkkcfkbjaaGreatAttP
import Derived.Test.YtdeeokkkcfkbjaaGreatEng13
namespace Go.Proofs.YtdeeokkkcfkbjaaGreat
set_option linter.unusedVariables false
set_option linter.unusedSimpArgs false
open Go.RowKit
attribute [local irreducible] HC HX HO Tri eP adr

@[reducible] def TW : Nat := 151
theorem HO_u8n {m : Md} {P : Program} {N : Nat} {w0 : World} {S0 : Foot} {ops : List Oper} {d : Nat} {env : Env} {ro rw : List SL} {K : Act → World → Prop} {l : List Nat} {k : Nat}
    (h : HO m P N w0 S0 ops l ((d, .int .u8 ((UInt8.ofNat k).toNat : Int)) :: env) ro rw K) : HO m P N w0 S0 ops l ((d, .int .u8 (IntKind.u8.wrap (k : Int))) :: env) ro rw K :=
  HO_rw (by rw [u8_wrap _ (Int.natCast_nonneg _), Int.toNat_natCast]) h
theorem nb_one (w n : Nat) : nb w [(n : Int)] = be w n := by simp [nb]
theorem fits_len {w n : Nat} (h : n < 256 ^ w) : ∀ x ∈ [(n : Int)], fitsB w x = true := fun x hx => by
  simp at hx
  subst hx
  simp only [fitsB, Bool.and_eq_true, decide_eq_true_eq]
  omega

set_option maxHeartbeats 4000000 in
theorem add_t (b : Nat) (A : Option Addr) (c : Nat) (l : List UInt8) (f k : Nat) (hf : bOr .i64 (f : Int) 16 = ((f + 16 : Nat) : Int)) (dA : Option Addr) (dc : Nat) (d : List UInt8) (hd : d.length ≤ 65535) (hl : l.length ≤ 500000) :
    Tri Tryz.prog 98 [pt b, .int .i64 f, .int .i64 k, .slice dA d.length dc] [arr bE 1 dA d] [cel b TW [.slice A l.length c], ownB (A, c) l] (fun _ : OA => True) (fun _ => .tuple #[])
      (fun x => [cel b TW [.slice x.1 (l ++ attB f k d).length x.2], ownB x (l ++ attB f k d)]) := by
  by_cases hlen : 255 < d.length
  · have e : ∀ b1 xA xc, cat [⟨A, c, l⟩, ⟨some ⟨b1, 0, none⟩, 2, [UInt8.ofNat (f + 16), UInt8.ofNat k]⟩, ⟨xA, xc, nb 2 [(d.length : Int)]⟩, ⟨dA, dc, d⟩] = l ++ attB f k d := fun b1 xA xc => by
      unfold attB
      rw [if_pos hlen, nb_one]
      simp [cat]
    have hbe := be_length 2 d.length
    have hcl : ∀ b1 xA xc, (cat [⟨A, c, l⟩, ⟨some ⟨b1, 0, none⟩, 2, [UInt8.ofNat (f + 16), UInt8.ofNat k]⟩, ⟨xA, xc, nb 2 [(d.length : Int)]⟩, ⟨dA, dc, d⟩]).length ≤ 1000000 := fun b1 xA xc => by
      rw [nb_one]; simp [cat]; omega
    refine Tri_of (N := Tryz.f98.ntmps) (c := bodyOf Tryz.f98) Tryz.func98 rfl rfl rfl rfl (fun w0 S0 => ?_)
    dsimp only [pt, ownB]
    repeat' (first | refine SW ?_ | refine SD ?_ | (with_reducible refine HO_rw (congrArg (Value.int .i64) hf) ?_) | (with_reducible refine HO_u8n ?_) | exact HO_seg rfl rfl | refine S1 ?_ | (refine S2 ?_; intro _) | (refine S3 ?_; intro _ _) | (refine S4 ?_; intro _ _ _) | (refine HO_g 2 rfl ?_; (first | apply HO_and rfl rfl rfl rfl rfl rfl rfl rfl rfl | apply HO_or rfl rfl rfl rfl rfl rfl rfl rfl rfl)) | refine S5 ?_ | (intro hb; try replace hb := simB hb; try exact kill hb))
    refine HO_two (i := 9) (j := 13) (l1 := [13, 14, 16, 17, 18, 19, 20]) (l2 := [9, 14, 16, 17, 18, 19, 20]) (by decide +kernel) rfl ⟨by decide +kernel, rfl, rfl⟩ ⟨by decide +kernel, rfl, rfl⟩ ?_ ?_
    · repeat' (first | refine SW ?_ | refine SD ?_ | (refine HO_k 12 rfl ?_; refine HO_call rfl rfl rfl rfl (bytes_t 2 (by decide) (by decide) _ 1 _ [(d.length : Int)] rfl (by simp) (fits_len (by omega))) rfl (srcsA) rfl rfl soA ?_; intro ⟨xA, xc⟩ hx; dsimp only [List.cons_append, List.nil_append]) | exact HO_seg rfl rfl | refine S1 ?_ | (refine S2 ?_; intro _) | (refine S3 ?_; intro _ _) | (refine S4 ?_; intro _ _ _) | (refine HO_g 2 rfl ?_; (first | apply HO_and rfl rfl rfl rfl rfl rfl rfl rfl rfl | apply HO_or rfl rfl rfl rfl rfl rfl rfl rfl rfl)) | refine S5 ?_ | (intro hb; try replace hb := simB hb; try exact kill hb))
      rename_i b1 b2 b3
      (refine HO_k 12 rfl ?_; refine HO_call rfl rfl rfl rfl (concat_t (some ⟨b3, 0, none⟩) 4 4 [⟨A, c, l⟩, ⟨some ⟨b1, 0, none⟩, 2, [UInt8.ofNat (f + 16), UInt8.ofNat k]⟩, ⟨xA, xc, nb 2 [(d.length : Int)]⟩, ⟨dA, dc, d⟩] rfl (by simp) (hcl _ _ _)) rfl (srcsA) rfl rfl soA ?_; intro ⟨yA, yc⟩ hy; dsimp only [List.cons_append, List.nil_append])
      repeat' (first | refine SW ?_ | exact HO_seg rfl rfl | refine S1 ?_ | (refine S2 ?_; intro _) | (refine S3 ?_; intro _ _) | (refine S4 ?_; intro _ _ _) | (refine HO_g 2 rfl ?_; (first | apply HO_and rfl rfl rfl rfl rfl rfl rfl rfl rfl | apply HO_or rfl rfl rfl rfl rfl rfl rfl rfl rfl)) | refine S5 ?_ | (intro hb; try replace hb := simB hb; try exact kill hb))
      rw [e]
      ((first | apply HX_ret | apply HX_retn); (repeat (first | exact Res_nil | apply Res_tmp rfl | apply Res_ce rfl rfl rfl)); unfold RetQ; refine ⟨(yA, yc), trivial, rfl, Keeps.cons Ent.rfl_ (Keeps.cons Ent.rfl_ Keeps.nil)⟩)
    · repeat' (first | refine SW ?_ | exact HO_seg rfl rfl | refine S1 ?_ | (refine S2 ?_; intro _) | (refine S3 ?_; intro _ _) | (refine S4 ?_; intro _ _ _) | (refine HO_g 2 rfl ?_; (first | apply HO_and rfl rfl rfl rfl rfl rfl rfl rfl rfl | apply HO_or rfl rfl rfl rfl rfl rfl rfl rfl rfl)) | refine S5 ?_ | (intro hb; try replace hb := simB hb; try exact kill hb))
      refine HO_two (i := 9) (j := 14) (l1 := [14, 16, 17, 18, 19, 20]) (l2 := [9, 16, 17, 18, 19, 20]) (by decide +kernel) rfl ⟨by decide +kernel, rfl, rfl⟩ ⟨by decide +kernel, rfl, rfl⟩ ?_ ?_
      · repeat' (first | refine SW ?_ | refine SD ?_ | (refine HO_k 12 rfl ?_; refine HO_call rfl rfl rfl rfl (bytes_t 2 (by decide) (by decide) _ 1 _ [(d.length : Int)] rfl (by simp) (fits_len (by omega))) rfl (srcsA) rfl rfl soA ?_; intro ⟨xA, xc⟩ hx; dsimp only [List.cons_append, List.nil_append]) | exact HO_seg rfl rfl | refine S1 ?_ | (refine S2 ?_; intro _) | (refine S3 ?_; intro _ _) | (refine S4 ?_; intro _ _ _) | (refine HO_g 2 rfl ?_; (first | apply HO_and rfl rfl rfl rfl rfl rfl rfl rfl rfl | apply HO_or rfl rfl rfl rfl rfl rfl rfl rfl rfl)) | refine S5 ?_ | (intro hb; try replace hb := simB hb; try exact kill hb))
        rename_i b2 b1 b3
        (refine HO_k 12 rfl ?_; refine HO_call rfl rfl rfl rfl (concat_t (some ⟨b3, 0, none⟩) 4 4 [⟨A, c, l⟩, ⟨some ⟨b1, 0, none⟩, 2, [UInt8.ofNat (f + 16), UInt8.ofNat k]⟩, ⟨xA, xc, nb 2 [(d.length : Int)]⟩, ⟨dA, dc, d⟩] rfl (by simp) (hcl _ _ _)) rfl (srcsA) rfl rfl soA ?_; intro ⟨yA, yc⟩ hy; dsimp only [List.cons_append, List.nil_append])
        repeat' (first | refine SW ?_ | exact HO_seg rfl rfl | refine S1 ?_ | (refine S2 ?_; intro _) | (refine S3 ?_; intro _ _) | (refine S4 ?_; intro _ _ _) | (refine HO_g 2 rfl ?_; (first | apply HO_and rfl rfl rfl rfl rfl rfl rfl rfl rfl | apply HO_or rfl rfl rfl rfl rfl rfl rfl rfl rfl)) | refine S5 ?_ | (intro hb; try replace hb := simB hb; try exact kill hb))
        rw [e]
        ((first | apply HX_ret | apply HX_retn); (repeat (first | exact Res_nil | apply Res_tmp rfl | apply Res_ce rfl rfl rfl)); unfold RetQ; refine ⟨(yA, yc), trivial, rfl, Keeps.cons Ent.rfl_ (Keeps.cons Ent.rfl_ Keeps.nil)⟩)
      · repeat' (first | refine SW ?_ | refine SD ?_ | (refine HO_k 12 rfl ?_; refine HO_call rfl rfl rfl rfl (bytes_t 2 (by decide) (by decide) _ 1 _ [(d.length : Int)] rfl (by simp) (fits_len (by omega))) rfl (srcsA) rfl rfl soA ?_; intro ⟨xA, xc⟩ hx; dsimp only [List.cons_append, List.nil_append]) | exact HO_seg rfl rfl | refine S1 ?_ | (refine S2 ?_; intro _) | (refine S3 ?_; intro _ _) | (refine S4 ?_; intro _ _ _) | (refine HO_g 2 rfl ?_; (first | apply HO_and rfl rfl rfl rfl rfl rfl rfl rfl rfl | apply HO_or rfl rfl rfl rfl rfl rfl rfl rfl rfl)) | refine S5 ?_ | (intro hb; try replace hb := simB hb; try exact kill hb))
        rename_i b2 b1 b3
        (refine HO_k 12 rfl ?_; refine HO_call rfl rfl rfl rfl (concat_t (some ⟨b3, 0, none⟩) 4 4 [⟨A, c, l⟩, ⟨some ⟨b1, 0, none⟩, 2, [UInt8.ofNat (f + 16), UInt8.ofNat k]⟩, ⟨xA, xc, nb 2 [(d.length : Int)]⟩, ⟨dA, dc, d⟩] rfl (by simp) (hcl _ _ _)) rfl (srcsA) rfl rfl soA ?_; intro ⟨yA, yc⟩ hy; dsimp only [List.cons_append, List.nil_append])
        repeat' (first | refine SW ?_ | exact HO_seg rfl rfl | refine S1 ?_ | (refine S2 ?_; intro _) | (refine S3 ?_; intro _ _) | (refine S4 ?_; intro _ _ _) | (refine HO_g 2 rfl ?_; (first | apply HO_and rfl rfl rfl rfl rfl rfl rfl rfl rfl | apply HO_or rfl rfl rfl rfl rfl rfl rfl rfl rfl)) | refine S5 ?_ | (intro hb; try replace hb := simB hb; try exact kill hb))
        rw [e]
        ((first | apply HX_ret | apply HX_retn); (repeat (first | exact Res_nil | apply Res_tmp rfl | apply Res_ce rfl rfl rfl)); unfold RetQ; refine ⟨(yA, yc), trivial, rfl, Keeps.cons Ent.rfl_ (Keeps.cons Ent.rfl_ Keeps.nil)⟩)
  · have e : ∀ b1 xA xc, cat [⟨A, c, l⟩, ⟨some ⟨b1, 0, none⟩, 2, [UInt8.ofNat f, UInt8.ofNat k]⟩, ⟨xA, xc, nb 1 [(d.length : Int)]⟩, ⟨dA, dc, d⟩] = l ++ attB f k d := fun b1 xA xc => by
      unfold attB
      rw [if_neg hlen, nb_one]
      simp [cat]
    have hbe := be_length 1 d.length
    have hcl : ∀ b1 xA xc, (cat [⟨A, c, l⟩, ⟨some ⟨b1, 0, none⟩, 2, [UInt8.ofNat f, UInt8.ofNat k]⟩, ⟨xA, xc, nb 1 [(d.length : Int)]⟩, ⟨dA, dc, d⟩]).length ≤ 1000000 := fun b1 xA xc => by
      rw [nb_one]; simp [cat]; omega
    refine Tri_of (N := Tryz.f98.ntmps) (c := bodyOf Tryz.f98) Tryz.func98 rfl rfl rfl rfl (fun w0 S0 => ?_)
    dsimp only [pt, ownB]
    repeat' (first | refine SW ?_ | refine SD ?_ | (with_reducible refine HO_rw (congrArg (Value.int .i64) hf) ?_) | (with_reducible refine HO_u8n ?_) | exact HO_seg rfl rfl | refine S1 ?_ | (refine S2 ?_; intro _) | (refine S3 ?_; intro _ _) | (refine S4 ?_; intro _ _ _) | (refine HO_g 2 rfl ?_; (first | apply HO_and rfl rfl rfl rfl rfl rfl rfl rfl rfl | apply HO_or rfl rfl rfl rfl rfl rfl rfl rfl rfl)) | refine S5 ?_ | (intro hb; try replace hb := simB hb; try exact kill hb))
    refine HO_two (i := 9) (j := 13) (l1 := [13, 14, 16, 17, 18, 19, 20]) (l2 := [9, 14, 16, 17, 18, 19, 20]) (by decide +kernel) rfl ⟨by decide +kernel, rfl, rfl⟩ ⟨by decide +kernel, rfl, rfl⟩ ?_ ?_
    · repeat' (first | refine SW ?_ | refine SD ?_ | (refine HO_k 12 rfl ?_; refine HO_call rfl rfl rfl rfl (bytes_t 1 (by decide) (by decide) _ 1 _ [(d.length : Int)] rfl (by simp) (fits_len (by omega))) rfl (srcsA) rfl rfl soA ?_; intro ⟨xA, xc⟩ hx; dsimp only [List.cons_append, List.nil_append]) | exact HO_seg rfl rfl | refine S1 ?_ | (refine S2 ?_; intro _) | (refine S3 ?_; intro _ _) | (refine S4 ?_; intro _ _ _) | (refine HO_g 2 rfl ?_; (first | apply HO_and rfl rfl rfl rfl rfl rfl rfl rfl rfl | apply HO_or rfl rfl rfl rfl rfl rfl rfl rfl rfl)) | refine S5 ?_ | (intro hb; try replace hb := simB hb; try exact kill hb))
      rename_i b1 b2 b3
      (refine HO_k 12 rfl ?_; refine HO_call rfl rfl rfl rfl (concat_t (some ⟨b3, 0, none⟩) 4 4 [⟨A, c, l⟩, ⟨some ⟨b1, 0, none⟩, 2, [UInt8.ofNat f, UInt8.ofNat k]⟩, ⟨xA, xc, nb 1 [(d.length : Int)]⟩, ⟨dA, dc, d⟩] rfl (by simp) (hcl _ _ _)) rfl (srcsA) rfl rfl soA ?_; intro ⟨yA, yc⟩ hy; dsimp only [List.cons_append, List.nil_append])
      repeat' (first | refine SW ?_ | exact HO_seg rfl rfl | refine S1 ?_ | (refine S2 ?_; intro _) | (refine S3 ?_; intro _ _) | (refine S4 ?_; intro _ _ _) | (refine HO_g 2 rfl ?_; (first | apply HO_and rfl rfl rfl rfl rfl rfl rfl rfl rfl | apply HO_or rfl rfl rfl rfl rfl rfl rfl rfl rfl)) | refine S5 ?_ | (intro hb; try replace hb := simB hb; try exact kill hb))
      rw [e]
      ((first | apply HX_ret | apply HX_retn); (repeat (first | exact Res_nil | apply Res_tmp rfl | apply Res_ce rfl rfl rfl)); unfold RetQ; refine ⟨(yA, yc), trivial, rfl, Keeps.cons Ent.rfl_ (Keeps.cons Ent.rfl_ Keeps.nil)⟩)
    · repeat' (first | refine SW ?_ | exact HO_seg rfl rfl | refine S1 ?_ | (refine S2 ?_; intro _) | (refine S3 ?_; intro _ _) | (refine S4 ?_; intro _ _ _) | (refine HO_g 2 rfl ?_; (first | apply HO_and rfl rfl rfl rfl rfl rfl rfl rfl rfl | apply HO_or rfl rfl rfl rfl rfl rfl rfl rfl rfl)) | refine S5 ?_ | (intro hb; try replace hb := simB hb; try exact kill hb))
      refine HO_two (i := 9) (j := 14) (l1 := [14, 16, 17, 18, 19, 20]) (l2 := [9, 16, 17, 18, 19, 20]) (by decide +kernel) rfl ⟨by decide +kernel, rfl, rfl⟩ ⟨by decide +kernel, rfl, rfl⟩ ?_ ?_
      · repeat' (first | refine SW ?_ | refine SD ?_ | (refine HO_k 12 rfl ?_; refine HO_call rfl rfl rfl rfl (bytes_t 1 (by decide) (by decide) _ 1 _ [(d.length : Int)] rfl (by simp) (fits_len (by omega))) rfl (srcsA) rfl rfl soA ?_; intro ⟨xA, xc⟩ hx; dsimp only [List.cons_append, List.nil_append]) | exact HO_seg rfl rfl | refine S1 ?_ | (refine S2 ?_; intro _) | (refine S3 ?_; intro _ _) | (refine S4 ?_; intro _ _ _) | (refine HO_g 2 rfl ?_; (first | apply HO_and rfl rfl rfl rfl rfl rfl rfl rfl rfl | apply HO_or rfl rfl rfl rfl rfl rfl rfl rfl rfl)) | refine S5 ?_ | (intro hb; try replace hb := simB hb; try exact kill hb))
        rename_i b2 b1 b3
        (refine HO_k 12 rfl ?_; refine HO_call rfl rfl rfl rfl (concat_t (some ⟨b3, 0, none⟩) 4 4 [⟨A, c, l⟩, ⟨some ⟨b1, 0, none⟩, 2, [UInt8.ofNat f, UInt8.ofNat k]⟩, ⟨xA, xc, nb 1 [(d.length : Int)]⟩, ⟨dA, dc, d⟩] rfl (by simp) (hcl _ _ _)) rfl (srcsA) rfl rfl soA ?_; intro ⟨yA, yc⟩ hy; dsimp only [List.cons_append, List.nil_append])
        repeat' (first | refine SW ?_ | exact HO_seg rfl rfl | refine S1 ?_ | (refine S2 ?_; intro _) | (refine S3 ?_; intro _ _) | (refine S4 ?_; intro _ _ _) | (refine HO_g 2 rfl ?_; (first | apply HO_and rfl rfl rfl rfl rfl rfl rfl rfl rfl | apply HO_or rfl rfl rfl rfl rfl rfl rfl rfl rfl)) | refine S5 ?_ | (intro hb; try replace hb := simB hb; try exact kill hb))
        rw [e]
        ((first | apply HX_ret | apply HX_retn); (repeat (first | exact Res_nil | apply Res_tmp rfl | apply Res_ce rfl rfl rfl)); unfold RetQ; refine ⟨(yA, yc), trivial, rfl, Keeps.cons Ent.rfl_ (Keeps.cons Ent.rfl_ Keeps.nil)⟩)
      · repeat' (first | refine SW ?_ | refine SD ?_ | (refine HO_k 12 rfl ?_; refine HO_call rfl rfl rfl rfl (bytes_t 1 (by decide) (by decide) _ 1 _ [(d.length : Int)] rfl (by simp) (fits_len (by omega))) rfl (srcsA) rfl rfl soA ?_; intro ⟨xA, xc⟩ hx; dsimp only [List.cons_append, List.nil_append]) | exact HO_seg rfl rfl | refine S1 ?_ | (refine S2 ?_; intro _) | (refine S3 ?_; intro _ _) | (refine S4 ?_; intro _ _ _) | (refine HO_g 2 rfl ?_; (first | apply HO_and rfl rfl rfl rfl rfl rfl rfl rfl rfl | apply HO_or rfl rfl rfl rfl rfl rfl rfl rfl rfl)) | refine S5 ?_ | (intro hb; try replace hb := simB hb; try exact kill hb))
        rename_i b2 b1 b3
        (refine HO_k 12 rfl ?_; refine HO_call rfl rfl rfl rfl (concat_t (some ⟨b3, 0, none⟩) 4 4 [⟨A, c, l⟩, ⟨some ⟨b1, 0, none⟩, 2, [UInt8.ofNat f, UInt8.ofNat k]⟩, ⟨xA, xc, nb 1 [(d.length : Int)]⟩, ⟨dA, dc, d⟩] rfl (by simp) (hcl _ _ _)) rfl (srcsA) rfl rfl soA ?_; intro ⟨yA, yc⟩ hy; dsimp only [List.cons_append, List.nil_append])
        repeat' (first | refine SW ?_ | exact HO_seg rfl rfl | refine S1 ?_ | (refine S2 ?_; intro _) | (refine S3 ?_; intro _ _) | (refine S4 ?_; intro _ _ _) | (refine HO_g 2 rfl ?_; (first | apply HO_and rfl rfl rfl rfl rfl rfl rfl rfl rfl | apply HO_or rfl rfl rfl rfl rfl rfl rfl rfl rfl)) | refine S5 ?_ | (intro hb; try replace hb := simB hb; try exact kill hb))
        rw [e]
        ((first | apply HX_ret | apply HX_retn); (repeat (first | exact Res_nil | apply Res_tmp rfl | apply Res_ce rfl rfl rfl)); unfold RetQ; refine ⟨(yA, yc), trivial, rfl, Keeps.cons Ent.rfl_ (Keeps.cons Ent.rfl_ Keeps.nil)⟩)

/-- a segment among others in memory -/
theorem segB_eq (w : Nat) (s : SegS) : segB w (s.set, s.ns) = (if s.set = true then 1 else 2) :: UInt8.ofNat s.ns.length :: nb w s.ns := rfl
def spl (l : List SegS) : List (Bool × List Int) := l.map fun s => (s.set, s.ns)
theorem pathB_snoc (w : Nat) (l : List SegS) (s : SegS) : pathB w (spl (l ++ [s])) = pathB w (spl l) ++ segB w (s.set, s.ns) := by simp [pathB, spl]
theorem pathB_le (w : Nat) (l : List SegS) (j : Nat) : (pathB w (spl (l.take j))).length ≤ (pathB w (spl l)).length := by
  have : pathB w (spl l) = pathB w (spl (l.take j)) ++ pathB w (spl (l.drop j)) := by
    unfold pathB spl
    rw [← List.flatMap_append, ← List.map_append, List.take_append_drop]
  rw [this, List.length_append]
  omega

set_option maxHeartbeats 4000000 in
theorem path_i (four : Bool) (A : Option Addr) (n c : Nat) (l : List SegS) (hn : n = l.length) (hl : l.length ≤ 1000000) (hs : ∀ s ∈ l, s.ns.length ≤ 64 ∧ ∀ x ∈ s.ns, fitsB (szF four) x = true) (ht : (pathB (szF four) (spl l)).length ≤ 1000000) :
    Tri Tryz.prog 99 [.slice A n c, .bool four] [inn (segPs l), arr SegS.e 2 A l] [] (fun _ : OA => True) (fun x => .slice x.1 (pathB (szF four) (spl l)).length x.2) (fun x => [ownB x (pathB (szF four) (spl l))]) := by
  have hz := szF_bd four
  refine Tri_of (N := Tryz.f99.ntmps) (c := bodyOf Tryz.f99) Tryz.func99 rfl rfl rfl rfl (fun w0 S0 => ?_)
  repeat' (first | refine SW ?_ | refine SD ?_ | exact HO_seg rfl rfl | refine S1 ?_ | (refine S2 ?_; intro _) | (refine S3 ?_; intro _ _) | (refine S4 ?_; intro _ _ _) | (refine HO_g 2 rfl ?_; (first | apply HO_and rfl rfl rfl rfl rfl rfl rfl rfl rfl | apply HO_or rfl rfl rfl rfl rfl rfl rfl rfl rfl)) | refine S5 ?_ | (intro hb; try replace hb := simB hb; try exact kill hb))
  refine HC_add (e := ownB (none, 0) []) (fun w => own_nil w) ?_
  refine HC_loop (α := Nat × OA) (fun x => x.1 ≤ l.length) (fun x => [(11, .int .i64 x.1), (10, .int .i64 n), (9, .slice A n c), (1, .bool four), (5, .slice x.2.1 (pathB (szF four) (spl (l.take x.1))).length x.2.2)]) (fun x => [ownB x.2 (pathB (szF four) (spl (l.take x.1)))]) (fun x => l.length - x.1) rfl (0, (none, 0)) (Nat.zero_le _) ⟨rfl, rfl, rfl, rfl, rfl, trivial⟩ rfl ?_
  intro ⟨j, ⟨xA, xc⟩⟩ hj
  dsimp only at hj ⊢
  rcases Nat.lt_or_ge j l.length with hlt | hge
  · obtain ⟨s, hs0⟩ : ∃ s, l[j]? = some s := ⟨l[j], List.getElem?_eq_getElem hlt⟩
    have hsm := List.mem_of_getElem? hs0
    obtain ⟨h64, hfs⟩ := hs s hsm
    have e1 : l.take (j + 1) = l.take j ++ [s] := by rw [List.take_add_one, hs0]; rfl
    have hle := pathB_le (szF four) l (j + 1)
    obtain ⟨set, sA, sc, ns⟩ := s
    dsimp only at h64 hfs
    refine HC_see (enc := iE) (sz := 1) (A := sA) (xs := ns) List.mem_cons_self (seg_mem hsm) ?_
    cases set
    · have e : ∀ b1 yA yc, cat [⟨xA, xc, pathB (szF four) (spl (l.take j))⟩, ⟨some ⟨b1, 0, none⟩, 2, [2, UInt8.ofNat ns.length]⟩, ⟨yA, yc, nb (szF four) ns⟩] = pathB (szF four) (spl (l.take (j + 1))) := fun b1 yA yc => by
        rw [e1, pathB_snoc]
        simp [cat, segB]
      repeat' (first | refine SW ?_ | refine SD ?_ | (with_reducible refine HO_u8n ?_) | exact HO_seg rfl rfl | refine S1 ?_ | (refine S2 ?_; intro _) | (refine S3 ?_; intro _ _) | (refine S4 ?_; intro _ _ _) | (refine HO_g 2 rfl ?_; (first | apply HO_and rfl rfl rfl rfl rfl rfl rfl rfl rfl | apply HO_or rfl rfl rfl rfl rfl rfl rfl rfl rfl)) | refine S5 ?_ | (intro hb; try replace hb := simB hb; try exact kill hb))
      refine HO_two (i := 6) (j := 8) (l1 := [8, 11, 12, 13, 14]) (l2 := [6, 11, 12, 13, 14]) (by decide +kernel) rfl ⟨by decide +kernel, rfl, rfl⟩ ⟨by decide +kernel, rfl, rfl⟩ ?_ ?_
      · repeat' (first | refine SW ?_ | refine SD ?_ | (refine HO_k 12 rfl ?_; refine HO_callq rfl rfl rfl rfl (size_t four) (fun _ _ => rfl) (trivial) rfl rfl sqA ?_) | (refine HO_k 12 rfl ?_; refine HO_call rfl rfl rfl rfl (bytes_t (szF four) hz.1 hz.2 sA ns.length sc ns rfl (by omega) hfs) rfl (srcsA) rfl rfl soA ?_; intro ⟨yA, yc⟩ hx; dsimp only [List.cons_append, List.nil_append]) | exact HO_seg rfl rfl | refine S1 ?_ | (refine S2 ?_; intro _) | (refine S3 ?_; intro _ _) | (refine S4 ?_; intro _ _ _) | (refine HO_g 2 rfl ?_; (first | apply HO_and rfl rfl rfl rfl rfl rfl rfl rfl rfl | apply HO_or rfl rfl rfl rfl rfl rfl rfl rfl rfl)) | refine S5 ?_ | (intro hb; try replace hb := simB hb; try exact kill hb))
        rename_i b0 b1 b3
        (refine HO_k 12 rfl ?_; refine HO_call rfl rfl rfl rfl (concat_t (some ⟨b3, 0, none⟩) 3 3 [⟨xA, xc, pathB (szF four) (spl (l.take j))⟩, ⟨some ⟨b1, 0, none⟩, 2, [2, UInt8.ofNat ns.length]⟩, ⟨yA, yc, nb (szF four) ns⟩] rfl (by simp) (by rw [e]; omega)) rfl (srcsA) rfl rfl soA ?_; intro ⟨vA, vc⟩ hy; dsimp only [List.cons_append, List.nil_append])
        repeat' (first | refine SW ?_ | refine SD ?_ | exact HO_seg rfl rfl | refine S1 ?_ | (refine S2 ?_; intro _) | (refine S3 ?_; intro _ _) | (refine S4 ?_; intro _ _ _) | (refine HO_g 2 rfl ?_; (first | apply HO_and rfl rfl rfl rfl rfl rfl rfl rfl rfl | apply HO_or rfl rfl rfl rfl rfl rfl rfl rfl rfl)) | refine S5 ?_ | (intro hb; try replace hb := simB hb; try exact kill hb))
        refine HX_unsee ?_
        rw [e]
        refine HX_keeps (Keeps.skip (Keeps.cons Ent.rfl_ Keeps.nil)) ?_
        exact HX_at (j + 1, (vA, vc)) ⟨hlt, by simp only; omega⟩ ⟨rfl, rfl, rfl, rfl, rfl, trivial⟩ rfl
      · repeat' (first | refine SW ?_ | refine SD ?_ | (refine HO_k 12 rfl ?_; refine HO_callq rfl rfl rfl rfl (size_t four) (fun _ _ => rfl) (trivial) rfl rfl sqA ?_) | exact HO_seg rfl rfl | refine S1 ?_ | (refine S2 ?_; intro _) | (refine S3 ?_; intro _ _) | (refine S4 ?_; intro _ _ _) | (refine HO_g 2 rfl ?_; (first | apply HO_and rfl rfl rfl rfl rfl rfl rfl rfl rfl | apply HO_or rfl rfl rfl rfl rfl rfl rfl rfl rfl)) | refine S5 ?_ | (intro hb; try replace hb := simB hb; try exact kill hb))
        refine HO_two (i := 6) (j := 11) (l1 := [11, 12, 13, 14]) (l2 := [6, 12, 13, 14]) (by decide +kernel) rfl ⟨by decide +kernel, rfl, rfl⟩ ⟨by decide +kernel, rfl, rfl⟩ ?_ ?_
        · repeat' (first | refine SW ?_ | refine SD ?_ | (refine HO_k 12 rfl ?_; refine HO_callq rfl rfl rfl rfl (size_t four) (fun _ _ => rfl) (trivial) rfl rfl sqA ?_) | (refine HO_k 12 rfl ?_; refine HO_call rfl rfl rfl rfl (bytes_t (szF four) hz.1 hz.2 sA ns.length sc ns rfl (by omega) hfs) rfl (srcsA) rfl rfl soA ?_; intro ⟨yA, yc⟩ hx; dsimp only [List.cons_append, List.nil_append]) | exact HO_seg rfl rfl | refine S1 ?_ | (refine S2 ?_; intro _) | (refine S3 ?_; intro _ _) | (refine S4 ?_; intro _ _ _) | (refine HO_g 2 rfl ?_; (first | apply HO_and rfl rfl rfl rfl rfl rfl rfl rfl rfl | apply HO_or rfl rfl rfl rfl rfl rfl rfl rfl rfl)) | refine S5 ?_ | (intro hb; try replace hb := simB hb; try exact kill hb))
          rename_i b0 b1 b3
          (refine HO_k 12 rfl ?_; refine HO_call rfl rfl rfl rfl (concat_t (some ⟨b3, 0, none⟩) 3 3 [⟨xA, xc, pathB (szF four) (spl (l.take j))⟩, ⟨some ⟨b1, 0, none⟩, 2, [2, UInt8.ofNat ns.length]⟩, ⟨yA, yc, nb (szF four) ns⟩] rfl (by simp) (by rw [e]; omega)) rfl (srcsA) rfl rfl soA ?_; intro ⟨vA, vc⟩ hy; dsimp only [List.cons_append, List.nil_append])
          repeat' (first | refine SW ?_ | refine SD ?_ | exact HO_seg rfl rfl | refine S1 ?_ | (refine S2 ?_; intro _) | (refine S3 ?_; intro _ _) | (refine S4 ?_; intro _ _ _) | (refine HO_g 2 rfl ?_; (first | apply HO_and rfl rfl rfl rfl rfl rfl rfl rfl rfl | apply HO_or rfl rfl rfl rfl rfl rfl rfl rfl rfl)) | refine S5 ?_ | (intro hb; try replace hb := simB hb; try exact kill hb))
          refine HX_unsee ?_
          rw [e]
          refine HX_keeps (Keeps.skip (Keeps.cons Ent.rfl_ Keeps.nil)) ?_
          exact HX_at (j + 1, (vA, vc)) ⟨hlt, by simp only; omega⟩ ⟨rfl, rfl, rfl, rfl, rfl, trivial⟩ rfl
        · repeat' (first | refine SW ?_ | refine SD ?_ | (refine HO_k 12 rfl ?_; refine HO_callq rfl rfl rfl rfl (size_t four) (fun _ _ => rfl) (trivial) rfl rfl sqA ?_) | (refine HO_k 12 rfl ?_; refine HO_call rfl rfl rfl rfl (bytes_t (szF four) hz.1 hz.2 sA ns.length sc ns rfl (by omega) hfs) rfl (srcsA) rfl rfl soA ?_; intro ⟨yA, yc⟩ hx; dsimp only [List.cons_append, List.nil_append]) | exact HO_seg rfl rfl | refine S1 ?_ | (refine S2 ?_; intro _) | (refine S3 ?_; intro _ _) | (refine S4 ?_; intro _ _ _) | (refine HO_g 2 rfl ?_; (first | apply HO_and rfl rfl rfl rfl rfl rfl rfl rfl rfl | apply HO_or rfl rfl rfl rfl rfl rfl rfl rfl rfl)) | refine S5 ?_ | (intro hb; try replace hb := simB hb; try exact kill hb))
          rename_i b0 b1 b3
          (refine HO_k 12 rfl ?_; refine HO_call rfl rfl rfl rfl (concat_t (some ⟨b3, 0, none⟩) 3 3 [⟨xA, xc, pathB (szF four) (spl (l.take j))⟩, ⟨some ⟨b1, 0, none⟩, 2, [2, UInt8.ofNat ns.length]⟩, ⟨yA, yc, nb (szF four) ns⟩] rfl (by simp) (by rw [e]; omega)) rfl (srcsA) rfl rfl soA ?_; intro ⟨vA, vc⟩ hy; dsimp only [List.cons_append, List.nil_append])
          repeat' (first | refine SW ?_ | refine SD ?_ | exact HO_seg rfl rfl | refine S1 ?_ | (refine S2 ?_; intro _) | (refine S3 ?_; intro _ _) | (refine S4 ?_; intro _ _ _) | (refine HO_g 2 rfl ?_; (first | apply HO_and rfl rfl rfl rfl rfl rfl rfl rfl rfl | apply HO_or rfl rfl rfl rfl rfl rfl rfl rfl rfl)) | refine S5 ?_ | (intro hb; try replace hb := simB hb; try exact kill hb))
          refine HX_unsee ?_
          rw [e]
          refine HX_keeps (Keeps.skip (Keeps.cons Ent.rfl_ Keeps.nil)) ?_
          exact HX_at (j + 1, (vA, vc)) ⟨hlt, by simp only; omega⟩ ⟨rfl, rfl, rfl, rfl, rfl, trivial⟩ rfl
    · have e : ∀ b1 yA yc, cat [⟨xA, xc, pathB (szF four) (spl (l.take j))⟩, ⟨some ⟨b1, 0, none⟩, 2, [1, UInt8.ofNat ns.length]⟩, ⟨yA, yc, nb (szF four) ns⟩] = pathB (szF four) (spl (l.take (j + 1))) := fun b1 yA yc => by
        rw [e1, pathB_snoc]
        simp [cat, segB]
      repeat' (first | refine SW ?_ | refine SD ?_ | (with_reducible refine HO_u8n ?_) | exact HO_seg rfl rfl | refine S1 ?_ | (refine S2 ?_; intro _) | (refine S3 ?_; intro _ _) | (refine S4 ?_; intro _ _ _) | (refine HO_g 2 rfl ?_; (first | apply HO_and rfl rfl rfl rfl rfl rfl rfl rfl rfl | apply HO_or rfl rfl rfl rfl rfl rfl rfl rfl rfl)) | refine S5 ?_ | (intro hb; try replace hb := simB hb; try exact kill hb))
      refine HO_two (i := 6) (j := 8) (l1 := [8, 11, 12, 13, 14]) (l2 := [6, 11, 12, 13, 14]) (by decide +kernel) rfl ⟨by decide +kernel, rfl, rfl⟩ ⟨by decide +kernel, rfl, rfl⟩ ?_ ?_
      · repeat' (first | refine SW ?_ | refine SD ?_ | (refine HO_k 12 rfl ?_; refine HO_callq rfl rfl rfl rfl (size_t four) (fun _ _ => rfl) (trivial) rfl rfl sqA ?_) | (refine HO_k 12 rfl ?_; refine HO_call rfl rfl rfl rfl (bytes_t (szF four) hz.1 hz.2 sA ns.length sc ns rfl (by omega) hfs) rfl (srcsA) rfl rfl soA ?_; intro ⟨yA, yc⟩ hx; dsimp only [List.cons_append, List.nil_append]) | exact HO_seg rfl rfl | refine S1 ?_ | (refine S2 ?_; intro _) | (refine S3 ?_; intro _ _) | (refine S4 ?_; intro _ _ _) | (refine HO_g 2 rfl ?_; (first | apply HO_and rfl rfl rfl rfl rfl rfl rfl rfl rfl | apply HO_or rfl rfl rfl rfl rfl rfl rfl rfl rfl)) | refine S5 ?_ | (intro hb; try replace hb := simB hb; try exact kill hb))
        rename_i b0 b1 b3
        (refine HO_k 12 rfl ?_; refine HO_call rfl rfl rfl rfl (concat_t (some ⟨b3, 0, none⟩) 3 3 [⟨xA, xc, pathB (szF four) (spl (l.take j))⟩, ⟨some ⟨b1, 0, none⟩, 2, [1, UInt8.ofNat ns.length]⟩, ⟨yA, yc, nb (szF four) ns⟩] rfl (by simp) (by rw [e]; omega)) rfl (srcsA) rfl rfl soA ?_; intro ⟨vA, vc⟩ hy; dsimp only [List.cons_append, List.nil_append])
        repeat' (first | refine SW ?_ | refine SD ?_ | exact HO_seg rfl rfl | refine S1 ?_ | (refine S2 ?_; intro _) | (refine S3 ?_; intro _ _) | (refine S4 ?_; intro _ _ _) | (refine HO_g 2 rfl ?_; (first | apply HO_and rfl rfl rfl rfl rfl rfl rfl rfl rfl | apply HO_or rfl rfl rfl rfl rfl rfl rfl rfl rfl)) | refine S5 ?_ | (intro hb; try replace hb := simB hb; try exact kill hb))
        refine HX_unsee ?_
        rw [e]
        refine HX_keeps (Keeps.skip (Keeps.cons Ent.rfl_ Keeps.nil)) ?_
        exact HX_at (j + 1, (vA, vc)) ⟨hlt, by simp only; omega⟩ ⟨rfl, rfl, rfl, rfl, rfl, trivial⟩ rfl
      · repeat' (first | refine SW ?_ | refine SD ?_ | (refine HO_k 12 rfl ?_; refine HO_callq rfl rfl rfl rfl (size_t four) (fun _ _ => rfl) (trivial) rfl rfl sqA ?_) | exact HO_seg rfl rfl | refine S1 ?_ | (refine S2 ?_; intro _) | (refine S3 ?_; intro _ _) | (refine S4 ?_; intro _ _ _) | (refine HO_g 2 rfl ?_; (first | apply HO_and rfl rfl rfl rfl rfl rfl rfl rfl rfl | apply HO_or rfl rfl rfl rfl rfl rfl rfl rfl rfl)) | refine S5 ?_ | (intro hb; try replace hb := simB hb; try exact kill hb))
        refine HO_two (i := 6) (j := 11) (l1 := [11, 12, 13, 14]) (l2 := [6, 12, 13, 14]) (by decide +kernel) rfl ⟨by decide +kernel, rfl, rfl⟩ ⟨by decide +kernel, rfl, rfl⟩ ?_ ?_
        · repeat' (first | refine SW ?_ | refine SD ?_ | (refine HO_k 12 rfl ?_; refine HO_callq rfl rfl rfl rfl (size_t four) (fun _ _ => rfl) (trivial) rfl rfl sqA ?_) | (refine HO_k 12 rfl ?_; refine HO_call rfl rfl rfl rfl (bytes_t (szF four) hz.1 hz.2 sA ns.length sc ns rfl (by omega) hfs) rfl (srcsA) rfl rfl soA ?_; intro ⟨yA, yc⟩ hx; dsimp only [List.cons_append, List.nil_append]) | exact HO_seg rfl rfl | refine S1 ?_ | (refine S2 ?_; intro _) | (refine S3 ?_; intro _ _) | (refine S4 ?_; intro _ _ _) | (refine HO_g 2 rfl ?_; (first | apply HO_and rfl rfl rfl rfl rfl rfl rfl rfl rfl | apply HO_or rfl rfl rfl rfl rfl rfl rfl rfl rfl)) | refine S5 ?_ | (intro hb; try replace hb := simB hb; try exact kill hb))
          rename_i b0 b1 b3
          (refine HO_k 12 rfl ?_; refine HO_call rfl rfl rfl rfl (concat_t (some ⟨b3, 0, none⟩) 3 3 [⟨xA, xc, pathB (szF four) (spl (l.take j))⟩, ⟨some ⟨b1, 0, none⟩, 2, [1, UInt8.ofNat ns.length]⟩, ⟨yA, yc, nb (szF four) ns⟩] rfl (by simp) (by rw [e]; omega)) rfl (srcsA) rfl rfl soA ?_; intro ⟨vA, vc⟩ hy; dsimp only [List.cons_append, List.nil_append])
          repeat' (first | refine SW ?_ | refine SD ?_ | exact HO_seg rfl rfl | refine S1 ?_ | (refine S2 ?_; intro _) | (refine S3 ?_; intro _ _) | (refine S4 ?_; intro _ _ _) | (refine HO_g 2 rfl ?_; (first | apply HO_and rfl rfl rfl rfl rfl rfl rfl rfl rfl | apply HO_or rfl rfl rfl rfl rfl rfl rfl rfl rfl)) | refine S5 ?_ | (intro hb; try replace hb := simB hb; try exact kill hb))
          refine HX_unsee ?_
          rw [e]
          refine HX_keeps (Keeps.skip (Keeps.cons Ent.rfl_ Keeps.nil)) ?_
          exact HX_at (j + 1, (vA, vc)) ⟨hlt, by simp only; omega⟩ ⟨rfl, rfl, rfl, rfl, rfl, trivial⟩ rfl
        · repeat' (first | refine SW ?_ | refine SD ?_ | (refine HO_k 12 rfl ?_; refine HO_callq rfl rfl rfl rfl (size_t four) (fun _ _ => rfl) (trivial) rfl rfl sqA ?_) | (refine HO_k 12 rfl ?_; refine HO_call rfl rfl rfl rfl (bytes_t (szF four) hz.1 hz.2 sA ns.length sc ns rfl (by omega) hfs) rfl (srcsA) rfl rfl soA ?_; intro ⟨yA, yc⟩ hx; dsimp only [List.cons_append, List.nil_append]) | exact HO_seg rfl rfl | refine S1 ?_ | (refine S2 ?_; intro _) | (refine S3 ?_; intro _ _) | (refine S4 ?_; intro _ _ _) | (refine HO_g 2 rfl ?_; (first | apply HO_and rfl rfl rfl rfl rfl rfl rfl rfl rfl | apply HO_or rfl rfl rfl rfl rfl rfl rfl rfl rfl)) | refine S5 ?_ | (intro hb; try replace hb := simB hb; try exact kill hb))
          rename_i b0 b1 b3
          (refine HO_k 12 rfl ?_; refine HO_call rfl rfl rfl rfl (concat_t (some ⟨b3, 0, none⟩) 3 3 [⟨xA, xc, pathB (szF four) (spl (l.take j))⟩, ⟨some ⟨b1, 0, none⟩, 2, [1, UInt8.ofNat ns.length]⟩, ⟨yA, yc, nb (szF four) ns⟩] rfl (by simp) (by rw [e]; omega)) rfl (srcsA) rfl rfl soA ?_; intro ⟨vA, vc⟩ hy; dsimp only [List.cons_append, List.nil_append])
          repeat' (first | refine SW ?_ | refine SD ?_ | exact HO_seg rfl rfl | refine S1 ?_ | (refine S2 ?_; intro _) | (refine S3 ?_; intro _ _) | (refine S4 ?_; intro _ _ _) | (refine HO_g 2 rfl ?_; (first | apply HO_and rfl rfl rfl rfl rfl rfl rfl rfl rfl | apply HO_or rfl rfl rfl rfl rfl rfl rfl rfl rfl)) | refine S5 ?_ | (intro hb; try replace hb := simB hb; try exact kill hb))
          refine HX_unsee ?_
          rw [e]
          refine HX_keeps (Keeps.skip (Keeps.cons Ent.rfl_ Keeps.nil)) ?_
          exact HX_at (j + 1, (vA, vc)) ⟨hlt, by simp only; omega⟩ ⟨rfl, rfl, rfl, rfl, rfl, trivial⟩ rfl
  · obtain rfl : j = l.length := by omega
    rw [List.take_length]
    repeat' (first | refine SW ?_ | refine SD ?_ | exact HO_seg rfl rfl | refine S1 ?_ | (refine S2 ?_; intro _) | (refine S3 ?_; intro _ _) | (refine S4 ?_; intro _ _ _) | (refine HO_g 2 rfl ?_; (first | apply HO_and rfl rfl rfl rfl rfl rfl rfl rfl rfl | apply HO_or rfl rfl rfl rfl rfl rfl rfl rfl rfl)) | refine S5 ?_ | (intro hb; try replace hb := simB hb; try exact kill hb))
    ((first | apply HX_ret | apply HX_retn); (repeat (first | exact Res_nil | apply Res_tmp rfl | apply Res_ce rfl rfl rfl)); unfold RetQ; refine ⟨(xA, xc), trivial, rfl, Keeps.refl⟩)
end Go.Proofs.YtdeeokkkcfkbjaaGreat
