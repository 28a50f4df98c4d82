/- Part of a proof of many texts: what the theorem at its end leans on. -/
import Derived.Test.YteeogabkkblkgaaGreatDoorVAttE
import Derived.Test.YteeogabkkblkgaaGreatDoorVKb
namespace Go.Proofs.YteeogabkkblkgaaGreatDoor
set_option maxHeartbeats 1000000000
set_option linter.unusedVariables false
set_option linter.unusedSimpArgs false
open Go.RowKit
attribute [local irreducible] HC HX HO Tri eP adr
@[reducible] def TW : Nat := 262
theorem HO_u8n {m : Md} {P : Program} {N : Nat} {w0 : World} {S0 : Foot} {ops : List Oper} {d : Nat} {env : Env} {ro rw : List SL} {K : Act → World → Prop} {l : List Nat} {k : Nat}
  (h : HO m P N w0 S0 ops l ((d, .int .u8 ((UInt8.ofNat k).toNat : Int)) :: env) ro rw K) : HO m P N w0 S0 ops l ((d, .int .u8 (IntKind.u8.wrap (k : Int))) :: env) ro rw K :=
 HO_rw (by rw [u8_wrap _ (Int.natCast_nonneg _), Int.toNat_natCast]) h
theorem nb_one (w n : Nat) : nb w [(n : Int)] = be w n := by simp [nb]
theorem fits_len {w n : Nat} (h : n < 256 ^ w) : ∀ x ∈ [(n : Int)], fitsB w x = true := fun x hx => by
 simp at hx
 subst hx
 simp only [fitsB, Bool.and_eq_true, decide_eq_true_eq]
 omega
theorem add_t (b : Nat) (A : Option Addr) (c : Nat) (l : List UInt8) (f k : Nat) (hf : bOr .i64 (f : Int) 16 = ((f + 16 : Nat) : Int)) (dA : Option Addr) (dc : Nat) (d : List UInt8) (hd : d.length ≤ 65535) (hl : l.length ≤ 500000) :
  Tri Tryz.prog 191 [pt b, .int .i64 f, .int .i64 k, .slice dA d.length dc] [arr bE 1 dA d] [cel b TW [.slice A l.length c], ownB (A, c) l] (fun _ : OA => True) (fun _ => .tuple #[])
   (fun x => [cel b TW [.slice x.1 (l ++ attB f k d).length x.2], ownB x (l ++ attB f k d)]) := by
 by_cases hlen : 255 < d.length
 ·have e : ∀ b1 xA xc, cat [⟨A, c, l⟩, ⟨some ⟨b1, 0, none⟩, 2, [UInt8.ofNat (f + 16), UInt8.ofNat k]⟩, ⟨xA, xc, nb 2 [(d.length : Int)]⟩, ⟨dA, dc, d⟩] = l ++ attB f k d := fun b1 xA xc => by
   unfold attB
   rw [if_pos hlen, nb_one]
   simp [cat]
  have hbe := be_length 2 d.length
  have hcl : ∀ b1 xA xc, (cat [⟨A, c, l⟩, ⟨some ⟨b1, 0, none⟩, 2, [UInt8.ofNat (f + 16), UInt8.ofNat k]⟩, ⟨xA, xc, nb 2 [(d.length : Int)]⟩, ⟨dA, dc, d⟩]).length ≤ 1000000 := fun b1 xA xc => by
   rw [nb_one]; simp [cat]; omega
  refine Tri_in Tryz.func191 rfl (fun w0 S0 => ?_)
  dsimp only [pt, ownB]
  repeat' (first | refine SD ?_ | (with_reducible refine HO_rw (congrArg (Value.int .i64) hf) ?_) | (with_reducible refine HO_u8n ?_) | refine SB ?_ | (refine S2 ?_; intro _) | fail)
  refine HO_two (i := 9) (j := 13) (l1 := [13, 14, 16, 17, 18, 19, 20]) (l2 := [9, 14, 16, 17, 18, 19, 20]) (by decide +kernel) rfl ⟨by decide +kernel, rfl, rfl⟩ ⟨by decide +kernel, rfl, rfl⟩ ?_ ?_
  ·repeat' (first | refine SD ?_ | (refine KC ?_; refine HO_call rfl rfl rfl rfl (bytes_t 2 (by decide) (by decide) _ 1 _ [(d.length : Int)] rfl (by simp) (fits_len (by omega))) rfl (srcsA) rfl rfl soA ?_; intro ⟨xA, xc⟩ hx; dsimp only [lca, lna]) | refine SB ?_ | (refine S2 ?_; intro _) | fail)
   rename_i b1 b2 b3
   (refine KC ?_; refine HO_call rfl rfl rfl rfl (concat_t (some ⟨b3, 0, none⟩) 4 4 [⟨A, c, l⟩, ⟨some ⟨b1, 0, none⟩, 2, [UInt8.ofNat (f + 16), UInt8.ofNat k]⟩, ⟨xA, xc, nb 2 [(d.length : Int)]⟩, ⟨dA, dc, d⟩] rfl (by simp) (hcl _ _ _)) rfl (srcsA) rfl rfl soA ?_; intro ⟨yA, yc⟩ hy; dsimp only [lca, lna])
   repeat' (first | refine SB ?_ | (refine S2 ?_; intro _) | fail)
   rw [e]
   (refine SRt ?_; unfold RetQ; refine ⟨(yA, yc), trivial, rfl, Keeps.cons Ent.rfl_ (Keeps.cons Ent.rfl_ Keeps.nil)⟩)
  ·repeat' (first | refine SB ?_ | (refine S2 ?_; intro _) | fail)
   refine HO_two (i := 9) (j := 14) (l1 := [14, 16, 17, 18, 19, 20]) (l2 := [9, 16, 17, 18, 19, 20]) (by decide +kernel) rfl ⟨by decide +kernel, rfl, rfl⟩ ⟨by decide +kernel, rfl, rfl⟩ ?_ ?_
   ·repeat' (first | refine SD ?_ | (refine KC ?_; refine HO_call rfl rfl rfl rfl (bytes_t 2 (by decide) (by decide) _ 1 _ [(d.length : Int)] rfl (by simp) (fits_len (by omega))) rfl (srcsA) rfl rfl soA ?_; intro ⟨xA, xc⟩ hx; dsimp only [lca, lna]) | refine SB ?_ | (refine S2 ?_; intro _) | fail)
    rename_i b2 b1 b3
    (refine KC ?_; refine HO_call rfl rfl rfl rfl (concat_t (some ⟨b3, 0, none⟩) 4 4 [⟨A, c, l⟩, ⟨some ⟨b1, 0, none⟩, 2, [UInt8.ofNat (f + 16), UInt8.ofNat k]⟩, ⟨xA, xc, nb 2 [(d.length : Int)]⟩, ⟨dA, dc, d⟩] rfl (by simp) (hcl _ _ _)) rfl (srcsA) rfl rfl soA ?_; intro ⟨yA, yc⟩ hy; dsimp only [lca, lna])
    repeat' (first | refine SB ?_ | (refine S2 ?_; intro _) | fail)
    rw [e]
    (refine SRt ?_; unfold RetQ; refine ⟨(yA, yc), trivial, rfl, Keeps.cons Ent.rfl_ (Keeps.cons Ent.rfl_ Keeps.nil)⟩)
   ·repeat' (first | refine SD ?_ | (refine KC ?_; refine HO_call rfl rfl rfl rfl (bytes_t 2 (by decide) (by decide) _ 1 _ [(d.length : Int)] rfl (by simp) (fits_len (by omega))) rfl (srcsA) rfl rfl soA ?_; intro ⟨xA, xc⟩ hx; dsimp only [lca, lna]) | refine SB ?_ | (refine S2 ?_; intro _) | fail)
    rename_i b2 b1 b3
    (refine KC ?_; refine HO_call rfl rfl rfl rfl (concat_t (some ⟨b3, 0, none⟩) 4 4 [⟨A, c, l⟩, ⟨some ⟨b1, 0, none⟩, 2, [UInt8.ofNat (f + 16), UInt8.ofNat k]⟩, ⟨xA, xc, nb 2 [(d.length : Int)]⟩, ⟨dA, dc, d⟩] rfl (by simp) (hcl _ _ _)) rfl (srcsA) rfl rfl soA ?_; intro ⟨yA, yc⟩ hy; dsimp only [lca, lna])
    repeat' (first | refine SB ?_ | (refine S2 ?_; intro _) | fail)
    rw [e]
    (refine SRt ?_; unfold RetQ; refine ⟨(yA, yc), trivial, rfl, Keeps.cons Ent.rfl_ (Keeps.cons Ent.rfl_ Keeps.nil)⟩)
 ·have e : ∀ b1 xA xc, cat [⟨A, c, l⟩, ⟨some ⟨b1, 0, none⟩, 2, [UInt8.ofNat f, UInt8.ofNat k]⟩, ⟨xA, xc, nb 1 [(d.length : Int)]⟩, ⟨dA, dc, d⟩] = l ++ attB f k d := fun b1 xA xc => by
   unfold attB
   rw [if_neg hlen, nb_one]
   simp [cat]
  have hbe := be_length 1 d.length
  have hcl : ∀ b1 xA xc, (cat [⟨A, c, l⟩, ⟨some ⟨b1, 0, none⟩, 2, [UInt8.ofNat f, UInt8.ofNat k]⟩, ⟨xA, xc, nb 1 [(d.length : Int)]⟩, ⟨dA, dc, d⟩]).length ≤ 1000000 := fun b1 xA xc => by
   rw [nb_one]; simp [cat]; omega
  refine Tri_in Tryz.func191 rfl (fun w0 S0 => ?_)
  dsimp only [pt, ownB]
  repeat' (first | refine SD ?_ | (with_reducible refine HO_rw (congrArg (Value.int .i64) hf) ?_) | (with_reducible refine HO_u8n ?_) | refine SB ?_ | (refine S2 ?_; intro _) | fail)
  refine HO_two (i := 9) (j := 13) (l1 := [13, 14, 16, 17, 18, 19, 20]) (l2 := [9, 14, 16, 17, 18, 19, 20]) (by decide +kernel) rfl ⟨by decide +kernel, rfl, rfl⟩ ⟨by decide +kernel, rfl, rfl⟩ ?_ ?_
  ·repeat' (first | refine SD ?_ | (refine KC ?_; refine HO_call rfl rfl rfl rfl (bytes_t 1 (by decide) (by decide) _ 1 _ [(d.length : Int)] rfl (by simp) (fits_len (by omega))) rfl (srcsA) rfl rfl soA ?_; intro ⟨xA, xc⟩ hx; dsimp only [lca, lna]) | refine SB ?_ | (refine S2 ?_; intro _) | fail)
   rename_i b1 b2 b3
   (refine KC ?_; refine HO_call rfl rfl rfl rfl (concat_t (some ⟨b3, 0, none⟩) 4 4 [⟨A, c, l⟩, ⟨some ⟨b1, 0, none⟩, 2, [UInt8.ofNat f, UInt8.ofNat k]⟩, ⟨xA, xc, nb 1 [(d.length : Int)]⟩, ⟨dA, dc, d⟩] rfl (by simp) (hcl _ _ _)) rfl (srcsA) rfl rfl soA ?_; intro ⟨yA, yc⟩ hy; dsimp only [lca, lna])
   repeat' (first | refine SB ?_ | (refine S2 ?_; intro _) | fail)
   rw [e]
   (refine SRt ?_; unfold RetQ; refine ⟨(yA, yc), trivial, rfl, Keeps.cons Ent.rfl_ (Keeps.cons Ent.rfl_ Keeps.nil)⟩)
  ·repeat' (first | refine SB ?_ | (refine S2 ?_; intro _) | fail)
   refine HO_two (i := 9) (j := 14) (l1 := [14, 16, 17, 18, 19, 20]) (l2 := [9, 16, 17, 18, 19, 20]) (by decide +kernel) rfl ⟨by decide +kernel, rfl, rfl⟩ ⟨by decide +kernel, rfl, rfl⟩ ?_ ?_
   ·repeat' (first | refine SD ?_ | (refine KC ?_; refine HO_call rfl rfl rfl rfl (bytes_t 1 (by decide) (by decide) _ 1 _ [(d.length : Int)] rfl (by simp) (fits_len (by omega))) rfl (srcsA) rfl rfl soA ?_; intro ⟨xA, xc⟩ hx; dsimp only [lca, lna]) | refine SB ?_ | (refine S2 ?_; intro _) | fail)
    rename_i b2 b1 b3
    (refine KC ?_; refine HO_call rfl rfl rfl rfl (concat_t (some ⟨b3, 0, none⟩) 4 4 [⟨A, c, l⟩, ⟨some ⟨b1, 0, none⟩, 2, [UInt8.ofNat f, UInt8.ofNat k]⟩, ⟨xA, xc, nb 1 [(d.length : Int)]⟩, ⟨dA, dc, d⟩] rfl (by simp) (hcl _ _ _)) rfl (srcsA) rfl rfl soA ?_; intro ⟨yA, yc⟩ hy; dsimp only [lca, lna])
    repeat' (first | refine SB ?_ | (refine S2 ?_; intro _) | fail)
    rw [e]
    (refine SRt ?_; unfold RetQ; refine ⟨(yA, yc), trivial, rfl, Keeps.cons Ent.rfl_ (Keeps.cons Ent.rfl_ Keeps.nil)⟩)
   ·repeat' (first | refine SD ?_ | (refine KC ?_; refine HO_call rfl rfl rfl rfl (bytes_t 1 (by decide) (by decide) _ 1 _ [(d.length : Int)] rfl (by simp) (fits_len (by omega))) rfl (srcsA) rfl rfl soA ?_; intro ⟨xA, xc⟩ hx; dsimp only [lca, lna]) | refine SB ?_ | (refine S2 ?_; intro _) | fail)
    rename_i b2 b1 b3
    (refine KC ?_; refine HO_call rfl rfl rfl rfl (concat_t (some ⟨b3, 0, none⟩) 4 4 [⟨A, c, l⟩, ⟨some ⟨b1, 0, none⟩, 2, [UInt8.ofNat f, UInt8.ofNat k]⟩, ⟨xA, xc, nb 1 [(d.length : Int)]⟩, ⟨dA, dc, d⟩] rfl (by simp) (hcl _ _ _)) rfl (srcsA) rfl rfl soA ?_; intro ⟨yA, yc⟩ hy; dsimp only [lca, lna])
    repeat' (first | refine SB ?_ | (refine S2 ?_; intro _) | fail)
    rw [e]
    (refine SRt ?_; unfold RetQ; refine ⟨(yA, yc), trivial, rfl, Keeps.cons Ent.rfl_ (Keeps.cons Ent.rfl_ Keeps.nil)⟩)
def spl (l : List SegS) : List (Bool × List Int) := l.map fun s => (s.set, s.ns)
theorem pathB_snoc (w : Nat) (l : List SegS) (s : SegS) : pathB w (spl (l ++ [s])) = pathB w (spl l) ++ segB w (s.set, s.ns) := by simp [pathB, spl]
theorem pathB_le (w : Nat) (l : List SegS) (j : Nat) : (pathB w (spl (l.take j))).length ≤ (pathB w (spl l)).length := by
 have : pathB w (spl l) = pathB w (spl (l.take j)) ++ pathB w (spl (l.drop j)) := by
  unfold pathB spl
  rw [← List.flatMap_append, ← List.map_append, List.take_append_drop]
 rw [this, List.length_append]
 omega
theorem path_i (four : Bool) (A : Option Addr) (n c : Nat) (l : List SegS) (hn : n = l.length) (hl : l.length ≤ 1000000) (hs : ∀ s ∈ l, s.ns.length ≤ 64 ∧ ∀ x ∈ s.ns, fitsB (szF four) x = true) (ht : (pathB (szF four) (spl l)).length ≤ 1000000) :
  Tri Tryz.prog 192 [.slice A n c, .bool four] [inn (segPs l), arr SegS.e 2 A l] [] (fun _ : OA => True) (fun x => .slice x.1 (pathB (szF four) (spl l)).length x.2) (fun x => [ownB x (pathB (szF four) (spl l))]) := by
 have hz := szF_bd four
 refine Tri_in Tryz.func192 rfl (fun w0 S0 => ?_)
 repeat' (first | refine SX ?_ | refine SB ?_ | (refine S2 ?_; intro _) | fail)
 refine HC_add (e := ownB (none, 0) []) (fun w => own_nil w) ?_
 refine HC_loop (α := Nat × OA) (fun x => x.1 ≤ l.length) (fun x => [(11, .int .i64 x.1), (10, .int .i64 n), (9, .slice A n c), (1, .bool four), (5, .slice x.2.1 (pathB (szF four) (spl (l.take x.1))).length x.2.2)]) (fun x => [ownB x.2 (pathB (szF four) (spl (l.take x.1)))]) (fun x => l.length - x.1) rfl (0, (none, 0)) (Nat.zero_le _) ⟨rfl, rfl, rfl, rfl, rfl, trivial⟩ rfl ?_
 intro ⟨j, ⟨xA, xc⟩⟩ hj
 dsimp only at hj ⊢
 rcases Nat.lt_or_ge j l.length with hlt | hge
 ·obtain ⟨s, hs0⟩ : ∃ s, l[j]? = some s := ⟨l[j], List.getElem?_eq_getElem hlt⟩
  have hsm := List.mem_of_getElem? hs0
  obtain ⟨h64, hfs⟩ := hs s hsm
  have e1 : l.take (j + 1) = l.take j ++ [s] := by rw [List.take_add_one, hs0]; rfl
  have hle := pathB_le (szF four) l (j + 1)
  obtain ⟨set, sA, sc, ns⟩ := s
  dsimp only at h64 hfs
  refine HC_see (enc := iE) (sz := 1) (A := sA) (xs := ns) List.mem_cons_self (seg_mem hsm) ?_
  cases set
  ·have e : ∀ b1 yA yc, cat [⟨xA, xc, pathB (szF four) (spl (l.take j))⟩, ⟨some ⟨b1, 0, none⟩, 2, [2, UInt8.ofNat ns.length]⟩, ⟨yA, yc, nb (szF four) ns⟩] = pathB (szF four) (spl (l.take (j + 1))) := fun b1 yA yc => by
    rw [e1, pathB_snoc]
    simp [cat, segB]
   repeat' (first | refine SX ?_ | (with_reducible refine HO_u8n ?_) | refine SB ?_ | (refine S2 ?_; intro _) | fail)
   refine HO_two (i := 6) (j := 8) (l1 := [8, 11, 12, 13, 14]) (l2 := [6, 11, 12, 13, 14]) (by decide +kernel) rfl ⟨by decide +kernel, rfl, rfl⟩ ⟨by decide +kernel, rfl, rfl⟩ ?_ ?_
   ·repeat' (first | refine SX ?_ | (refine KC ?_; refine HO_callq rfl rfl rfl rfl (size_t four) (fun _ _ => rfl) (trivial) rfl rfl sqA ?_) | (refine KC ?_; refine HO_call rfl rfl rfl rfl (bytes_t (szF four) hz.1 hz.2 sA ns.length sc ns rfl (by omega) hfs) rfl (srcsA) rfl rfl soA ?_; intro ⟨yA, yc⟩ hx; dsimp only [lca, lna]) | refine SB ?_ | (refine S2 ?_; intro _) | fail)
    rename_i b0 b1 b3
    (refine KC ?_; refine HO_call rfl rfl rfl rfl (concat_t (some ⟨b3, 0, none⟩) 3 3 [⟨xA, xc, pathB (szF four) (spl (l.take j))⟩, ⟨some ⟨b1, 0, none⟩, 2, [2, UInt8.ofNat ns.length]⟩, ⟨yA, yc, nb (szF four) ns⟩] rfl (by simp) (by rw [e]; omega)) rfl (srcsA) rfl rfl soA ?_; intro ⟨vA, vc⟩ hy; dsimp only [lca, lna])
    repeat' (first | refine SX ?_ | refine SB ?_ | (refine S2 ?_; intro _) | fail)
    refine HX_unsee ?_
    rw [e]
    refine HX_keeps (Keeps.skip (Keeps.cons Ent.rfl_ Keeps.nil)) ?_
    exact HX_at (j + 1, (vA, vc)) ⟨hlt, by simp only; omega⟩ ⟨rfl, rfl, rfl, rfl, rfl, trivial⟩ rfl
   ·repeat' (first | refine SX ?_ | (refine KC ?_; refine HO_callq rfl rfl rfl rfl (size_t four) (fun _ _ => rfl) (trivial) rfl rfl sqA ?_) | refine SB ?_ | (refine S2 ?_; intro _) | fail)
    refine HO_two (i := 6) (j := 11) (l1 := [11, 12, 13, 14]) (l2 := [6, 12, 13, 14]) (by decide +kernel) rfl ⟨by decide +kernel, rfl, rfl⟩ ⟨by decide +kernel, rfl, rfl⟩ ?_ ?_
    ·repeat' (first | refine SX ?_ | (refine KC ?_; refine HO_callq rfl rfl rfl rfl (size_t four) (fun _ _ => rfl) (trivial) rfl rfl sqA ?_) | (refine KC ?_; refine HO_call rfl rfl rfl rfl (bytes_t (szF four) hz.1 hz.2 sA ns.length sc ns rfl (by omega) hfs) rfl (srcsA) rfl rfl soA ?_; intro ⟨yA, yc⟩ hx; dsimp only [lca, lna]) | refine SB ?_ | (refine S2 ?_; intro _) | fail)
     rename_i b0 b1 b3
     (refine KC ?_; refine HO_call rfl rfl rfl rfl (concat_t (some ⟨b3, 0, none⟩) 3 3 [⟨xA, xc, pathB (szF four) (spl (l.take j))⟩, ⟨some ⟨b1, 0, none⟩, 2, [2, UInt8.ofNat ns.length]⟩, ⟨yA, yc, nb (szF four) ns⟩] rfl (by simp) (by rw [e]; omega)) rfl (srcsA) rfl rfl soA ?_; intro ⟨vA, vc⟩ hy; dsimp only [lca, lna])
     repeat' (first | refine SX ?_ | refine SB ?_ | (refine S2 ?_; intro _) | fail)
     refine HX_unsee ?_
     rw [e]
     refine HX_keeps (Keeps.skip (Keeps.cons Ent.rfl_ Keeps.nil)) ?_
     exact HX_at (j + 1, (vA, vc)) ⟨hlt, by simp only; omega⟩ ⟨rfl, rfl, rfl, rfl, rfl, trivial⟩ rfl
    ·repeat' (first | refine SX ?_ | (refine KC ?_; refine HO_callq rfl rfl rfl rfl (size_t four) (fun _ _ => rfl) (trivial) rfl rfl sqA ?_) | (refine KC ?_; refine HO_call rfl rfl rfl rfl (bytes_t (szF four) hz.1 hz.2 sA ns.length sc ns rfl (by omega) hfs) rfl (srcsA) rfl rfl soA ?_; intro ⟨yA, yc⟩ hx; dsimp only [lca, lna]) | refine SB ?_ | (refine S2 ?_; intro _) | fail)
     rename_i b0 b1 b3
     (refine KC ?_; refine HO_call rfl rfl rfl rfl (concat_t (some ⟨b3, 0, none⟩) 3 3 [⟨xA, xc, pathB (szF four) (spl (l.take j))⟩, ⟨some ⟨b1, 0, none⟩, 2, [2, UInt8.ofNat ns.length]⟩, ⟨yA, yc, nb (szF four) ns⟩] rfl (by simp) (by rw [e]; omega)) rfl (srcsA) rfl rfl soA ?_; intro ⟨vA, vc⟩ hy; dsimp only [lca, lna])
     repeat' (first | refine SX ?_ | refine SB ?_ | (refine S2 ?_; intro _) | fail)
     refine HX_unsee ?_
     rw [e]
     refine HX_keeps (Keeps.skip (Keeps.cons Ent.rfl_ Keeps.nil)) ?_
     exact HX_at (j + 1, (vA, vc)) ⟨hlt, by simp only; omega⟩ ⟨rfl, rfl, rfl, rfl, rfl, trivial⟩ rfl
  ·have e : ∀ b1 yA yc, cat [⟨xA, xc, pathB (szF four) (spl (l.take j))⟩, ⟨some ⟨b1, 0, none⟩, 2, [1, UInt8.ofNat ns.length]⟩, ⟨yA, yc, nb (szF four) ns⟩] = pathB (szF four) (spl (l.take (j + 1))) := fun b1 yA yc => by
    rw [e1, pathB_snoc]
    simp [cat, segB]
   repeat' (first | refine SX ?_ | (with_reducible refine HO_u8n ?_) | refine SB ?_ | (refine S2 ?_; intro _) | fail)
   refine HO_two (i := 6) (j := 8) (l1 := [8, 11, 12, 13, 14]) (l2 := [6, 11, 12, 13, 14]) (by decide +kernel) rfl ⟨by decide +kernel, rfl, rfl⟩ ⟨by decide +kernel, rfl, rfl⟩ ?_ ?_
   ·repeat' (first | refine SX ?_ | (refine KC ?_; refine HO_callq rfl rfl rfl rfl (size_t four) (fun _ _ => rfl) (trivial) rfl rfl sqA ?_) | (refine KC ?_; refine HO_call rfl rfl rfl rfl (bytes_t (szF four) hz.1 hz.2 sA ns.length sc ns rfl (by omega) hfs) rfl (srcsA) rfl rfl soA ?_; intro ⟨yA, yc⟩ hx; dsimp only [lca, lna]) | refine SB ?_ | (refine S2 ?_; intro _) | fail)
    rename_i b0 b1 b3
    (refine KC ?_; refine HO_call rfl rfl rfl rfl (concat_t (some ⟨b3, 0, none⟩) 3 3 [⟨xA, xc, pathB (szF four) (spl (l.take j))⟩, ⟨some ⟨b1, 0, none⟩, 2, [1, UInt8.ofNat ns.length]⟩, ⟨yA, yc, nb (szF four) ns⟩] rfl (by simp) (by rw [e]; omega)) rfl (srcsA) rfl rfl soA ?_; intro ⟨vA, vc⟩ hy; dsimp only [lca, lna])
    repeat' (first | refine SX ?_ | refine SB ?_ | (refine S2 ?_; intro _) | fail)
    refine HX_unsee ?_
    rw [e]
    refine HX_keeps (Keeps.skip (Keeps.cons Ent.rfl_ Keeps.nil)) ?_
    exact HX_at (j + 1, (vA, vc)) ⟨hlt, by simp only; omega⟩ ⟨rfl, rfl, rfl, rfl, rfl, trivial⟩ rfl
   ·repeat' (first | refine SX ?_ | (refine KC ?_; refine HO_callq rfl rfl rfl rfl (size_t four) (fun _ _ => rfl) (trivial) rfl rfl sqA ?_) | refine SB ?_ | (refine S2 ?_; intro _) | fail)
    refine HO_two (i := 6) (j := 11) (l1 := [11, 12, 13, 14]) (l2 := [6, 12, 13, 14]) (by decide +kernel) rfl ⟨by decide +kernel, rfl, rfl⟩ ⟨by decide +kernel, rfl, rfl⟩ ?_ ?_
    ·repeat' (first | refine SX ?_ | (refine KC ?_; refine HO_callq rfl rfl rfl rfl (size_t four) (fun _ _ => rfl) (trivial) rfl rfl sqA ?_) | (refine KC ?_; refine HO_call rfl rfl rfl rfl (bytes_t (szF four) hz.1 hz.2 sA ns.length sc ns rfl (by omega) hfs) rfl (srcsA) rfl rfl soA ?_; intro ⟨yA, yc⟩ hx; dsimp only [lca, lna]) | refine SB ?_ | (refine S2 ?_; intro _) | fail)
     rename_i b0 b1 b3
     (refine KC ?_; refine HO_call rfl rfl rfl rfl (concat_t (some ⟨b3, 0, none⟩) 3 3 [⟨xA, xc, pathB (szF four) (spl (l.take j))⟩, ⟨some ⟨b1, 0, none⟩, 2, [1, UInt8.ofNat ns.length]⟩, ⟨yA, yc, nb (szF four) ns⟩] rfl (by simp) (by rw [e]; omega)) rfl (srcsA) rfl rfl soA ?_; intro ⟨vA, vc⟩ hy; dsimp only [lca, lna])
     repeat' (first | refine SX ?_ | refine SB ?_ | (refine S2 ?_; intro _) | fail)
     refine HX_unsee ?_
     rw [e]
     refine HX_keeps (Keeps.skip (Keeps.cons Ent.rfl_ Keeps.nil)) ?_
     exact HX_at (j + 1, (vA, vc)) ⟨hlt, by simp only; omega⟩ ⟨rfl, rfl, rfl, rfl, rfl, trivial⟩ rfl
    ·repeat' (first | refine SX ?_ | (refine KC ?_; refine HO_callq rfl rfl rfl rfl (size_t four) (fun _ _ => rfl) (trivial) rfl rfl sqA ?_) | (refine KC ?_; refine HO_call rfl rfl rfl rfl (bytes_t (szF four) hz.1 hz.2 sA ns.length sc ns rfl (by omega) hfs) rfl (srcsA) rfl rfl soA ?_; intro ⟨yA, yc⟩ hx; dsimp only [lca, lna]) | refine SB ?_ | (refine S2 ?_; intro _) | fail)
     rename_i b0 b1 b3
     (refine KC ?_; refine HO_call rfl rfl rfl rfl (concat_t (some ⟨b3, 0, none⟩) 3 3 [⟨xA, xc, pathB (szF four) (spl (l.take j))⟩, ⟨some ⟨b1, 0, none⟩, 2, [1, UInt8.ofNat ns.length]⟩, ⟨yA, yc, nb (szF four) ns⟩] rfl (by simp) (by rw [e]; omega)) rfl (srcsA) rfl rfl soA ?_; intro ⟨vA, vc⟩ hy; dsimp only [lca, lna])
     repeat' (first | refine SX ?_ | refine SB ?_ | (refine S2 ?_; intro _) | fail)
     refine HX_unsee ?_
     rw [e]
     refine HX_keeps (Keeps.skip (Keeps.cons Ent.rfl_ Keeps.nil)) ?_
     exact HX_at (j + 1, (vA, vc)) ⟨hlt, by simp only; omega⟩ ⟨rfl, rfl, rfl, rfl, rfl, trivial⟩ rfl
 ·obtain rfl : j = l.length := by omega
  rw [List.take_length]
  repeat' (first | refine SX ?_ | refine SB ?_ | (refine S2 ?_; intro _) | fail)
  (refine SRt ?_; unfold RetQ; refine ⟨(xA, xc), trivial, rfl, Keeps.refl⟩)
def AttS.pa (a : AttS) : PA := ⟨a.org, spl a.path, a.nxt, a.med, a.pref, a.comms⟩
theorem ok_pa (four : Bool) (a : AttS) : attOk four a = okP (szF four) a.pa := by
 unfold attOk okP AttS.pa spl
 simp only [List.length_map, List.any_map]
 rfl
theorem attB_len (f k : Nat) (d : List UInt8) : (attB f k d).length ≤ d.length + 4 := by
 unfold attB
 split <;> simp [be_length] <;> omega
theorem fits4 {n : Int} (h : 0 ≤ n ∧ n ≤ 4294967295) : ∀ x ∈ [n], fitsB 4 x = true := fun x hx => by
 simp at hx
 subst hx
 simp only [fitsB, Bool.and_eq_true, decide_eq_true_eq]
 omega
theorem nb_one' (w : Nat) (n : Int) : nb w [n] = be w n.toNat := by simp [nb]
theorem aput_bad (a : AttS) (four : Bool) (h : attOk four a = false) (h1 : a.path.length ≤ 1000000) (h2 : a.comms.length ≤ 1000000) (h3 : ∀ s ∈ a.path, s.ns.length ≤ 1000000) :
  Tri Tryz.prog 148 [.agg a.e.toArray, .bool four] a.ro [] (fun _ : Unit => True) (fun _ => .tuple #[.slice none 0 0, .int .i64 50]) (fun _ => []) := by
 have hc := acheck_t a four h1 h2 h3
 rw [h] at hc
 refine Tri_in Tryz.func148 rfl (fun w0 S0 => ?_)
 dsimp only [AttS.ro]
 repeat' (first | refine SD ?_ | (refine KC ?_; refine HO_callq rfl rfl rfl rfl (hc) (fun _ _ => rfl) (srcsA) rfl rfl sqA ?_) | refine SB ?_ | (refine S2 ?_; intro _) | fail)
 (refine SRt ?_; refine RU ?_)
 rfl
theorem aput_t (a : AttS) (four : Bool) (h : attOk four a = true) (hn : 0 ≤ a.nxt ∧ a.nxt ≤ 4294967295) :
  Tri Tryz.prog 148 [.agg a.e.toArray, .bool four] a.ro [] (fun _ : OA => True) (fun x => .tuple #[.slice x.1 (putB (szF four) a.pa).length x.2, .int .i64 0]) (fun x => [ownB x (putB (szF four) a.pa)]) := by
 have hok := okP_of hn (by rw [← ok_pa]; exact h)
 have h4 := (szF_bd four).2
 have hpl := pathB_len (szF four) h4 a.pa.path hok.s
 have hl8 := hok.l
 have hc32 := hok.c
 have hsl : ∀ s ∈ a.path, s.ns.length ≤ 64 ∧ ∀ x ∈ s.ns, fitsB (szF four) x = true := fun s hs => by
  have := hok.s (s.set, s.ns) (List.mem_map.2 ⟨s, hs, rfl⟩)
  simp only [okSeg, Bool.and_eq_true, decide_eq_true_eq] at this
  exact ⟨this.1.2, any_not this.2⟩
 have hc := acheck_t a four (by simp [AttS.pa, spl] at hl8; omega) (by simp [AttS.pa] at hc32; omega) (fun s hs => by have := (hsl s hs).1; omega)
 rw [h] at hc
 obtain ⟨org, pA, pc, path, nxt, med, pref, cA, cc, comms⟩ := a
 simp only [AttS.pa] at hpl hl8 hc32 hok ⊢
 dsimp only at hn hsl
 have ho := hok.o
 have hm := hok.m
 have hf := hok.f
 dsimp only at ho hm hf
 obtain ⟨o, rfl⟩ : ∃ o : Nat, org = o := ⟨org.toNat, by omega⟩
 obtain ⟨o8, rfl⟩ : ∃ u : UInt8, o = u.toNat := ⟨UInt8.ofNat o, by simp; omega⟩
 obtain ⟨nx, rfl⟩ : ∃ o : Nat, nxt = o := ⟨nxt.toNat, by omega⟩
 have hsp : (spl path).length = path.length := by simp [spl]
 have hpi := path_i four pA path.length pc path rfl (by omega) hsl (by omega)
 refine Tri_in Tryz.func148 rfl (fun w0 S0 => ?_)
 dsimp only [AttS.ro, AttS.e]
 repeat' (first | refine SX ?_ | (refine KC ?_; refine HO_callq rfl rfl rfl rfl (hc) (fun _ _ => rfl) (srcsA) rfl rfl sqA ?_) | refine SB ?_ | (refine S2 ?_; intro _) | (intro hb; try replace hb := simB hb; try exact kill hb))
 rename_i ba bw br
 refine HO_nil (T := 5) (sz := 1) ?_
 refine HO_mv 2 rfl rfl ?_
 have hb1 := attB_len 64 1 [o8]
 have hb2 := attB_len 64 2 (pathB (szF four) (spl path))
 have hb3 := attB_len 64 3 (be 4 nx)
 have hbe := be_length 4 nx
 simp only [List.length_cons, List.length_nil] at hb1
 (refine KC ?_; refine HO_call rfl rfl rfl rfl (add_t bw none 0 [] 64 1 (by decide) (some ⟨br, 0, none⟩) 1 [o8] (by simp) (by simp)) rfl (srcsA) rfl rfl soA ?_; intro ⟨x1, c1⟩ h1; dsimp only [lca, lna])
 repeat' (first | refine SX ?_ | (refine KC ?_; refine HO_call rfl rfl rfl rfl (hpi) rfl (srcsA) rfl rfl soA ?_; intro ⟨yA, yc⟩ hy; dsimp only [lca, lna]) | refine SB ?_ | (refine S2 ?_; intro _) | (intro hb; try replace hb := simB hb; try exact kill hb))
 (refine KC ?_; refine HO_mv 2 rfl rfl ?_; refine HO_mv 2 rfl rfl ?_; refine HO_call rfl rfl rfl rfl (add_t bw x1 c1 (attB 64 1 [o8]) 64 2 (by decide) yA yc (pathB (szF four) (spl path)) (by omega) (by omega)) rfl (srcsA) rfl rfl soA ?_; intro ⟨x2, c2⟩ h2; dsimp only [lca, lna])
 repeat' (first | refine SX ?_ | (refine KC ?_; refine HO_call rfl rfl rfl rfl (bytes_t 4 (by decide) (by decide) _ 1 _ [(nx : Int)] rfl (by simp) (fits_len (by omega))) rfl (srcsA) rfl rfl soA ?_; intro ⟨zA, zc⟩ hz; dsimp only [lca, lna]) | refine SB ?_ | (refine S2 ?_; intro _) | (intro hb; try replace hb := simB hb; try exact kill hb))
 (refine KC ?_; refine HO_mv 3 rfl rfl ?_; refine HO_mv 3 rfl rfl ?_; refine HO_call rfl rfl rfl rfl (add_t bw x2 c2 (attB 64 1 [o8] ++ attB 64 2 (pathB (szF four) (spl path))) 64 3 (by decide) zA zc (nb 4 [(nx : Int)]) (by rw [nb_one]; omega) (by rw [List.length_append]; omega)) rfl (srcsA) rfl rfl soA ?_; intro ⟨x3, c3⟩ h3; dsimp only [lca, lna])
 rw [nb_one]
 obtain ⟨l3, hl3⟩ : ∃ l, l = (attB 64 1 [o8] ++ attB 64 2 (pathB (szF four) (spl path)) ++ attB 64 3 (be 4 nx)) := ⟨_, rfl⟩
 have hb3' : l3.length ≤ 3000 := by rw [hl3, List.length_append, List.length_append]; omega
 rw [← hl3]
 repeat' (first | refine SW ?_ | refine SB ?_ | (refine S2 ?_; intro _) | (intro hb; try replace hb := simB hb; try exact kill hb))

 refine HC_cutP (α := OA) (fun _ => True) (fun _ => [(7, pt bw), (2, pt ba)]) (fun x => [cel bw TW [.slice x.1 (l3 ++ medB med).length x.2], ownB x (l3 ++ medB med), cel ba 53 [.int .i64 o8.toNat, .slice pA path.length pc, .int .u32 nx, .int .i64 med, .int .i64 pref, .slice cA comms.length cc]]) ?_ ?_
 ·refine HC_cond rfl rfl (fun hb => ?_) (fun hb => ?_)
  ·replace hb := simB hb
   have hd : (nb 4 [med]).length ≤ 65535 := by rw [nb_one']; simp [be_length]
   repeat' (first | refine SX ?_ | (refine KC ?_; refine HO_call rfl rfl rfl rfl (bytes_t 4 (by decide) (by decide) _ 1 _ [med] rfl (by simp) (fits4 (by omega))) rfl (srcsA) rfl rfl soA ?_; intro ⟨zA, zc⟩ hz; dsimp only [lca, lna]) | refine SB ?_ | (refine S2 ?_; intro _) | (intro hb; try replace hb := simB hb; try exact kill hb))
   (refine KC ?_; refine HO_mv 3 rfl rfl ?_; refine HO_mv 3 rfl rfl ?_; refine HO_call rfl rfl rfl rfl (add_t bw _ _ l3 128 4 (by decide) zA zc (nb 4 [med]) hd (by omega)) rfl (srcsA) rfl rfl soA ?_; intro ⟨x4, c4⟩ h4'; dsimp only [lca, lna])
   repeat' (first | refine SW ?_ | refine SB ?_ | (refine S2 ?_; intro _) | (intro hb; try replace hb := simB hb; try exact kill hb))
   have e : l3 ++ attB 128 4 (nb 4 [med]) = l3 ++ medB med := by unfold medB; rw [if_pos hb, nb_one']
   rw [e]
   refine HX_keeps (rw' := [cel bw TW [.slice _ (l3 ++ medB med).length _], ownB (_, _) (l3 ++ medB med), cel ba 53 [.int .i64 o8.toNat, .slice pA path.length pc, .int .u32 nx, .int .i64 med, .int .i64 pref, .slice cA comms.length cc]]) keepsA ?_
   exact HX_at (x4, c4) trivial ⟨rfl, rfl, trivial⟩ rfl
  ·replace hb := simB hb
   repeat' (first | refine SW ?_ | refine SB ?_ | (refine S2 ?_; intro _) | (intro hb; try replace hb := simB hb; try exact kill hb))
   have e : l3 ++ medB med = l3 := by unfold medB; rw [if_neg (by omega), List.append_nil]
   refine HX_keeps (rw' := [cel bw TW [.slice _ l3.length _], ownB (_, _) l3, cel ba 53 [.int .i64 o8.toNat, .slice pA path.length pc, .int .u32 nx, .int .i64 med, .int .i64 pref, .slice cA comms.length cc]]) keepsA ?_
   refine HX_at (x3, c3) trivial ⟨rfl, rfl, trivial⟩ ?_
   rw [e]
 intro ⟨xA, xc⟩ _
 obtain ⟨l4, hl4⟩ : ∃ l, l = l3 ++ medB med := ⟨_, rfl⟩
 have hbl4 : l4.length ≤ 3100 := by
  rw [hl4, List.length_append]
  unfold medB
  have := attB_len 128 4 (nb 4 [med])
  rw [nb_one'] at this
  split
  ·simp only [be_length] at this; omega
  ·simp; omega
 rw [← hl4]
 dsimp only
 repeat' (first | refine SW ?_ | refine SB ?_ | (refine S2 ?_; intro _) | (intro hb; try replace hb := simB hb; try exact kill hb))
 refine HC_cutP (α := OA) (fun _ => True) (fun _ => [(7, pt bw), (2, pt ba)]) (fun x => [cel bw TW [.slice x.1 (l4 ++ prefB pref).length x.2], ownB x (l4 ++ prefB pref), cel ba 53 [.int .i64 o8.toNat, .slice pA path.length pc, .int .u32 nx, .int .i64 med, .int .i64 pref, .slice cA comms.length cc]]) ?_ ?_
 ·refine HC_cond rfl rfl (fun hb => ?_) (fun hb => ?_)
  ·replace hb := simB hb
   have hd : (nb 4 [pref]).length ≤ 65535 := by rw [nb_one']; simp [be_length]
   repeat' (first | refine SX ?_ | (refine KC ?_; refine HO_call rfl rfl rfl rfl (bytes_t 4 (by decide) (by decide) _ 1 _ [pref] rfl (by simp) (fits4 (by omega))) rfl (srcsA) rfl rfl soA ?_; intro ⟨zA, zc⟩ hz; dsimp only [lca, lna]) | refine SB ?_ | (refine S2 ?_; intro _) | (intro hb; try replace hb := simB hb; try exact kill hb))
   (refine KC ?_; refine HO_mv 3 rfl rfl ?_; refine HO_mv 3 rfl rfl ?_; refine HO_call rfl rfl rfl rfl (add_t bw _ _ l4 64 5 (by decide) zA zc (nb 4 [pref]) hd (by omega)) rfl (srcsA) rfl rfl soA ?_; intro ⟨x4, c4⟩ h4'; dsimp only [lca, lna])
   repeat' (first | refine SW ?_ | refine SB ?_ | (refine S2 ?_; intro _) | (intro hb; try replace hb := simB hb; try exact kill hb))
   have e : l4 ++ attB 64 5 (nb 4 [pref]) = l4 ++ prefB pref := by unfold prefB; rw [if_pos hb, nb_one']
   rw [e]
   refine HX_keeps (rw' := [cel bw TW [.slice _ (l4 ++ prefB pref).length _], ownB (_, _) (l4 ++ prefB pref), cel ba 53 [.int .i64 o8.toNat, .slice pA path.length pc, .int .u32 nx, .int .i64 med, .int .i64 pref, .slice cA comms.length cc]]) keepsA ?_
   exact HX_at (x4, c4) trivial ⟨rfl, rfl, trivial⟩ rfl
  ·replace hb := simB hb
   repeat' (first | refine SW ?_ | refine SB ?_ | (refine S2 ?_; intro _) | (intro hb; try replace hb := simB hb; try exact kill hb))
   have e : l4 ++ prefB pref = l4 := by unfold prefB; rw [if_neg (by omega), List.append_nil]
   refine HX_keeps (rw' := [cel bw TW [.slice _ l4.length _], ownB (_, _) l4, cel ba 53 [.int .i64 o8.toNat, .slice pA path.length pc, .int .u32 nx, .int .i64 med, .int .i64 pref, .slice cA comms.length cc]]) keepsA ?_
   refine HX_at (xA, xc) trivial ⟨rfl, rfl, trivial⟩ ?_
   rw [e]
 intro ⟨xA, xc⟩ _
 obtain ⟨l5, hl5⟩ : ∃ l, l = l4 ++ prefB pref := ⟨_, rfl⟩
 have hbl5 : l5.length ≤ 3200 := by
  rw [hl5, List.length_append]
  unfold prefB
  have := attB_len 64 5 (nb 4 [pref])
  rw [nb_one'] at this
  split
  ·simp only [be_length] at this; omega
  ·simp; omega
 rw [← hl5]
 dsimp only
 repeat' (first | refine SW ?_ | refine SB ?_ | (refine S2 ?_; intro _) | (intro hb; try replace hb := simB hb; try exact kill hb))
 refine HC_cutP (α := OA) (fun _ => True) (fun _ => [(7, pt bw), (2, pt ba)]) (fun x => [cel bw TW [.slice x.1 (l5 ++ commB comms).length x.2], ownB x (l5 ++ commB comms), cel ba 53 [.int .i64 o8.toNat, .slice pA path.length pc, .int .u32 nx, .int .i64 med, .int .i64 pref, .slice cA comms.length cc]]) ?_ ?_
 ·refine HC_cond rfl rfl (fun hb => ?_) (fun hb => ?_)
  ·replace hb := simB hb
   have hd : (nb 4 comms).length ≤ 65535 := by simp only [nb_length]; omega
   repeat' (first | refine SX ?_ | (refine KC ?_; refine HO_call rfl rfl rfl rfl (bytes_t 4 (by decide) (by decide) cA comms.length cc comms rfl (by omega) hok.cs) rfl (srcsA) rfl rfl soA ?_; intro ⟨zA, zc⟩ hz; dsimp only [lca, lna]) | refine SB ?_ | (refine S2 ?_; intro _) | (intro hb; try replace hb := simB hb; try exact kill hb))
   (refine KC ?_; refine HO_mv 2 rfl rfl ?_; refine HO_mv 2 rfl rfl ?_; refine HO_call rfl rfl rfl rfl (add_t bw _ _ l5 192 8 (by decide) zA zc (nb 4 comms) hd (by omega)) rfl (srcsA) rfl rfl soA ?_; intro ⟨x4, c4⟩ h4'; dsimp only [lca, lna])
   repeat' (first | refine SW ?_ | refine SB ?_ | (refine S2 ?_; intro _) | (intro hb; try replace hb := simB hb; try exact kill hb))
   have e : l5 ++ attB 192 8 (nb 4 comms) = l5 ++ commB comms := by unfold commB; rw [if_pos (by omega)]
   rw [e]
   refine HX_keeps (rw' := [cel bw TW [.slice _ (l5 ++ commB comms).length _], ownB (_, _) (l5 ++ commB comms), cel ba 53 [.int .i64 o8.toNat, .slice pA path.length pc, .int .u32 nx, .int .i64 med, .int .i64 pref, .slice cA comms.length cc]]) keepsA ?_
   exact HX_at (x4, c4) trivial ⟨rfl, rfl, trivial⟩ rfl
  ·replace hb := simB hb
   repeat' (first | refine SW ?_ | refine SB ?_ | (refine S2 ?_; intro _) | (intro hb; try replace hb := simB hb; try exact kill hb))
   have e : l5 ++ commB comms = l5 := by unfold commB; rw [if_neg (by omega), List.append_nil]
   refine HX_keeps (rw' := [cel bw TW [.slice _ l5.length _], ownB (_, _) l5, cel ba 53 [.int .i64 o8.toNat, .slice pA path.length pc, .int .u32 nx, .int .i64 med, .int .i64 pref, .slice cA comms.length cc]]) keepsA ?_
   refine HX_at (xA, xc) trivial ⟨rfl, rfl, trivial⟩ ?_
   rw [e]
 intro ⟨xA, xc⟩ _
 obtain ⟨l6, hl6⟩ : ∃ l, l = l5 ++ commB comms := ⟨_, rfl⟩
 have hbl6 : l6.length ≤ 4000 := by
  rw [hl6, List.length_append]
  unfold commB
  have := attB_len 192 8 (nb 4 comms)
  split
  ·simp only [be_length, nb_length] at this; omega
  ·simp; omega
 rw [← hl6]
 dsimp only
 repeat' (first | refine SW ?_ | refine SB ?_ | (refine S2 ?_; intro _) | (intro hb; try replace hb := simB hb; try exact kill hb))
 have hfin : putB (szF four) ⟨o8.toNat, spl path, nx, med, pref, comms⟩ = l6 := by
  have e1 : UInt8.ofNat (Int.toNat (o8.toNat : Int)) = o8 := by simp
  have e2 : Int.toNat (nx : Int) = nx := by simp
  unfold putB
  rw [hl6, hl5, hl4, hl3, e1, e2]
 rw [hfin]
 (refine SRt ?_; unfold RetQ; refine ⟨(xA, xc), trivial, rfl, Keeps.skip (Keeps.cons Ent.rfl_ Keeps.nil)⟩)
end Go.Proofs.YteeogabkkblkgaaGreatDoor
