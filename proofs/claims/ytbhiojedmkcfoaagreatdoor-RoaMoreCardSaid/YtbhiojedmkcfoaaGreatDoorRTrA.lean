/- Part of a proof of many texts: what the theorem at its end leans on. -/
import Derived.Test.YtbhiojedmkcfoaaGreatDoorRTrP
import Derived.Test.YtbhiojedmkcfoaaGreatDoorRAdT
namespace Go.Proofs.YtbhiojedmkcfoaaGreatDoor
set_option linter.unusedVariables false
set_option linter.unusedSimpArgs false
open Go.RowKit
attribute [local irreducible] HC HX HO Tri eP adr
section
variable {P : Program} {N : Nat} {w0 : World} {S0 : Foot} {c : Code} {env : Env} {ro rw rw' : List SL} {Q : Exit → Act → World → Prop}
theorem HC_addR {e0 e : SL} (k : Nat) (hk : ro[k]? = some e0) (he : Ent e0 e) (h : HC P N w0 S0 c env (e :: ro) rw Q) : HC P N w0 S0 c env ro rw Q := by
 unfold HC at h ⊢
 exact fun a S w ha hf => h a S w ha ⟨hf.fr, hf.lt, hf.sub, hf.star, fun f hm => by
  cases hm with
  | head =>
   obtain ⟨F, hF, hp⟩ := hf.ros e0 (List.mem_of_getElem? hk)
   exact ⟨F, hF, he _ _ hp⟩
  | tail _ hm => exact hf.ros f hm⟩
theorem HX_dropR {e : SL} {x : Exit} (h : HX N w0 S0 x env ro rw Q) : HX N w0 S0 x env (e :: ro) rw Q := by
 unfold HX at h ⊢
 exact fun a S w ha hf => h a S w ha ⟨hf.fr, hf.lt, hf.sub, hf.star, fun f hm => hf.ros f (.tail _ hm)⟩
end
theorem inn_cel {b : Nat} {T : TypeId} {cs : List Value} {L : List SL} (h : cel b T cs ∈ L) : Ent (inn L) (cel b T cs) := fun S w hp => by
 obtain ⟨F, hF, h1, h2⟩ := hp _ h
 exact ⟨hF _ h1, h2⟩
theorem root_nd {α : Type} (b : Nat) (x : α) (l r : Tre α) : (Tre.nd b x l r).root = some ⟨b, 0, none⟩ := rfl
theorem root_nil {α : Type} : (Tre.nil : Tre α).root = none := rfl
structure RoQ where
 a : Nat
 n : Int
 mx : Int
 asn : Int
 deriving DecidableEq
def RoQ.e (x : RoQ) : List Value := [.int .u32 x.a, .int .i64 x.n, .int .i64 x.mx, .int .i64 x.asn]
instance : EncOk RoQ.e 4 := ⟨fun _ => ⟨rfl, rfl⟩⟩
structure RoN where
 A : Option Addr
 c : Nat
 xs : List RoQ
 is : Bool
def RoN.e (x : RoN) : List Value := [.slice x.A x.xs.length x.c, .bool x.is]
def RoN.ow (x : RoN) : List SL := [own idE 73 4 x.A x.xs.length x.c (x.xs.map RoQ.e)]
def ron0 : RoN := ⟨none, 0, [], false⟩
@[reducible] def TNd : Nat := 224
@[reducible] def TTr : Nat := 226
def Tre.pc (t : Tre RoN) : List SL := t.ps TNd RoN.e RoN.ow
theorem pc_nd (b : Nat) (x : RoN) (l r : Tre RoN) : (Tre.nd b x l r).pc = cel b TNd [.pointer l.root, .pointer r.root, .slice x.A x.xs.length x.c, .bool x.is] :: (own idE 73 4 x.A x.xs.length x.c (x.xs.map RoQ.e) :: (l.pc ++ r.pc)) := rfl
def bitsP (a n : Nat) : List Bool := (List.range n).map fun i : Nat => decide (bitN a (i : Int) = 1)
theorem bitsP_len (a n : Nat) : (bitsP a n).length = n := by simp [bitsP]
theorem bitsP_take (a n i : Nat) (h : i < n) : (bitsP a n).take (i + 1) = (bitsP a n).take i ++ [decide (bitN a i = 1)] := by
 rw [List.take_add_one, show (bitsP a n)[i]? = some (decide (bitN a i = 1)) by simp [bitsP, h]]
 rfl
theorem bitN_01 (a : Nat) (i : Int) : bitN a i = 0 ∨ bitN a i = 1 := by
 unfold bitN
 split
 ·exact .inl rfl
 ·omega
theorem sub_in {t : Tre RoN} : ∀ (bs : List Bool) (s : Tre RoN), t.sub bs = s → ∀ e ∈ s.pc, e ∈ t.pc := by
 intro bs
 induction bs generalizing t with
 | nil =>
  intro s h e he
  subst h
  exact he
 | cons i bs ih =>
  intro s h e he
  have := ih (t := t.kid i) s h e he
  cases t with
  | nil => exact this
  | nd b x l r =>
   rw [pc_nd]
   refine .tail _ (.tail _ (List.mem_append.2 ?_))
   cases i with
   | false => exact .inl this
   | true => exact .inr this
theorem tmade_t (tb b : Nat) (x : RoN) (l r : Tre RoN) (k : Int) : Tri Tryz.prog 150 [pt tb] [cel tb TTr [.pointer (Tre.nd b x l r).root, .int .i64 k]] [] (fun _ : Unit => True) (fun _ => .bool true) (fun _ => []) := by
 dsimp only [Tre.root]
 refine Tri_of (N := Tryz.f150.ntmps) (c := bodyOf Tryz.f150) Tryz.func150 rfl rfl rfl rfl (fun w0 S0 => ?_)
 repeat' (first | refine SW ?_ | refine SD ?_ | exact HO_seg rfl rfl | refine S1 ?_ | (refine S2 ?_; intro _) | (refine S3 ?_; intro _ _) | (refine S4 ?_; intro _ _ _) | (refine HO_g 2 rfl ?_; first | apply HO_a1 rfl | apply HO_o1 rfl) | refine S5 ?_ | (intro hb; try replace hb := simB hb; try exact kill hb))
 (refine SRt ?_; unfold RetQ; refine ⟨(), trivial, ?_, Keeps.nil⟩)
 rfl
theorem tnew_t : Tri Tryz.prog 92 [] [] [] (fun _ : Nat × Nat => True) (fun z => pt z.1) (fun z => [cel z.1 TTr [pt z.2, .int .i64 0], cel z.2 TNd [.pointer none, .pointer none, .slice none 0 0, .bool false]]) := by
 refine Tri_of (N := Tryz.f92.ntmps) (c := bodyOf Tryz.f92) Tryz.func92 rfl rfl rfl rfl (fun w0 S0 => ?_)
 repeat' (first | refine SW ?_ | refine SD ?_ | exact HO_seg rfl rfl | refine S1 ?_ | (refine S2 ?_; intro _) | (refine S3 ?_; intro _ _) | (refine S4 ?_; intro _ _ _) | (refine HO_g 2 rfl ?_; first | apply HO_a1 rfl | apply HO_o1 rfl) | refine S5 ?_ | (intro hb; try replace hb := simB hb; try exact kill hb))
 rename_i b1 b2
 (refine SRt ?_; unfold RetQ; refine ⟨(b2, b1), trivial, rfl, permA⟩)
set_option maxHeartbeats 1000000000 in
theorem tfind_t (tb b : Nat) (x : RoN) (l r : Tre RoN) (k : Int) (a : Nat) (ha : a < 4294967296) (n : Nat) (hok : okX a n = true) :
  Tri Tryz.prog 149 [pt tb, pfV a n] [cel tb TTr [.pointer (Tre.nd b x l r).root, .int .i64 k], inn (Tre.nd b x l r).pc] [] (fun _ : Unit => True) (fun _ => .pointer ((Tre.nd b x l r).sub (bitsP a n)).root) (fun _ => []) := by
 have c1 := tmade_t tb b x l r k
 have c2 := addrCheck_t a ha n
 rw [hok] at c2
 simp only [if_true] at c2
 have hn : n ≤ 32 := by
  unfold okX at hok
  have h1 := (of_decide_eq_true hok).2
  have h2 := clN_le (n : Int)
  omega
 obtain ⟨t, ht⟩ : ∃ t, Tre.nd b x l r = t := ⟨_, rfl⟩
 have hroot : t.root = some ⟨b, 0, none⟩ := by rw [← ht]; rfl
 rw [ht, hroot] at c1 ⊢
 clear ht x l r
 unfold pfV at c2 ⊢
 refine Tri_of (N := Tryz.f149.ntmps) (c := bodyOf Tryz.f149) Tryz.func149 rfl rfl rfl rfl (fun w0 S0 => ?_)
 repeat' (first | refine SW ?_ | ((refine HO_g 2 rfl ?_); (refine HO_skip rfl rfl rfl rfl rdA ?_)) | refine SD ?_ | (refine HO_k 12 rfl ?_; refine HO_callq rfl rfl rfl rfl (c1) (fun _ _ => rfl) (srcsA) rfl rfl sqA ?_) | (refine HO_k 12 rfl ?_; refine HO_callq rfl rfl rfl rfl (c2) (fun _ _ => rfl) (trivial) rfl rfl sqA ?_) | exact HO_seg rfl rfl | refine S1 ?_ | (refine S2 ?_; intro _) | (refine S3 ?_; intro _ _) | (refine S4 ?_; intro _ _ _) | (refine HO_g 2 rfl ?_; first | apply HO_a1 rfl | apply HO_o1 rfl) | refine S5 ?_ | (intro hb; try replace hb := simB hb; try exact kill hb))
 rename_i b3
 refine HC_loop (α := Nat) (fun i => i ≤ n) (fun i => [(6, .int .i64 i), (5, .pointer (t.sub ((bitsP a n).take i)).root), (3, pt b3)]) (fun _ => [cel b3 49 [.int .u32 a, .int .i64 n]]) (fun i => n - i) rfl 0 (Nat.zero_le _) ⟨rfl, by rw [← hroot]; rfl, rfl, trivial⟩ rfl ?_
 intro i hi
 try dsimp only at hi ⊢
 cases hcur : t.sub ((bitsP a n).take i) with
 | nil =>
  have he : t.sub (bitsP a n) = .nil := by
   rw [← List.take_append_drop i (bitsP a n), Tre.sub_app, hcur, Tre.sub_nil]
  rw [he]
  dsimp only [Tre.root]
  by_cases hlt : i < n
  ·repeat' (first | refine SW ?_ | ((refine HO_g 2 rfl ?_); (refine HO_skip rfl rfl rfl rfl rdA ?_)) | refine SD ?_ | exact HO_seg rfl rfl | refine S1 ?_ | (refine S2 ?_; intro _) | (refine S3 ?_; intro _ _) | (refine S4 ?_; intro _ _ _) | (refine HO_g 2 rfl ?_; first | apply HO_a1 rfl | apply HO_o1 rfl) | refine S5 ?_ | (intro hb; try replace hb := simB hb; try exact kill hb))
   (refine SRt ?_; unfold RetQ; refine ⟨(), trivial, ?_, Keeps.nil⟩)
   rfl
  ·obtain rfl : i = n := by omega
   repeat' (first | refine SW ?_ | ((refine HO_g 2 rfl ?_); (refine HO_skip rfl rfl rfl rfl rdA ?_)) | refine SD ?_ | exact HO_seg rfl rfl | refine S1 ?_ | (refine S2 ?_; intro _) | (refine S3 ?_; intro _ _) | (refine S4 ?_; intro _ _ _) | (refine HO_g 2 rfl ?_; first | apply HO_a1 rfl | apply HO_o1 rfl) | refine S5 ?_ | (intro hb; try replace hb := simB hb; try exact kill hb))
   (refine SRt ?_; unfold RetQ; refine ⟨(), trivial, ?_, Keeps.nil⟩)
   rfl
 | nd cb cx cl cr =>
  dsimp only [Tre.root]
  by_cases hlt : i < n
  ·have hsub : t.sub ((bitsP a n).take (i + 1)) = (Tre.nd cb cx cl cr).kid (decide (bitN a i = 1)) := by
    rw [bitsP_take a n i hlt, Tre.sub_app, hcur]
    rfl
   have c3 := abit_t a ha i
   refine HC_addR (e := cel cb TNd [.pointer cl.root, .pointer cr.root, .slice cx.A cx.xs.length cx.c, .bool cx.is]) 1 rfl (inn_cel (sub_in _ _ hcur _ (by rw [pc_nd]; exact .head _))) ?_
   rcases bitN_01 a i with hb | hb
   ·rw [hb] at c3 hsub
    repeat' (first | refine SW ?_ | ((refine HO_g 2 rfl ?_); (refine HO_skip rfl rfl rfl rfl rdA ?_)) | refine SD ?_ | (refine HO_k 12 rfl ?_; refine HO_callq rfl rfl rfl rfl (c3) (fun _ _ => rfl) (trivial) rfl rfl sqA ?_) | (refine HO_k 10 rfl ?_; refine HO_ixa (j := 0) rfl rfl rfl rfl (by decide) rfl rfl rdA ?_) | exact HO_seg rfl rfl | refine S1 ?_ | (refine S2 ?_; intro _) | (refine S3 ?_; intro _ _) | (refine S4 ?_; intro _ _ _) | (refine HO_g 2 rfl ?_; first | apply HO_a1 rfl | apply HO_o1 rfl) | refine S5 ?_ | (intro hb; try replace hb := simB hb; try exact kill hb))
    refine HX_dropR ?_
    exact HX_at (i + 1) ⟨hlt, by show n - (i + 1) < n - i; omega⟩ ⟨rfl, by rw [hsub]; rfl, rfl, trivial⟩ rfl
   ·rw [hb] at c3 hsub
    repeat' (first | refine SW ?_ | ((refine HO_g 2 rfl ?_); (refine HO_skip rfl rfl rfl rfl rdA ?_)) | refine SD ?_ | (refine HO_k 12 rfl ?_; refine HO_callq rfl rfl rfl rfl (c3) (fun _ _ => rfl) (trivial) rfl rfl sqA ?_) | (refine HO_k 10 rfl ?_; refine HO_ixa (j := 1) rfl rfl rfl rfl (by decide) rfl rfl rdA ?_) | exact HO_seg rfl rfl | refine S1 ?_ | (refine S2 ?_; intro _) | (refine S3 ?_; intro _ _) | (refine S4 ?_; intro _ _ _) | (refine HO_g 2 rfl ?_; first | apply HO_a1 rfl | apply HO_o1 rfl) | refine S5 ?_ | (intro hb; try replace hb := simB hb; try exact kill hb))
    refine HX_dropR ?_
    exact HX_at (i + 1) ⟨hlt, by show n - (i + 1) < n - i; omega⟩ ⟨rfl, by rw [hsub]; rfl, rfl, trivial⟩ rfl
  ·obtain rfl : i = n := by omega
   have he : (bitsP a i).take i = bitsP a i := List.take_of_length_le (Nat.le_of_eq (bitsP_len a i))
   rw [he] at hcur
   rw [hcur]
   dsimp only [Tre.root]
   repeat' (first | refine SW ?_ | ((refine HO_g 2 rfl ?_); (refine HO_skip rfl rfl rfl rfl rdA ?_)) | refine SD ?_ | exact HO_seg rfl rfl | refine S1 ?_ | (refine S2 ?_; intro _) | (refine S3 ?_; intro _ _) | (refine S4 ?_; intro _ _ _) | (refine HO_g 2 rfl ?_; first | apply HO_a1 rfl | apply HO_o1 rfl) | refine S5 ?_ | (intro hb; try replace hb := simB hb; try exact kill hb))
   (refine SRt ?_; unfold RetQ; refine ⟨(), trivial, ?_, Keeps.nil⟩)
   rfl
end Go.Proofs.YtbhiojedmkcfoaaGreatDoor
