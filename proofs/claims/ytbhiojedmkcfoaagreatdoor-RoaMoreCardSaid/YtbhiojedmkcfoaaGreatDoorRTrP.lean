/- Part of a proof of many texts: what the theorem at its end leans on. -/
import Derived.Test.YtbhiojedmkcfoaaGreatDoorRSdK
namespace Go.Proofs.YtbhiojedmkcfoaaGreatDoor
set_option linter.unusedVariables false
set_option linter.unusedSimpArgs false
open Go.RowKit
def outn (L : List SL) : SL where
 p S w := Star L S w
 st S w w' h hp := Star.st h hp
theorem Star.perm_ {L L' : List SL} (h : L.Perm L') : ∀ {S : Foot} {w : World}, Star L S w → Star L' S w := by
 induction h with
 | nil => exact fun h => h
 | cons x _ ih => exact fun ⟨A, B, hA, hB, hd, hp, hs⟩ => ⟨A, B, hA, hB, hd, hp, ih hs⟩
 | swap x y l => exact fun ⟨A, B, hA, hB, hd, hp, C, D, hC, hD, hd2, hp2, hs⟩ =>
   ⟨C, fun b => A b ∨ D b, fun b h => hB b (hC b h), fun b h => h.elim (hA b) (fun h => hB b (hD b h)), fun b h1 h2 => h2.elim (fun h2 => hd b h2 (hC b h1)) (hd2 b h1), hp2,
    A, D, fun b h => .inl h, fun b h => .inr h, fun b h1 h2 => hd b h1 (hD b h2), hp, hs⟩
 | trans _ _ ih1 ih2 => exact fun h => ih2 (ih1 h)
theorem Keeps.perm {L L' : List SL} (h : L.Perm L') : Keeps L L' := fun S w hs => ⟨S, fun _ h => h, hs.perm_ h⟩
theorem Keeps.outn_open {L rw rw' : List SL} (h : Keeps (L ++ rw) rw') : Keeps (outn L :: rw) rw' := fun S w ⟨A, B, hA, hB, hd, hp, hs⟩ => h S w (Star.append hA hB hd hp hs)
theorem Keeps.outn_close {L rw rw' : List SL} (h : Keeps rw (L ++ rw')) : Keeps rw (outn L :: rw') := fun S w hs => by
 obtain ⟨T, h1, h2⟩ := h S w hs
 obtain ⟨A, B, hA, hB, hd, ha, hb⟩ := Star.split h2
 exact ⟨T, h1, A, B, hA, hB, hd, ha, hb⟩
theorem outn_mem : ∀ {L : List SL} {S : Foot} {w : World}, Star L S w → ∀ e ∈ L, ∃ F : Foot, (∀ b, F b → S b) ∧ e.p F w
 | f :: L, S, w, ⟨A, B, hA, hB, hd, hp, hs⟩, e, he => by
  cases he with
  | head => exact ⟨A, hA, hp⟩
  | tail _ he =>
   obtain ⟨F, hF, h⟩ := outn_mem hs e he
   exact ⟨F, fun b h => hB b (hF b h), h⟩
theorem outn_inn {L : List SL} : Ent (outn L) (inn L) := fun S w h e he => outn_mem h e he
theorem outn_nil : ∀ w, (outn []).p (fun _ => False) w := fun _ => trivial
inductive Tre (α : Type) where
 | nil
 | nd (b : Nat) (x : α) (l r : Tre α)
def Tre.root {α : Type} : Tre α → Option Addr
 | .nil => none
 | .nd b _ _ _ => some ⟨b, 0, none⟩
def Tre.kid {α : Type} (t : Tre α) (i : Bool) : Tre α := match t with
 | .nil => .nil
 | .nd _ _ l r => if i then r else l
def Tre.sub {α : Type} (t : Tre α) : List Bool → Tre α
 | [] => t
 | i :: bs => (t.kid i).sub bs
def Tre.val {α : Type} (z : α) : Tre α → α
 | .nil => z
 | .nd _ x _ _ => x
def Tre.look {α : Type} (z : α) (t : Tre α) (bs : List Bool) : α := (t.sub bs).val z
theorem Tre.sub_nil {α : Type} : ∀ bs : List Bool, (Tre.nil : Tre α).sub bs = .nil
 | [] => rfl
 | _ :: bs => Tre.sub_nil bs
theorem Tre.look_nil {α : Type} (z : α) (bs : List Bool) : (Tre.nil : Tre α).look z bs = z := by
 unfold Tre.look
 rw [Tre.sub_nil]
 rfl
theorem Tre.sub_app {α : Type} : ∀ (bs cs : List Bool) (t : Tre α), t.sub (bs ++ cs) = (t.sub bs).sub cs
 | [], _, _ => rfl
 | i :: bs, cs, t => Tre.sub_app bs cs (t.kid i)
def mkid {α : Type} (b : Nat) (x : α) (i : Bool) (t o : Tre α) : Tre α := if i then .nd b x o t else .nd b x t o
theorem mkid_kid {α : Type} (b : Nat) (x : α) (i j : Bool) (t o : Tre α) : (mkid b x i t o).kid j = if j = i then t else o := by
 cases i <;> cases j <;> rfl
structure Fra (α : Type) where
 b : Nat
 x : α
 i : Bool
 o : Tre α
def plug {α : Type} : List (Fra α) → Tre α → Tre α
 | [], t => t
 | f :: c, t => plug c (mkid f.b f.x f.i t f.o)
def wayOf {α : Type} : List (Fra α) → List Bool
 | [] => []
 | f :: c => wayOf c ++ [f.i]
theorem mkid_look {α : Type} (z : α) (b : Nat) (x : α) (i : Bool) (t o : Tre α) (bs : List Bool) : (mkid b x i t o).look z bs = match bs with
  | [] => x
  | j :: bs => if j = i then t.look z bs else o.look z bs := by
 cases bs with
 | nil => cases i <;> rfl
 | cons j bs =>
  show ((mkid b x i t o).kid j).look z bs = _
  rw [mkid_kid]
  by_cases h : j = i <;> simp [h]
theorem plug_congr {α : Type} (z : α) : ∀ (c : List (Fra α)) (t t' : Tre α), (∀ bs, t'.look z bs = t.look z bs) → ∀ bs, (plug c t').look z bs = (plug c t).look z bs
 | [], _, _, h, bs => h bs
 | f :: c, t, t', h, bs => plug_congr z c _ _ (fun bs => by
   rw [mkid_look, mkid_look]
   cases bs with
   | nil => rfl
   | cons j bs => simp only [h bs]) bs
theorem plug_set {α : Type} (z : α) (v : α) : ∀ (c : List (Fra α)) (t t' : Tre α) (ps : List Bool), (∀ bs, t'.look z bs = if bs = ps then v else t.look z bs) → ∀ bs, (plug c t').look z bs = if bs = wayOf c ++ ps then v else (plug c t).look z bs
 | [], _, _, ps, h, bs => h bs
 | f :: c, t, t', ps, h, bs => by
  have := plug_set z v c (mkid f.b f.x f.i t f.o) (mkid f.b f.x f.i t' f.o) (f.i :: ps) (fun bs => by
   rw [mkid_look, mkid_look]
   cases bs with
   | nil => rfl
   | cons j bs =>
    simp only [h bs]
    by_cases hj : j = f.i
    ·subst hj
     by_cases hb : bs = ps
     ·simp [hb]
     ·simp [hb]
    ·simp [hj]) bs
  show (plug c _).look z bs = if bs = (wayOf c ++ [f.i]) ++ ps then v else (plug c _).look z bs
  rw [this, List.append_assoc]
  rfl
theorem nd_set {α : Type} (z : α) (b : Nat) (x v : α) (l r : Tre α) (bs : List Bool) : (Tre.nd b v l r).look z bs = if bs = [] then v else (Tre.nd b x l r).look z bs := by
 cases bs with
 | nil => rfl
 | cons j bs => rfl
theorem begun_look {α : Type} (z : α) (b c : Nat) (x : α) (i : Bool) (o : Tre α) (bs : List Bool) : (mkid b x i (.nd c z .nil .nil) o).look z bs = (mkid b x i .nil o).look z bs := by
 rw [mkid_look, mkid_look]
 cases bs with
 | nil => rfl
 | cons j bs =>
  have : (Tre.nd c z .nil .nil).look z bs = (Tre.nil : Tre α).look z bs := by
   rw [Tre.look_nil]
   cases bs with
   | nil => rfl
   | cons k bs =>
    show ((Tre.nd c z .nil .nil).kid k).look z bs = z
    cases k <;> exact Tre.look_nil z bs
  simp only [this]
theorem plug_root {α : Type} : ∀ (c : List (Fra α)) (t t' : Tre α), t.root = t'.root → (plug c t).root = (plug c t').root
 | [], _, _, h => h
 | f :: c, t, t', _ => plug_root c _ _ (by unfold mkid; split <;> rfl)
def Tre.ps {α : Type} (T : TypeId) (en : α → List Value) (ow : α → List SL) : Tre α → List SL
 | .nil => []
 | .nd b x l r => cel b T (.pointer l.root :: .pointer r.root :: en x) :: (ow x ++ (l.ps T en ow ++ r.ps T en ow))
def fraP {α : Type} (T : TypeId) (en : α → List Value) (ow : α → List SL) (f : Fra α) (p : Option Addr) : List SL :=
 cel f.b T (.pointer (if f.i then f.o.root else p) :: .pointer (if f.i then p else f.o.root) :: en f.x) :: (ow f.x ++ f.o.ps T en ow)
def wayP {α : Type} (T : TypeId) (en : α → List Value) (ow : α → List SL) : List (Fra α) → Option Addr → List SL
 | [], _ => []
 | f :: c, p => fraP T en ow f p ++ wayP T en ow c (some ⟨f.b, 0, none⟩)
theorem mkid_root {α : Type} (b : Nat) (x : α) (i : Bool) (t o : Tre α) : (mkid b x i t o).root = some ⟨b, 0, none⟩ := by unfold mkid; split <;> rfl
theorem mkid_ps {α : Type} (T : TypeId) (en : α → List Value) (ow : α → List SL) (f : Fra α) (t : Tre α) : ((mkid f.b f.x f.i t f.o).ps T en ow).Perm (fraP T en ow f t.root ++ t.ps T en ow) := by
 unfold mkid fraP
 cases f.i with
 | true =>
  simp only [if_true, Tre.ps, List.cons_append, List.append_assoc]
  exact List.Perm.refl _
 | false =>
  simp only [Bool.false_eq_true, if_false, Tre.ps, List.cons_append, List.append_assoc]
  exact .cons _ (List.Perm.append_left _ List.perm_append_comm)
theorem plug_ps {α : Type} (T : TypeId) (en : α → List Value) (ow : α → List SL) : ∀ (c : List (Fra α)) (t : Tre α), ((plug c t).ps T en ow).Perm (wayP T en ow c t.root ++ t.ps T en ow)
 | [], t => List.Perm.refl _
 | f :: c, t => by
  refine (plug_ps T en ow c (mkid f.b f.x f.i t f.o)).trans ?_
  rw [mkid_root]
  show (wayP T en ow c (some ⟨f.b, 0, none⟩) ++ _).Perm ((fraP T en ow f t.root ++ wayP T en ow c (some ⟨f.b, 0, none⟩)) ++ t.ps T en ow)
  refine (List.Perm.append_left _ (mkid_ps T en ow f t)).trans ?_
  rw [List.append_assoc]
  have h1 : (wayP T en ow c (some ⟨f.b, 0, none⟩) ++ (fraP T en ow f t.root ++ t.ps T en ow)).Perm (fraP T en ow f t.root ++ (wayP T en ow c (some ⟨f.b, 0, none⟩) ++ t.ps T en ow)) := by
   rw [← List.append_assoc, ← List.append_assoc]
   exact List.Perm.append_right _ List.perm_append_comm
  exact h1
theorem srcsC {src l : List SL} (h : AllSrc src l := by repeat (first | exact trivial | refine AllSrc.at_ 0 rfl ?_ | refine AllSrc.own 0 rfl rfl ?_ | refine AllSrc.via 0 rfl outn_inn ?_ | refine AllSrc.at_ 1 rfl ?_ | refine AllSrc.own 1 rfl rfl ?_ | refine AllSrc.via 1 rfl outn_inn ?_ | refine AllSrc.at_ 2 rfl ?_ | refine AllSrc.own 2 rfl rfl ?_ | refine AllSrc.via 2 rfl outn_inn ?_ | refine AllSrc.at_ 3 rfl ?_ | refine AllSrc.own 3 rfl rfl ?_ | refine AllSrc.via 3 rfl outn_inn ?_ | refine AllSrc.at_ 4 rfl ?_ | refine AllSrc.own 4 rfl rfl ?_ | refine AllSrc.via 4 rfl outn_inn ?_ | refine AllSrc.at_ 5 rfl ?_ | refine AllSrc.own 5 rfl rfl ?_ | refine AllSrc.via 5 rfl outn_inn ?_ | refine AllSrc.at_ 6 rfl ?_ | refine AllSrc.own 6 rfl rfl ?_ | refine AllSrc.via 6 rfl outn_inn ?_ | refine AllSrc.at_ 7 rfl ?_ | refine AllSrc.own 7 rfl rfl ?_ | refine AllSrc.via 7 rfl outn_inn ?_ | refine AllSrc.at_ 8 rfl ?_ | refine AllSrc.own 8 rfl rfl ?_ | refine AllSrc.via 8 rfl outn_inn ?_ | refine AllSrc.at_ 9 rfl ?_ | refine AllSrc.own 9 rfl rfl ?_ | refine AllSrc.via 9 rfl outn_inn ?_ | refine AllSrc.at_ 10 rfl ?_ | refine AllSrc.own 10 rfl rfl ?_ | refine AllSrc.via 10 rfl outn_inn ?_ | refine AllSrc.at_ 11 rfl ?_ | refine AllSrc.own 11 rfl rfl ?_ | refine AllSrc.via 11 rfl outn_inn ?_ | refine AllSrc.at_ 12 rfl ?_ | refine AllSrc.own 12 rfl rfl ?_ | refine AllSrc.via 12 rfl outn_inn ?_ | refine AllSrc.at_ 13 rfl ?_ | refine AllSrc.own 13 rfl rfl ?_ | refine AllSrc.via 13 rfl outn_inn ?_ | refine AllSrc.at_ 14 rfl ?_ | refine AllSrc.own 14 rfl rfl ?_ | refine AllSrc.via 14 rfl outn_inn ?_ | refine AllSrc.at_ 15 rfl ?_ | refine AllSrc.own 15 rfl rfl ?_ | refine AllSrc.via 15 rfl outn_inn ?_ | refine AllSrc.at_ 16 rfl ?_ | refine AllSrc.own 16 rfl rfl ?_ | refine AllSrc.via 16 rfl outn_inn ?_ | refine AllSrc.at_ 17 rfl ?_ | refine AllSrc.own 17 rfl rfl ?_ | refine AllSrc.via 17 rfl outn_inn ?_ | refine AllSrc.at_ 18 rfl ?_ | refine AllSrc.own 18 rfl rfl ?_ | refine AllSrc.via 18 rfl outn_inn ?_ | refine AllSrc.at_ 19 rfl ?_ | refine AllSrc.own 19 rfl rfl ?_ | refine AllSrc.via 19 rfl outn_inn ?_ | refine AllSrc.at_ 20 rfl ?_ | refine AllSrc.own 20 rfl rfl ?_ | refine AllSrc.via 20 rfl outn_inn ?_ | refine AllSrc.at_ 21 rfl ?_ | refine AllSrc.own 21 rfl rfl ?_ | refine AllSrc.via 21 rfl outn_inn ?_ | refine AllSrc.at_ 22 rfl ?_ | refine AllSrc.own 22 rfl rfl ?_ | refine AllSrc.via 22 rfl outn_inn ?_ | refine AllSrc.at_ 23 rfl ?_ | refine AllSrc.own 23 rfl rfl ?_ | refine AllSrc.via 23 rfl outn_inn ?_ | refine AllSrc.at_ 24 rfl ?_ | refine AllSrc.own 24 rfl rfl ?_ | refine AllSrc.via 24 rfl outn_inn ?_)) : AllSrc src l := h
theorem srcsD {src l : List SL} (h : AllSrc src l := by repeat (first | exact trivial | refine AllSrc.free (fun w => arr_nil _ w) ?_ | refine AllSrc.free inn_nil ?_ | refine AllSrc.at_ 0 rfl ?_ | refine AllSrc.own 0 rfl rfl ?_ | refine AllSrc.via 0 rfl outn_inn ?_ | refine AllSrc.at_ 1 rfl ?_ | refine AllSrc.own 1 rfl rfl ?_ | refine AllSrc.via 1 rfl outn_inn ?_ | refine AllSrc.at_ 2 rfl ?_ | refine AllSrc.own 2 rfl rfl ?_ | refine AllSrc.via 2 rfl outn_inn ?_ | refine AllSrc.at_ 3 rfl ?_ | refine AllSrc.own 3 rfl rfl ?_ | refine AllSrc.via 3 rfl outn_inn ?_ | refine AllSrc.at_ 4 rfl ?_ | refine AllSrc.own 4 rfl rfl ?_ | refine AllSrc.via 4 rfl outn_inn ?_ | refine AllSrc.at_ 5 rfl ?_ | refine AllSrc.own 5 rfl rfl ?_ | refine AllSrc.via 5 rfl outn_inn ?_ | refine AllSrc.at_ 6 rfl ?_ | refine AllSrc.own 6 rfl rfl ?_ | refine AllSrc.via 6 rfl outn_inn ?_ | refine AllSrc.at_ 7 rfl ?_ | refine AllSrc.own 7 rfl rfl ?_ | refine AllSrc.via 7 rfl outn_inn ?_ | refine AllSrc.at_ 8 rfl ?_ | refine AllSrc.own 8 rfl rfl ?_ | refine AllSrc.via 8 rfl outn_inn ?_ | refine AllSrc.at_ 9 rfl ?_ | refine AllSrc.own 9 rfl rfl ?_ | refine AllSrc.via 9 rfl outn_inn ?_ | refine AllSrc.at_ 10 rfl ?_ | refine AllSrc.own 10 rfl rfl ?_ | refine AllSrc.via 10 rfl outn_inn ?_ | refine AllSrc.at_ 11 rfl ?_ | refine AllSrc.own 11 rfl rfl ?_ | refine AllSrc.via 11 rfl outn_inn ?_ | refine AllSrc.at_ 12 rfl ?_ | refine AllSrc.own 12 rfl rfl ?_ | refine AllSrc.via 12 rfl outn_inn ?_ | refine AllSrc.at_ 13 rfl ?_ | refine AllSrc.own 13 rfl rfl ?_ | refine AllSrc.via 13 rfl outn_inn ?_ | refine AllSrc.at_ 14 rfl ?_ | refine AllSrc.own 14 rfl rfl ?_ | refine AllSrc.via 14 rfl outn_inn ?_ | refine AllSrc.at_ 15 rfl ?_ | refine AllSrc.own 15 rfl rfl ?_ | refine AllSrc.via 15 rfl outn_inn ?_ | refine AllSrc.at_ 16 rfl ?_ | refine AllSrc.own 16 rfl rfl ?_ | refine AllSrc.via 16 rfl outn_inn ?_ | refine AllSrc.at_ 17 rfl ?_ | refine AllSrc.own 17 rfl rfl ?_ | refine AllSrc.via 17 rfl outn_inn ?_ | refine AllSrc.at_ 18 rfl ?_ | refine AllSrc.own 18 rfl rfl ?_ | refine AllSrc.via 18 rfl outn_inn ?_ | refine AllSrc.at_ 19 rfl ?_ | refine AllSrc.own 19 rfl rfl ?_ | refine AllSrc.via 19 rfl outn_inn ?_ | refine AllSrc.at_ 20 rfl ?_ | refine AllSrc.own 20 rfl rfl ?_ | refine AllSrc.via 20 rfl outn_inn ?_ | refine AllSrc.at_ 21 rfl ?_ | refine AllSrc.own 21 rfl rfl ?_ | refine AllSrc.via 21 rfl outn_inn ?_ | refine AllSrc.at_ 22 rfl ?_ | refine AllSrc.own 22 rfl rfl ?_ | refine AllSrc.via 22 rfl outn_inn ?_ | refine AllSrc.at_ 23 rfl ?_ | refine AllSrc.own 23 rfl rfl ?_ | refine AllSrc.via 23 rfl outn_inn ?_ | refine AllSrc.at_ 24 rfl ?_ | refine AllSrc.own 24 rfl rfl ?_ | refine AllSrc.via 24 rfl outn_inn ?_)) : AllSrc src l := h
end Go.Proofs.YtbhiojedmkcfoaaGreatDoor
