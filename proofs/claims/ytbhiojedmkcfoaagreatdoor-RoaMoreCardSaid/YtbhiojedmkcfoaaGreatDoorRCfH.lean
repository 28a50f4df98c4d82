/- Part of a proof of many texts: what the theorem at its end leans on. -/
import Derived.Test.YtbhiojedmkcfoaaGreatDoorRAdP
import Derived.Test.YtbhiojedmkcfoaaGreatDoorRAd0
namespace Go.Proofs.YtbhiojedmkcfoaaGreatDoor
set_option linter.unusedVariables false
set_option linter.unusedSimpArgs false
open Go.RowKit
attribute [local irreducible] HC HX HO Tri eP adr
theorem AllSrc.of {src : List SL} : ∀ {l : List SL}, (∀ e ∈ l, ∃ e0 ∈ src, Ent e0 e) → AllSrc src l
 | [], _ => trivial
 | e :: l, h => ⟨.inl (h e (by simp)), AllSrc.of fun f hf => h f (by simp [hf])⟩
theorem AllSrc.self {e : SL} {l r : List SL} : AllSrc (e :: l ++ r) l := AllSrc.of fun f hf => ⟨f, by simp [hf], Ent.rfl_⟩
def idxF {α : Type} (p : α → Bool) (l : List α) : Int := if l.any p = true then (l.findIdx p : Nat) else -1
theorem idxF_ge {α : Type} (p : α → Bool) (l : List α) : decide (0 ≤ idxF p l) = l.any p := by
 unfold idxF
 split
 ·rename_i h; rw [h]; exact decide_eq_true (by omega)
 ·rename_i h; rw [Bool.not_eq_true] at h; rw [h]; rfl
theorem idxF_at {α : Type} {p : α → Bool} {l : List α} {j : Nat} {a : α} (hj : l[j]? = some a) (ha : p a = true) (hno : ∀ q, q < j → ∀ b, l[q]? = some b → p b = false) : idxF p l = j := by
 obtain ⟨hlt, rfl⟩ := List.getElem?_eq_some_iff.1 hj
 have : l.any p = true := List.any_eq_true.2 ⟨_, List.getElem_mem hlt, ha⟩
 rw [idxF, if_pos this, (List.findIdx_eq hlt).2 ⟨ha, fun q hq => by simpa using hno q hq _ (List.getElem?_eq_getElem (by omega))⟩]
theorem idxF_no {α : Type} {p : α → Bool} {l : List α} (hno : ∀ q, q < l.length → ∀ b, l[q]? = some b → p b = false) : idxF p l = -1 := by
 rw [idxF, if_neg]
 intro h
 obtain ⟨a, ha, hp⟩ := List.any_eq_true.1 h
 obtain ⟨q, hq⟩ := List.getElem?_of_mem ha
 rw [hno q (List.getElem?_eq_some_iff.1 hq).1 a hq] at hp
 cases hp
@[reducible] def boolV (b : Bool) : Value := .bool b
section
variable {m : Md} {P : Program} {N : Nat} {w0 : World} {S0 : Foot} {ops : List Oper} {i : Nat} {lq : List Nat} {env : Env} {ro rw : List SL} {K : Act → World → Prop} {d : Nat} {ty : TypeId} {pos : String} {aft : Array Edge} {g : Option (Nat × Bool)}
theorem HO_mkmapT {κ ν : Type} [DecidableEq κ] (ke : κ → Value) (ve : ν → Value) {T Kt E : Nat} [hT : TyMap P T Kt E] [hK : KeyOf P Kt ke] (ho : ops[i]? = some ⟨some d, .makeMap T none, ty, pos, aft, g⟩) (hw : wantE ops env g = some true) (hN : Nat.blt d N = true) (hs : soleB m ops i lq = true)
  (h : ∀ b : Nat, HO (nmM m) P N w0 S0 ops lq ((d, .map (some b)) :: env) ro (mapP ke ve b [] :: rw) K) : HO m P N w0 S0 ops (i :: lq) env ro rw K := HO_mkmap ke ve ho hw hN hs h
theorem HO_mapsetO {κ ν : Type} [DecidableEq κ] {ke : κ → Value} {ve : ν → Value} {T Kt E b : Nat} {x y z : Operand} {l : List (κ × ν)} {rw' : List SL} [hT : TyMap P T Kt E] [hK : KeyOf P Kt ke] (q : Nat) (k : κ) (v : ν) (ho : ops[i]? = some ⟨none, .mapUpdate T x y z, ty, pos, aft, g⟩)
  (hx : Env.ev env x = some (.map (some b))) (hy : Env.ev env y = some (ke k)) (hz : Env.ev env z = some (ve v)) (hq : rw[q]? = some (mapP ke ve b l)) (hrw : setO rw q (mapP ke ve b (stL k v l)) = some rw')
  (hw : wantE ops env g = some true) (hs : soleB m ops i lq = true)
  (h : HO (nmM m) P N w0 S0 ops lq env ro rw' K) : HO m P N w0 S0 ops (i :: lq) env ro rw K := by
 have := setO_eq hrw
 subst this
 exact HO_mapset q k v ho hx hy hz hq hw hs h
end
theorem take_snoc {α : Type} {l : List α} {j : Nat} {x : α} (h : l[j]? = some x) : l.take (j + 1) = l.take j ++ [x] := by rw [List.take_add_one, h]; rfl
theorem nodup_pre {α : Type} {l : List α} (h : l.Nodup) (i : Nat) : (l.take i).Nodup := h.sublist (List.take_sublist i l)
end Go.Proofs.YtbhiojedmkcfoaaGreatDoor
