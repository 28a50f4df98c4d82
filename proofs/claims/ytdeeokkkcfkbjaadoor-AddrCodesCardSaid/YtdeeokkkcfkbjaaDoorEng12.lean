/- The symbolic walk: many read pieces, one more. -/
import Derived.Test.YtdeeokkkcfkbjaaDoorEng11
namespace Go.Proofs.YtdeeokkkcfkbjaaDoor
set_option linter.unusedVariables false
set_option linter.unusedSimpArgs false
open Go.RowKit

theorem inn_nil : ∀ w, (inn []).p (fun _ => False) w := fun w e he => by cases he
theorem Keeps.inn_snoc {L : List SL} {e : SL} {rw rw' : List SL} (h : Keeps (inn (L ++ [e]) :: rw) rw') : Keeps (inn L :: e :: rw) rw' := fun S w ⟨A, B, hA, hB, hd, hp, A2, B2, hA2, hB2, hd2, hp2, hs⟩ =>
  h S w ⟨fun b => A b ∨ A2 b, B2, fun b hb => hb.elim (hA b) (fun hb => hB b (hA2 b hb)), fun b hb => hB b (hB2 b hb), fun b h1 h2 => h1.elim (fun h1 => hd b h1 (hB2 b h2)) (fun h1 => hd2 b h1 h2), fun f hf => by
    rcases List.mem_append.1 hf with hf | hf
    · obtain ⟨F, hF, hp3⟩ := hp f hf
      exact ⟨F, fun b hb => .inl (hF b hb), hp3⟩
    · have : f = e := by simpa using hf
      subst this
      exact ⟨A2, fun b hb => .inr hb, hp2⟩, hs⟩
theorem Keeps.swap {e f : SL} {rw rw' : List SL} (h : Keeps (f :: e :: rw) rw') : Keeps (e :: f :: rw) rw' := Keeps.pull 1 rfl h
theorem own_e {α : Type} {enc : α → List Value} {T sz n c : Nat} {A : Option Addr} {l : List α} [h : EncOk enc sz] : Ent (own idE T sz A n c (l.map enc)) (arr enc sz A l) := fun S w h => arr_typed l S w (own_wf (WfL.map (enc := enc)) S w h)
theorem AllSrc.own {α : Type} {enc : α → List Value} {T sz n c : Nat} {A : Option Addr} {l : List α} {xs : List (List Value)} {src L : List SL} [he : EncOk enc sz] (k : Nat) (hk : src[k]? = some (own idE T sz A n c xs)) (hx : xs = l.map enc) (h : AllSrc src L) : AllSrc src (arr enc sz A l :: L) := by
  subst hx
  exact AllSrc.via k hk own_e h
class NoQ (m : Md) : Prop where h : (match m with
    | .quiet => false
    | _ => true) = true
instance : NoQ .ord := ⟨rfl⟩
instance {l : List SL} : NoQ (.lex l) := ⟨rfl⟩
instance {l : List SL} : NoQ (.pick l) := ⟨rfl⟩
instance {m : Md} [h : NoQ m] : NoQ (nmM m) := ⟨by have := h.h; cases m <;> first | rfl | cases this⟩
theorem Keeps.app {rw rw' : List SL} (h : Keeps rw rw') : ∀ held : List SL, Keeps (held ++ rw) (held ++ rw')
  | [] => h
  | _ :: held => Keeps.cons Ent.rfl_ (Keeps.app h held)
/-- other pieces, in another order -/
theorem HO_keeps {m : Md} {P : Program} {N : Nat} {w0 : World} {S0 : Foot} {ops : List Oper} {l : List Nat} {env : Env} {ro rw rw' : List SL} {K : Act → World → Prop} [hm : NoQ m] (hk : Keeps rw rw') (h : HO m P N w0 S0 ops l env ro rw' K) : HO m P N w0 S0 ops l env ro rw K := by
  cases m with
  | ord =>
    intro a S w ha hf
    obtain ⟨T, hT⟩ := hf.keeps hk
    exact h a T w ha hT
  | quiet => exact absurd hm.h (by decide)
  | lex ro0 =>
    intro held he a S w ha hf
    obtain ⟨T, hT⟩ := hf.keeps (hk.app held)
    exact h held he a T w ha hT
  | pick ro0 =>
    intro held he
    have := h held he
    cases l with
    | nil => exact this
    | cons i l =>
      intro a S w ha hf
      obtain ⟨T, hT⟩ := hf.keeps (hk.app held)
      exact this a T w ha hT
theorem HO_mv {m : Md} {P : Program} {N : Nat} {w0 : World} {S0 : Foot} {ops : List Oper} {l : List Nat} {env : Env} {ro rw rw' : List SL} {K : Act → World → Prop} [hm : NoQ m] (k : Nat) {e : SL} (hk : rw[k]? = some e) (hr : eraseO rw k = some rw') (h : HO m P N w0 S0 ops l env ro (e :: rw') K) : HO m P N w0 S0 ops l env ro rw K := by
  have e := eraseO_eq hr
  subst e
  exact HO_keeps (Keeps.pull k hk Keeps.refl) h
theorem HO_nil {m : Md} {P : Program} {N : Nat} {w0 : World} {S0 : Foot} {ops : List Oper} {l : List Nat} {env : Env} {ro rw : List SL} {K : Act → World → Prop} {T sz : Nat} [hm : NoQ m] (h : HO m P N w0 S0 ops l env ro (own idE T sz none 0 0 [] :: rw) K) : HO m P N w0 S0 ops l env ro rw K :=
  HO_keeps (Keeps.add (fun w => own_nil w) Keeps.refl) h
/-- a cut behind a statement -/
theorem HC_cutP {P : Program} {N : Nat} {w0 : World} {S0 : Foot} {c c2 : Code} {env : Env} {ro rw : List SL} {Q Q2 : Exit → Act → World → Prop} {α : Type} (φ : α → Prop) (E : α → Env) (R : α → List SL)
    (h : HC P N w0 S0 c env ro rw (Exit.then (At N w0 S0 ro φ E R) Q)) (h2 : ∀ x, φ x → HC P N w0 S0 c2 (E x) ro (R x) Q2) : HC P N w0 S0 c env ro rw (Exit.then (c2.wp P Q2) Q) := fun a S w ha hf =>
  wp_mono (h a S w ha hf) fun e a' w' hq => by
    cases e <;> first
      | (obtain ⟨z, hz, T, hA, hT⟩ := hq; exact h2 z hz a' T w' hA hT)
      | exact hq
theorem Keeps.pick {rw rw2 rw' : List SL} {e : SL} (k : Nat) (hk : rw[k]? = some e) (hr : eraseO rw k = some rw2) (h : Keeps rw2 rw') : Keeps rw (e :: rw') := by
  have e := eraseO_eq hr
  subst e
  exact Keeps.pull k hk (Keeps.cons Ent.rfl_ h)
/-- a text of bytes, the bytes a row of the call's own, or read -/
theorem HO_b2sk {m : Md} {P : Program} {N : Nat} {w0 : World} {S0 : Foot} {ops : List Oper} {i : Nat} {lq : List Nat} {env : Env} {ro rw : List SL} {K : Act → World → Prop} {d : Nat} {ty : TypeId} {pos : String} {aft : Array Edge} {g : Option (Nat × Bool)}
    {T U n c n2 c2 T2 : Nat} {A : Option Addr} {x : Operand} {l : List UInt8} {xs : List (List Value)} {e : Nat} [hT : TySlice P T e] [hE : TyInt P e .u8] [hU : TyStr P U] (k : Nat) (hm : plainM m = true) (ho : ops[i]? = some ⟨some d, .convert T U x, ty, pos, aft, g⟩) (hx : Env.ev env x = some (.slice A n c))
    (hk : (ro ++ rw)[k]? = some (own idE T2 1 A n2 c2 xs)) (hxs : xs = l.map fun b => [.int .u8 b.toNat]) (hn : n = l.length)
    (hw : wantE ops env g = some true) (hN : Nat.blt d N = true) (hr : rdyB m ops i lq = true)
    (h : HO m P N w0 S0 ops lq ((d, .string ⟨l.toArray⟩) :: env) ro rw K) : HO m P N w0 S0 ops (i :: lq) env ro rw K := by
  subst hxs
  exact HO_b2s ho hx ⟨_, by rw [seeL_plain hm]; exact List.mem_of_getElem? hk, own_wf (fun y hy => by obtain ⟨b, _, rfl⟩ := List.mem_map.1 hy; exact ⟨rfl, rfl⟩)⟩ hn hw hN hr h
theorem HO_b2sr {m : Md} {P : Program} {N : Nat} {w0 : World} {S0 : Foot} {ops : List Oper} {i : Nat} {lq : List Nat} {env : Env} {ro rw : List SL} {K : Act → World → Prop} {d : Nat} {ty : TypeId} {pos : String} {aft : Array Edge} {g : Option (Nat × Bool)}
    {T U n c n2 c2 T2 : Nat} {A : Option Addr} {x : Operand} {l : List UInt8} {xs : List (List Value)} {e : Nat} [hT : TySlice P T e] [hE : TyInt P e .u8] [hU : TyStr P U] (k : Nat) (ho : ops[i]? = some ⟨some d, .convert T U x, ty, pos, aft, g⟩) (hx : Env.ev env x = some (.slice A n c))
    (hk : ro[k]? = some (own idE T2 1 A n2 c2 xs)) (hxs : xs = l.map fun b => [.int .u8 b.toNat]) (hn : n = l.length)
    (hw : wantE ops env g = some true) (hN : Nat.blt d N = true) (hr : rdyB m ops i lq = true)
    (h : HO m P N w0 S0 ops lq ((d, .string ⟨l.toArray⟩) :: env) ro rw K) : HO m P N w0 S0 ops (i :: lq) env ro rw K := by
  subst hxs
  exact HO_b2s ho hx ⟨_, seeL_ro (List.mem_of_getElem? hk), own_wf (fun y hy => by obtain ⟨b, _, rfl⟩ := List.mem_map.1 hy; exact ⟨rfl, rfl⟩)⟩ hn hw hN hr h
end Go.Proofs.YtdeeokkkcfkbjaaDoor
