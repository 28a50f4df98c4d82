/- Part of a proof of many texts: what the theorem at its end leans on. -/
import Derived.Test.YtbhiojedmkcfoaaGreatDoorZKb
namespace Go.Proofs.YtbhiojedmkcfoaaGreatDoor
set_option linter.unusedVariables false
open Go.RowKit
theorem Keeps.cmp {a b c : List SL} (h1 : Keeps a b) (h2 : Keeps b c) : Keeps a c := fun S w h =>
 let ⟨T, h3, h4⟩ := h1 S w h
 let ⟨U, h5, h6⟩ := h2 T w h4
 ⟨U, fun b hb => h3 b (h5 b hb), h6⟩
theorem inn_ent {L L' : List SL} (h : ∀ f ∈ L', (∃ e ∈ L, Ent e f) ∨ ∀ w, f.p (fun _ => False) w) : Ent (inn L) (inn L') := fun S w hp f hf => by
 rcases h f hf with ⟨e, he, hent⟩ | hfree
 ·obtain ⟨F, hF, hp2⟩ := hp e he
  exact ⟨F, hF, hent _ _ hp2⟩
 ·exact ⟨fun _ => False, fun _ h => h.elim, hfree w⟩
theorem own_2u {T : Nat} {A : Option Addr} {x y : Int} : Ent (own idE T 1 A 2 2 [[.int .u32 x], [.int .u32 y]]) (arr idE 1 A [[.int .u32 x], [.int .u32 y]]) :=
 own_wf (show WfL 1 [[Value.int .u32 x], [Value.int .u32 y]] from WfL.cons rfl rfl (WfL.cons rfl rfl WfL.nil))
theorem HO_holdA {P : Program} {N : Nat} {w0 : World} {S0 : Foot} {ops : List Oper} {env : Env} {ro rw rw' : List SL} {K : Act → World → Prop} {ro0 : List SL} {l : List Nat} (k : Nat) {e : SL} (hk : rw[k]? = some e) (hr : eraseO rw k = some rw') (h : HO (.lex ro0) P N w0 S0 ops l env (e :: ro) rw' K) : HO (.lex ro0) P N w0 S0 ops l env ro rw K := by
 have e := eraseO_eq hr
 subst e
 exact HO_hold hk h
theorem HO_knowO {P : Program} {N : Nat} {w0 : World} {S0 : Foot} {ops : List Oper} {l : List Nat} {env : Env} {ro rw : List SL} {C : Prop} {K : Act → World → Prop} (hC : ∀ w, RoOk (ro ++ rw) w → C) (h : C → HO .ord P N w0 S0 ops l env ro rw K) : HO .ord P N w0 S0 ops l env ro rw K :=
 fun a S w ha hf => h (hC w hf.roOk) a S w ha hf
end Go.Proofs.YtbhiojedmkcfoaaGreatDoor
