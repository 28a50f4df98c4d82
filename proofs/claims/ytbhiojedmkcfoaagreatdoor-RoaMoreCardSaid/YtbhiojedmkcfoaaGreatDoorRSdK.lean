/- Part of a proof of many texts: what the theorem at its end leans on. -/
import Derived.Test.YtbhiojedmkcfoaaGreatDoorRKb
namespace Go.Proofs.YtbhiojedmkcfoaaGreatDoor
set_option linter.unusedVariables false
open Go.RowKit
theorem Keeps.cmp {a b c : List SL} (h1 : Keeps a b) (h2 : Keeps b c) : Keeps a c := fun S w h =>
 let ⟨T, h3, h4⟩ := h1 S w h
 let ⟨U, h5, h6⟩ := h2 T w h4
 ⟨U, fun b hb => h3 b (h5 b hb), h6⟩
theorem HO_holdA {P : Program} {N : Nat} {w0 : World} {S0 : Foot} {ops : List Oper} {env : Env} {ro rw rw' : List SL} {K : Act → World → Prop} {ro0 : List SL} {l : List Nat} (k : Nat) {e : SL} (hk : rw[k]? = some e) (hr : eraseO rw k = some rw') (h : HO (.lex ro0) P N w0 S0 ops l env (e :: ro) rw' K) : HO (.lex ro0) P N w0 S0 ops l env ro rw K := by
 have e := eraseO_eq hr
 subst e
 exact HO_hold hk h
end Go.Proofs.YtbhiojedmkcfoaaGreatDoor
