/- Part of a proof of many texts: what the theorem at its end leans on. -/
import Derived.Test.YtbhiojedmkcfoaaGreatDoorRAdV
import Derived.Test.YtbhiojedmkcfoaaGreatDoorRCfH
import Derived.Test.YtbhiojedmkcfoaaGreatDoorRKc
import Derived.LoopIn
import Derived.LoopNIn
import Derived.TacticsInMore
import Derived.RegionIn
import Derived.Shelf.Abstract
import Derived.ArgAppend
namespace Go.Proofs.YtbhiojedmkcfoaaGreatDoor
set_option linter.unusedVariables false
set_option linter.unusedSimpArgs false
open Go.RowKit
attribute [local irreducible] HC HX HO Tri eP adr
structure SegS where
 set : Bool
 A : Option Addr
 c : Nat
 ns : List Int
def SegS.e (s : SegS) : List Value := [.bool s.set, .slice s.A s.ns.length s.c]
instance : EncOk SegS.e 2 := ⟨fun _ => ⟨rfl, rfl⟩⟩
structure AttS where
 org : Int
 pA : Option Addr
 pc : Nat
 path : List SegS
 nxt : Int
 med : Int
 pref : Int
 cA : Option Addr
 cc : Nat
 comms : List Int
def AttS.e (a : AttS) : List Value := [.int .i64 a.org, .slice a.pA a.path.length a.pc, .int .u32 a.nxt, .int .i64 a.med, .int .i64 a.pref, .slice a.cA a.comms.length a.cc]
def segPs (l : List SegS) : List SL := l.map fun s => arr iE 1 s.A s.ns
@[reducible] def AttS.ro (a : AttS) : List SL := [inn (segPs a.path), arr SegS.e 2 a.pA a.path, arr iE 1 a.cA a.comms]
theorem seg_mem {l : List SegS} {s : SegS} (h : s ∈ l) : arr iE 1 s.A s.ns ∈ segPs l := List.mem_map.2 ⟨s, h, rfl⟩
def nb (w : Nat) (l : List Int) : List UInt8 := l.flatMap fun n => be w n.toNat
def spl (l : List SegS) : List (Bool × List Int) := l.map fun s => (s.set, s.ns)
def AttS.pa (a : AttS) : PA := ⟨a.org, spl a.path, a.nxt, a.med, a.pref, a.comms⟩
def sameB (p q : PA) : Bool := decide (p.org = q.org) && decide (p.nxt = q.nxt) && decide (p.med = q.med) && decide (p.pref = q.pref) && decide (p.comms = q.comms) && decide (p.path = q.path)
structure Lim (a : AttS) : Prop where
 p : a.path.length ≤ 1000
 c : a.comms.length ≤ 1000
 s : ∀ s ∈ a.path, s.ns.length ≤ 1000
structure Nl where
 i : Int
 a : Nat
 n : Int
def Nl.e (x : Nl) : List Value := [.int .i64 x.i, .int .u32 x.a, .int .i64 x.n]
instance : EncOk Nl.e 3 := ⟨fun _ => ⟨rfl, rfl⟩⟩
def NlsOk (l : List Nl) : Prop := ∀ x ∈ l, x.a < 4294967296
section
variable {m : Md} {P : Program} {N : Nat} {w0 : World} {S0 : Foot} {ops : List Oper} {i : Nat} {lq : List Nat} {env : Env} {ro rw : List SL} {K : Act → World → Prop} {d : Nat} {op : Op} {ty : TypeId} {pos : String} {aft : Array Edge} {g : Option (Nat × Bool)}
end
structure UpS where
 gA : Option Addr
 gc : Nat
 gone : List Nl
 rA : Option Addr
 rc : Nat
 routes : List Nl
 a : AttS
 soft : Bool
def UpS.e (u : UpS) : List Value := [.slice u.gA u.gone.length u.gc, .slice u.rA u.routes.length u.rc, .int .i64 u.a.org, .slice u.a.pA u.a.path.length u.a.pc, .int .u32 u.a.nxt, .int .i64 u.a.med, .int .i64 u.a.pref, .slice u.a.cA u.a.comms.length u.a.cc, .bool u.soft]
@[reducible] def UpS.ro (u : UpS) : List SL := [arr Nl.e 3 u.gA u.gone, arr Nl.e 3 u.rA u.routes, inn (segPs u.a.path), arr SegS.e 2 u.a.pA u.a.path, arr iE 1 u.a.cA u.a.comms]
theorem Keeps.pickE {rw rw2 rw' : List SL} {e e' : SL} (k : Nat) (hk : rw[k]? = some e) (hr : eraseO rw k = some rw2) (he : Ent e e') (h : Keeps rw2 rw') : Keeps rw (e' :: rw') := by
 have e := eraseO_eq hr
 subst e
 exact Keeps.pull k hk (Keeps.cons he h)
def lSg (n : Int) (b1 : Nat) : SegS := ⟨false, some ⟨b1, 0, none⟩, 1, [n]⟩
def lAt (n : Int) (nx : Nat) (b1 b2 : Nat) : AttS := ⟨0, some ⟨b2, 0, none⟩, 1, [lSg n b1], nx, -1, -1, none, 0, []⟩
theorem own_i1 {T : Nat} {A : Option Addr} {n : Int} : Ent (own idE T 1 A 1 1 [[.int .i64 n]]) (arr iE 1 A [n]) := fun S w h => arr_typed [n] S w (own_wf (WfL.map (enc := iE)) S w h)
theorem own_s1 {T : Nat} {A : Option Addr} {s : SegS} : Ent (own idE T 2 A 1 1 [s.e]) (arr SegS.e 2 A [s]) := fun S w h => arr_typed [s] S w (own_wf (WfL.map (enc := SegS.e) (l := [s])) S w h)
set_option maxHeartbeats 1000000000 in
theorem said14_t (n : Int) (nx : Nat) : Tri Tryz.prog 89 [.int .i64 n, .int .u32 nx] [] [] (fun _ : Nat × Nat => True) (fun x => .agg (lAt n nx x.1 x.2).e.toArray)
  (fun x => [arr iE 1 (some ⟨x.1, 0, none⟩) [n], arr SegS.e 2 (some ⟨x.2, 0, none⟩) [lSg n x.1]]) := by
 refine Tri_of (N := Tryz.f89.ntmps) (c := bodyOf Tryz.f89) Tryz.func89 rfl rfl rfl rfl (fun w0 S0 => ?_)
 repeat' (first | refine SW ?_ | refine SD ?_ | exact HO_seg rfl rfl | refine S1 ?_ | (refine S2 ?_; intro _) | (refine S3 ?_; intro _ _) | (refine S4 ?_; intro _ _ _) | (refine HO_g 2 rfl ?_; first | apply HO_a1 rfl | apply HO_o1 rfl) | refine S5 ?_ | (intro hb; try replace hb := simB hb; try exact kill hb))
 rename_i b4 b1 b2
 (refine SRt ?_; unfold RetQ; refine ⟨(b1, b2), trivial, rfl, (by first | exact Keeps.pickE 1 rfl rfl own_i1 (Keeps.pickE 0 rfl rfl (own_s1 (s := lSg n b1)) Keeps.nil) | exact Keeps.pickE 2 rfl rfl own_i1 (Keeps.pickE 0 rfl rfl (own_s1 (s := lSg n b1)) Keeps.nil) | exact Keeps.pickE 2 rfl rfl own_i1 (Keeps.pickE 1 rfl rfl (own_s1 (s := lSg n b1)) Keeps.nil) | exact Keeps.pickE 0 rfl rfl own_i1 (Keeps.pickE 0 rfl rfl (own_s1 (s := lSg n b1)) Keeps.nil))⟩)
end Go.Proofs.YtbhiojedmkcfoaaGreatDoor
