/- Part of a proof of many texts: what the theorem at its end leans on. -/
import Derived.Test.YtbhiojedmkcfoaaGreatDoorZRow
import Derived.Test.YtbhiojedmkcfoaaGreatDoorZCfK
namespace Go.Proofs.YtbhiojedmkcfoaaGreatDoor
set_option linter.unusedVariables false
set_option linter.unusedSimpArgs false
open Go.RowKit
attribute [local irreducible] HC HX HO Tri eP adr
@[reducible] def ifShp : Shp := .agg [.int .i64, .int .i64, .agg [.int .u32, .int .i64], .int .i64]
@[reducible] def confShp : Shp := .agg [.int .i64, .int .u32, .int .i64, .int .i64, .int .i64, .int .i64, .int .i64, .sl ifShp, .int .i64, .int .i64, .int .i64, .int .i64, .int .i64, .int .i64, .int .i64, .int .i64, .int .i64, .sl (.int .i64), .int .i64, .int .i64]
def toI : Tr → Int
 | .int _ n => n
 | _ => 0
def toIf : Tr → IfQ
 | .agg [.int _ a, .int _ b, .agg [.int _ c, .int _ d], .int _ e] => ⟨a, b, c.toNat, d, e⟩
 | _ => ⟨0, 0, 0, 0, 0⟩
theorem int_of {t : Tr} (h : Tr.of (.int .i64) t) : t.cells = iE (toI t) := by
 simp only [Tr.of] at h
 obtain ⟨n, rfl, hw⟩ := h
 simp [Tr.cells, iE, toI]
theorem ints_of {l : List Tr} (h : ∀ x ∈ l, Tr.of (.int .i64) x) : l.map Tr.cells = (l.map toI).map iE := by
 rw [List.map_map]
 exact List.map_congr_left fun x hx => int_of (h x hx)
theorem if_of {t : Tr} (h : Tr.of ifShp t) : t.cells = (toIf t).e ∧ (toIf t).a < 4294967296 := by
 simp only [ifShp, Tr.of, ofAll] at h
 obtain ⟨_, rfl, ⟨_, _, rfl, ⟨a, rfl, _⟩, ⟨_, _, rfl, ⟨b, rfl, _⟩, ⟨_, _, rfl, ⟨_, rfl, ⟨_, _, rfl, ⟨c, rfl, wc⟩, ⟨_, _, rfl, ⟨d, rfl, _⟩, rfl⟩⟩⟩, ⟨_, _, rfl, ⟨e, rfl, _⟩, rfl⟩⟩⟩⟩⟩ := h
 have h1 := wf_u32 wc
 refine ⟨?_, by show c.toNat < 4294967296; omega⟩
 have h2 : ((c.toNat : Nat) : Int) = c := by omega
 simp [Tr.cells, cellsAll, toIf, IfQ.e, h2]
theorem ifs_of {l : List Tr} (h : ∀ x ∈ l, Tr.of ifShp x) : l.map Tr.cells = (l.map toIf).map IfQ.e := by
 rw [List.map_map]
 exact List.map_congr_left fun x hx => (if_of (h x hx)).1
@[reducible] def confT (sa id hold retry routers counts carries : Int) (ifsA : Option Addr) (ifsc : Nat) (ifs : List Tr) (high low moves cycle stale warm expire pref longer : Int) (denyA : Option Addr) (denyc : Nat) (deny : List Tr) (routes queue : Int) : Tr :=
 .agg [.int .i64 sa, .int .u32 id, .int .i64 hold, .int .i64 retry, .int .i64 routers, .int .i64 counts, .int .i64 carries, .sl ifsA ifsc ifs, .int .i64 high, .int .i64 low, .int .i64 moves, .int .i64 cycle, .int .i64 stale, .int .i64 warm, .int .i64 expire, .int .i64 pref, .int .i64 longer, .sl denyA denyc deny, .int .i64 routes, .int .i64 queue]
def mkC (sa id hold retry routers counts carries : Int) (ifsA : Option Addr) (ifsc : Nat) (ifs : List Tr) (high low moves cycle stale warm expire pref longer : Int) (denyA : Option Addr) (denyc : Nat) (deny : List Tr) (routes queue : Int) : CfS :=
 ⟨⟨[sa, 0, hold, retry, routers, counts, carries, high, low, moves, cycle, stale, warm, expire, pref, longer, routes, queue], id.toNat, ifs.map toIf, deny.map toI⟩, ifsA, ifsc, denyA, denyc⟩
theorem mkC_w {xas xid xhold xretry xrouters xcounts xcarries xhigh xlow xmoves xcycle xstale xwarm xexpire xpref xlonger xroutes xqueue : Int} {xifsA xdenyA : Option Addr} {xifsc xdenyc : Nat} {xifs xdeny : List Tr} (hI : ∀ x ∈ xifs, Tr.of ifShp x) (hid : (Lit.int .u32 xid).wf = true) : CfW (mkC xas xid xhold xretry xrouters xcounts xcarries xifsA xifsc xifs xhigh xlow xmoves xcycle xstale xwarm xexpire xpref xlonger xdenyA xdenyc xdeny xroutes xqueue).q := by
 have h1 := wf_u32 hid
 refine ⟨rfl, rfl, by show xid.toNat < 4294967296; omega, fun x hx => ?_⟩
 obtain ⟨t, ht, rfl⟩ := List.mem_map.1 hx
 exact (if_of (hI t ht)).2
theorem mkC_ro {xas xid xhold xretry xrouters xcounts xcarries xhigh xlow xmoves xcycle xstale xwarm xexpire xpref xlonger xroutes xqueue : Int} {xifsA xdenyA : Option Addr} {xifsc xdenyc : Nat} {xifs xdeny : List Tr} (hI : ∀ x ∈ xifs, Tr.of ifShp x) (hD : ∀ x ∈ xdeny, Tr.of (.int .i64) x) : ∀ e ∈ (mkC xas xid xhold xretry xrouters xcounts xcarries xifsA xifsc xifs xhigh xlow xmoves xcycle xstale xwarm xexpire xpref xlonger xdenyA xdenyc xdeny xroutes xqueue).ro, ∃ e0 ∈ pcs confShp (confT xas xid xhold xretry xrouters xcounts xcarries xifsA xifsc xifs xhigh xlow xmoves xcycle xstale xwarm xexpire xpref xlonger xdenyA xdenyc xdeny xroutes xqueue), Ent e0 e := by
 intro e he
 have e1 := ifs_of hI
 have e2 := ints_of hD
 simp only [CfS.ro, mkC, List.mem_cons, List.not_mem_nil, or_false] at he
 rcases he with rfl | rfl
 ·refine ⟨arr idE 5 xifsA (xifs.map Tr.cells), ?_, by rw [e1]; exact arr_typed _⟩
  simp [pcs, pcsAll, Shp.sz, szAll]
 ·refine ⟨arr idE 1 xdenyA (xdeny.map Tr.cells), ?_, by rw [e2]; exact arr_typed _⟩
  simp [pcs, pcsAll, Shp.sz, szAll]
end Go.Proofs.YtbhiojedmkcfoaaGreatDoor
