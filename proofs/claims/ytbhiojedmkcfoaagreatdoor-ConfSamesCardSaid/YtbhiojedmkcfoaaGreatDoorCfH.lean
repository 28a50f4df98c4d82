/- Interfaces that may be: by maps, and by pairs. -/
import Derived.Test.YtbhiojedmkcfoaaGreatDoorCfI
namespace Go.Proofs.YtbhiojedmkcfoaaGreatDoor
set_option linter.unusedVariables false
set_option linter.unusedSimpArgs false
open Go.RowKit
attribute [local irreducible] HC HX HO Tri eP adr

@[reducible] def TIf : Nat := 101
instance : KeyOf Tryz.prog 3 (fun n : Int => Value.int .i64 n) := KeyOf.int (by kernel_rfl)
/-- a router's net, as a key -/
@[reducible] def NetK := Int × Nat × Int
def netC (k : NetK) : List Value := [.int .i64 k.1, .int .u32 k.2.1, .int .i64 k.2.2]
theorem net_eq (a b : NetK) : eqZ [0, 0, 0] (netC a) (netC b) = some (decide (a = b)) := by
  obtain ⟨a1, a2, a3⟩ := a
  obtain ⟨b1, b2, b3⟩ := b
  have h2 : decide (((a2 : Nat) : Int) = b2) = decide (a2 = b2) := decide_eq_decide.2 (by omega)
  show some (decide (a1 = b1) && (decide (((a2 : Nat) : Int) = b2) && (decide (a3 = b3) && true))) = _
  rw [h2]
  congr 1
  by_cases h1 : a1 = b1 <;> by_cases h3 : a2 = b2 <;> by_cases h4 : a3 = b3 <;> simp [h1, h3, h4]
instance : KeyOf Tryz.prog 209 (fun k : NetK => Value.agg (netC k).toArray) := KeyOf.deep (n := 20) (cells := netC) (ks := [0, 0, 0]) (by kernel_rfl) (by decide) (by kernel_rfl) (fun _ => rfl) net_eq (fun k v hv => by
  simp [netC] at hv
  rcases hv with rfl | rfl | rfl
  · exact ⟨_, _, rfl⟩
  · exact ⟨_, _, rfl⟩
  · exact ⟨_, _, rfl⟩) (by kernel_rfl)
@[reducible] def idK (n : Int) : Value := .int .i64 n
@[reducible] def netV (k : NetK) : Value := .agg (netC k).toArray
@[reducible] def boolV (b : Bool) : Value := .bool b
def idsL (l : List IfQ) : List Int := l.map (·.id)
def netsL (l : List IfQ) : List NetK := l.map fun x => (x.router, x.a, x.n)
theorem any_odd (l : List IfQ) : l.any (fun x => !ifOk x) = !l.all ifOk := by
  induction l with
  | nil => rfl
  | cons x l ih => simp only [List.any_cons, List.all_cons, ih, Bool.not_and]
theorem ifs_e (l : List IfQ) : (decide ((256 : Int) < l.length) || decide (((setL (idsL l)).length : Int) < l.length) || decide (((setL (netsL l)).length : Int) < l.length) || l.any (fun x => !ifOk x)) = !ifsOk l := by
  have h1 := setL_lt (idsL l)
  have h2 := setL_lt (netsL l)
  have e1 : (idsL l).length = l.length := by simp [idsL]
  have e2 : (netsL l).length = l.length := by simp [netsL]
  rw [e1] at h1
  rw [e2] at h2
  have h3 : decide ((256 : Int) < l.length) = !decide (l.length ≤ 256) := by
    by_cases h : l.length ≤ 256
    · rw [decide_eq_true h, decide_eq_false (by omega)]; rfl
    · rw [decide_eq_false h, decide_eq_true (by omega)]; rfl
  rw [h1, h2, h3, any_odd]
  unfold ifsOk
  show _ = !(decide (l.length ≤ 256) && (decide (idsL l).Nodup && (decide (netsL l).Nodup && l.all ifOk)))
  cases decide (l.length ≤ 256) <;> cases decide (idsL l).Nodup <;> cases decide (netsL l).Nodup <;> rfl
section
variable {m : Md} {P : Program} {N : Nat} {w0 : World} {S0 : Foot} {ops : List Oper} {i : Nat} {lq : List Nat} {env : Env} {ro rw : List SL} {K : Act → World → Prop} {d : Nat} {ty : TypeId} {pos : String} {aft : Array Edge} {g : Option (Nat × Bool)}
theorem HO_mkmapT {κ ν : Type} [DecidableEq κ] (ke : κ → Value) (ve : ν → Value) {T Kt E : Nat} [hT : TyMap P T Kt E] [hK : KeyOf P Kt ke] (ho : ops[i]? = some ⟨some d, .makeMap T none, ty, pos, aft, g⟩) (hw : wantE ops env g = some true) (hN : Nat.blt d N = true) (hs : soleB m ops i lq = true)
    (h : ∀ b : Nat, HO (nmM m) P N w0 S0 ops lq ((d, .map (some b)) :: env) ro (mapP ke ve b [] :: rw) K) : HO m P N w0 S0 ops (i :: lq) env ro rw K := HO_mkmap ke ve ho hw hN hs h
theorem HO_mapsetO {κ ν : Type} [DecidableEq κ] {ke : κ → Value} {ve : ν → Value} {T Kt E b : Nat} {x y z : Operand} {l : List (κ × ν)} {rw' : List SL} [hT : TyMap P T Kt E] [hK : KeyOf P Kt ke] (q : Nat) (k : κ) (v : ν) (ho : ops[i]? = some ⟨none, .mapUpdate T x y z, ty, pos, aft, g⟩)
    (hx : Env.ev env x = some (.map (some b))) (hy : Env.ev env y = some (ke k)) (hz : Env.ev env z = some (ve v)) (hq : rw[q]? = some (mapP ke ve b l)) (hrw : setO rw q (mapP ke ve b (stL k v l)) = some rw')
    (hw : wantE ops env g = some true) (hs : soleB m ops i lq = true)
    (h : HO (nmM m) P N w0 S0 ops lq env ro rw' K) : HO m P N w0 S0 ops (i :: lq) env ro rw K := by
  have := setO_eq hrw
  subst this
  exact HO_mapset q k v ho hx hy hz hq hw hs h
end
theorem take_snoc {α : Type} {l : List α} {j : Nat} {x : α} (h : l[j]? = some x) : l.take (j + 1) = l.take j ++ [x] := by rw [List.take_add_one, h]; rfl
set_option maxHeartbeats 16000000 in
theorem hcheck_t (A : Option Addr) (c : Nat) (l : List IfQ) (hl : l.length ≤ 1000000) (ha : ∀ x ∈ l, x.a < 4294967296) :
    Tri Tryz.prog 71 [.slice A l.length c] [arr IfQ.e 5 A l] [] (fun _ : Unit => True) (fun _ => .int .i64 (if ifsOk l = true then 0 else 160)) (fun _ => []) := by
  have hany := containsN_t A l.length c l rfl hl 139 [] [] (fun x => !ifOk x) (fun x hx => hodd_t x (ha x hx))
  have he := ifs_e l
  refine Tri_of (N := Tryz.f71.ntmps) (c := bodyOf Tryz.f71) Tryz.func71 rfl rfl rfl rfl (fun w0 S0 => ?_)
  repeat' (first | refine SW ?_ | refine SD ?_ | (refine HO_k 21 rfl ?_; (first | refine HO_mkmapT idK boolV rfl rfl rfl soA ?_ | refine HO_mkmapT netV boolV rfl rfl rfl soA ?_); intro _) | exact HO_seg rfl rfl | refine S1 ?_ | (refine S2 ?_; intro _) | (refine S3 ?_; intro _ _) | (refine S4 ?_; intro _ _ _) | (refine HO_g 2 rfl ?_; (first | apply HO_and rfl rfl rfl rfl rfl rfl rfl rfl rfl | apply HO_or rfl rfl rfl rfl rfl rfl rfl rfl rfl)) | refine S5 ?_ | (intro hb; try replace hb := simB hb; try exact kill hb))
  rename_i b1 b2
  refine HC_loop (α := Nat) (fun j => j ≤ l.length) (fun j => [(11, .int .i64 j), (10, .int .i64 l.length), (9, .slice A l.length c), (4, .map (some b2)), (3, .map (some b1)), (0, .slice A l.length c)]) (fun j => [mapP netV boolV b2 (setL (netsL (l.take j))), mapP idK boolV b1 (setL (idsL (l.take j)))]) (fun j => l.length - j) rfl 0 (Nat.zero_le _) ⟨rfl, rfl, rfl, rfl, rfl, rfl, trivial⟩ rfl ?_
  intro j hj
  rcases Nat.lt_or_ge j l.length with hlt | hge
  · obtain ⟨x, hx⟩ : ∃ x, l[j]? = some x := ⟨l[j], List.getElem?_eq_getElem hlt⟩
    have e1 : stL x.id true (setL (idsL (l.take j))) = setL (idsL (l.take (j + 1))) := by rw [take_snoc hx]; unfold idsL; rw [List.map_append]; exact (setL_snoc _ _).symm
    have e2 : stL (x.router, x.a, x.n) true (setL (netsL (l.take j))) = setL (netsL (l.take (j + 1))) := by rw [take_snoc hx]; unfold netsL; rw [List.map_append]; exact (setL_snoc _ _).symm
    repeat' (first | refine SW ?_ | refine SD ?_ | (refine HO_k 21 rfl ?_; (first | refine HO_mapsetO (ke := idK) (ve := boolV) 2 x.id true rfl rfl rfl rfl rfl rfl rfl soA ?_ | refine HO_mapsetO (ke := netV) (ve := boolV) 1 (x.router, x.a, x.n) true rfl rfl rfl rfl rfl rfl rfl soA ?_)) | exact HO_seg rfl rfl | refine S1 ?_ | (refine S2 ?_; intro _) | (refine S3 ?_; intro _ _) | (refine S4 ?_; intro _ _ _) | (refine HO_g 2 rfl ?_; (first | apply HO_and rfl rfl rfl rfl rfl rfl rfl rfl rfl | apply HO_or rfl rfl rfl rfl rfl rfl rfl rfl rfl)) | refine S5 ?_ | (intro hb; try replace hb := simB hb; try exact kill hb))
    rw [e1, e2]
    refine HX_keeps (rw' := [mapP netV boolV b2 (setL (netsL (l.take (j + 1)))), mapP idK boolV b1 (setL (idsL (l.take (j + 1))))]) permA ?_
    exact HX_at (j + 1) ⟨hlt, by show l.length - (j + 1) < l.length - j; omega⟩ ⟨rfl, rfl, rfl, rfl, rfl, rfl, trivial⟩ rfl
  · obtain rfl : j = l.length := by omega
    rw [List.take_length]
    repeat' (first | refine SW ?_ | refine SD ?_ | (refine HO_k 8 rfl ?_; (first | refine HO_maplen (ke := netV) (ve := boolV) 1 rfl rfl rfl rfl rfl rdA ?_ | refine HO_maplen (ke := idK) (ve := boolV) 2 rfl rfl rfl rfl rfl rdA ?_)) | (refine HO_k 12 rfl ?_; refine HO_callq rfl rfl rfl rfl (hany) (fun _ _ => rfl) (srcsA) rfl rfl sqA ?_) | exact HO_seg rfl rfl | refine S1 ?_ | (refine S2 ?_; intro _) | (refine S3 ?_; intro _ _) | (refine S4 ?_; intro _ _ _) | (refine HO_g 2 rfl ?_; (first | apply HO_and rfl rfl rfl rfl rfl rfl rfl rfl rfl | apply HO_or rfl rfl rfl rfl rfl rfl rfl rfl rfl)) | refine S5 ?_ | (intro hb; try replace hb := simB hb; try exact kill hb))
    refine HC_cond rfl rfl (fun hb => ?_) (fun hb => ?_)
    · rw [he] at hb
      have hx : ifsOk l = false := by simpa using hb
      rw [hx]
      repeat' (first | refine SW ?_ | exact HO_seg rfl rfl | refine S1 ?_ | (refine S2 ?_; intro _) | (refine S3 ?_; intro _ _) | (refine S4 ?_; intro _ _ _) | (refine HO_g 2 rfl ?_; (first | apply HO_and rfl rfl rfl rfl rfl rfl rfl rfl rfl | apply HO_or rfl rfl rfl rfl rfl rfl rfl rfl rfl)) | refine S5 ?_ | (intro hb; try replace hb := simB hb; try exact kill hb))
      ((first | apply HX_ret | apply HX_retn); (repeat (first | exact Res_nil | apply Res_tmp rfl | apply Res_ce rfl rfl rfl)); unfold RetQ; refine ⟨(), trivial, ?_, Keeps.nil⟩)
      rfl
    · rw [he] at hb
      have hx : ifsOk l = true := by simpa using hb
      rw [hx]
      repeat' (first | refine SW ?_ | exact HO_seg rfl rfl | refine S1 ?_ | (refine S2 ?_; intro _) | (refine S3 ?_; intro _ _) | (refine S4 ?_; intro _ _ _) | (refine HO_g 2 rfl ?_; (first | apply HO_and rfl rfl rfl rfl rfl rfl rfl rfl rfl | apply HO_or rfl rfl rfl rfl rfl rfl rfl rfl rfl)) | refine S5 ?_ | (intro hb; try replace hb := simB hb; try exact kill hb))
      ((first | apply HX_ret | apply HX_retn); (repeat (first | exact Res_nil | apply Res_tmp rfl | apply Res_ce rfl rfl rfl)); unfold RetQ; refine ⟨(), trivial, ?_, Keeps.nil⟩)
      rfl
end Go.Proofs.YtbhiojedmkcfoaaGreatDoor
