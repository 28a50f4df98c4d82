/- The symbolic walk: equality of bools and of plain structs. -/
import Derived.Test.YtdeeokkkcfkbjaaDoorEng7
import Derived.Laws.StructEq
namespace Go.Proofs.YtdeeokkkcfkbjaaDoor
set_option linter.unusedVariables false
set_option linter.unusedSimpArgs false
open Go.RowKit

def kindB (P : Program) (T : Nat) : Option Nat := match P.underlying T with
  | some (.int _) => some 0
  | some .bool => some 1
  | some .string => some 2
  | _ => none
class TyBool (P : Program) (T : Nat) : Prop where h : P.underlying T = some .bool

/-- the kinds of a struct's fields, all of one cell, one after another -/
def flatB (P : Program) : Nat → List Field → Option (List Nat)
  | _, [] => some []
  | k, f :: fs => match (f.name != "_") && Nat.beq f.offset k && tyOneB P f.type with
    | true => match kindB P f.type with
      | some q => match flatB P (k + 1) fs with
        | some r => some (q :: r)
        | none => none
      | none => none
    | false => none
def flatTyB (P : Program) (T : Nat) : Option (List Nat) := match !(P.stoodInHeld T) && !(P.eqGuardType P.depth T) with
  | true => match P.underlying T with
    | some (.struct fs) => flatB P 0 fs.toList
    | _ => none
  | false => none
class TyFlat (P : Program) (T : Nat) (ks : outParam (List Nat)) : Prop where h : flatTyB P T = some ks

def eq1 (k : Nat) (x y : Value) : Option Bool := match k, x, y with
  | 0, .int k a, .int k' b => match sameK k k' with
    | true => some (decide (a = b))
    | false => none
  | 1, .bool a, .bool b => some (decide (a = b))
  | 2, .string a, .string b => some (a.toList == b.toList)
  | _, _, _ => none
def eqC : List Nat → List Value → List Value → Option Bool
  | [], [], [] => some true
  | k :: ks, x :: xs, y :: ys => match eq1 k x y with
    | none => none
    | some b => match ks with
      | [] => match xs, ys with
        | [], [] => some b
        | _, _ => none
      | _ => match eqC ks xs ys with
        | some r => some (b && r)
        | none => none
  | _, _, _ => none

section
variable {P : Program} (w : World)
theorem eq1_run {T k d : Nat} {x y : Value} {b : Bool} (hk : kindB P T = some k) (h : eq1 k x y = some b) : (Op.equalIn (d + 1) T x y).run P w = .ok b w := by
  unfold kindB at hk
  cases hu : P.underlying T with
  | none => simp [hu] at hk
  | some D =>
    cases D <;> simp [hu] at hk <;> subst hk
    · cases x <;> cases y <;> simp [eq1] at h
      subst h
      rw [run_equalIn_bool' w d T _ _ hu]
      rename_i a b
      cases a <;> cases b <;> rfl
    · cases x <;> cases y <;> simp [eq1] at h
      rename_i k a k' b
      cases hs : sameK k k' with
      | false => simp [hs] at h
      | true =>
        simp [hs] at h
        have := sameK_eq hs
        subst this h
        rw [run_equalIn_int w d T _ _ _ _ hu]
        rfl
    · cases x <;> cases y <;> simp [eq1] at h
      subst h
      rw [run_equalIn_string w d T _ _ hu]

theorem part_run {T off : Nat} {cs : Array Value} {v : Value} (hT : tyOneB P T = true) (h : cs[off]? = some v) : (part T cs off).run P w = .ok v w := by
  simp [part, Sem.run_bind, isAgg_one w hT, h]

theorem eqFields_run {d : Nat} : ∀ (fs : List Field) (k : Nat) (ks : List Nat) (xs ys : List Value) (X Y : Array Value) (b : Bool), flatB P k fs = some ks → eqC ks xs ys = some b →
    (∀ q, xs[q]? = X[k + q]?) → (∀ q, ys[q]? = Y[k + q]?) → (Op.eqFields (d + 1) X Y fs).run P w = .ok b w
  | [], k, ks, xs, ys, X, Y, b, hf, h, _, _ => by
    simp [flatB] at hf
    subst hf
    cases xs <;> cases ys <;> simp [eqC] at h
    simp [Op.eqFields, h]
  | f :: fs, k, ks, xs, ys, X, Y, b, hf, h, hX, hY => by
    simp only [flatB] at hf
    cases hc : ((f.name != "_") && Nat.beq f.offset k && tyOneB P f.type) with
    | false => simp [hc] at hf
    | true =>
      simp only [hc] at hf
      cases hk : kindB P f.type with
      | none => simp [hk] at hf
      | some q =>
        simp only [hk] at hf
        cases hr : flatB P (k + 1) fs with
        | none => simp [hr] at hf
        | some r =>
          simp [hr] at hf
          subst hf
          simp only [Bool.and_eq_true] at hc
          obtain ⟨⟨hn, ho⟩, hT⟩ := hc
          have ho := Nat.eq_of_beq_eq_true ho
          have hn' : f.name ≠ "_" := by simpa using hn
          cases xs with
          | nil => simp [eqC] at h
          | cons x xs =>
            cases ys with
            | nil => simp [eqC] at h
            | cons y ys =>
              have hx0 := hX 0
              have hy0 := hY 0
              simp at hx0 hy0
              have hXs : ∀ q, xs[q]? = X[k + 1 + q]? := fun q => by have := hX (q + 1); simp at this; rw [this]; congr 1; omega
              have hYs : ∀ q, ys[q]? = Y[k + 1 + q]? := fun q => by have := hY (q + 1); simp at this; rw [this]; congr 1; omega
              simp only [eqC] at h
              cases he : eq1 q x y with
              | none => simp [he] at h
              | some b0 =>
                simp only [he] at h
                simp only [Op.eqFields, if_pos hn', Sem.run_bind]
                rw [part_run w hT (by rw [ho]; exact hx0.symm), Result.andThen_ok, part_run w hT (by rw [ho]; exact hy0.symm), Result.andThen_ok, eq1_run w hk he, Result.andThen_ok]
                cases r with
                | nil =>
                  cases xs <;> cases ys <;> simp at h
                  subst h
                  have h9 := eqFields_run (d := d) fs (k + 1) [] [] [] X Y true hr rfl hXs hYs
                  cases b0 with
                  | true => simpa using h9
                  | false => simp
                | cons k2 r2 =>
                  simp only at h
                  cases h8 : eqC (k2 :: r2) xs ys with
                  | none => simp [h8] at h
                  | some r8 =>
                    simp [h8] at h
                    subst h
                    have h9 := eqFields_run (d := d) fs (k + 1) _ xs ys X Y r8 hr h8 hXs hYs
                    cases b0 with
                    | true => simpa using h9
                    | false => simp
end

section
variable {m : Md} {P : Program} {N : Nat} {w0 : World} {S0 : Foot} {ops : List Oper} {i : Nat} {lq : List Nat} {env : Env} {ro rw : List SL} {K : Act → World → Prop} {d : Nat} {op : Op} {ty : TypeId} {pos : String} {aft : Array Edge} {g : Option (Nat × Bool)}
def eqN : BinOp → Bool → Option Bool
  | .eql, b => some b
  | .neq, b => some (!b)
  | _, _ => none
theorem HO_eqb {bop : BinOp} {T U : Nat} {x y : Operand} {a b r : Bool} [hT : TyBool P T] (ho : ops[i]? = some ⟨some d, .binOp bop T x y U, ty, pos, aft, g⟩) (hx : Env.ev env x = some (.bool a)) (hy : Env.ev env y = some (.bool b)) (he : eqN bop (decide (a = b)) = some r)
    (hw : wantE ops env g = some true) (hN : Nat.blt d N = true) (hr : rdyB m ops i lq = true)
    (h : HO m P N w0 S0 ops lq ((d, .bool r) :: env) ro rw K) : HO m P N w0 S0 ops (i :: lq) env ro rw K := by
  refine HO_val ho hw rfl hN hr (fun a' w ha hf => ?_) h
  have hab : (a == b) = decide (a = b) := by cases a <;> cases b <;> rfl
  cases bop <;> (try (simp [eqN] at he; done)) <;> (injection he with he; subst he) <;>
    simp only [execOp, eqGuard, binOp, Sem.run_bind, ha.ev hx, ha.ev hy, Go.run_equal_bool w T _ _ hT.h, hab] <;> simp [Go.run_equal_bool w T _ _ hT.h, hab]
theorem HO_eqf {bop : BinOp} {T U : Nat} {x y : Operand} {xs ys : List Value} {ks : List Nat} {b r : Bool} [hT : TyFlat P T ks] (ho : ops[i]? = some ⟨some d, .binOp bop T x y U, ty, pos, aft, g⟩) (hx : Env.ev env x = some (.agg xs.toArray)) (hy : Env.ev env y = some (.agg ys.toArray))
    (hc : eqC ks xs ys = some b) (he : eqN bop b = some r)
    (hw : wantE ops env g = some true) (hN : Nat.blt d N = true) (hr : rdyB m ops i lq = true)
    (h : HO m P N w0 S0 ops lq ((d, .bool r) :: env) ro rw K) : HO m P N w0 S0 ops (i :: lq) env ro rw K := by
  refine HO_val ho hw rfl hN hr (fun a w ha hf => ?_) h
  have hT := hT.h
  unfold flatTyB at hT
  cases hb : (!(P.stoodInHeld T) && !(P.eqGuardType P.depth T)) with
  | false => simp [hb] at hT
  | true =>
    simp only [hb] at hT
    simp only [Bool.and_eq_true, Bool.not_eq_true'] at hb
    cases hu : P.underlying T with
    | none => simp [hu] at hT
    | some D =>
      cases D <;> simp [hu] at hT
      rename_i fs
      have hfo : P.fieldsOf T = fs := by simp [Program.fieldsOf, hu]
      have hrun : (Op.equalIn 10000 T (.agg xs.toArray) (.agg ys.toArray)).run P w = .ok b w := by
        rw [show (10000 : Nat) = 9999 + 1 from rfl, run_equalIn_struct w 9999 T _ _ (by rw [hfo]; exact hu) hb.1, hfo]
        exact eqFields_run (d := 9998) w fs.toList 0 ks xs ys _ _ b hT hc (fun q => by simp) (fun q => by simp)
      simp only [execOp, Sem.run_bind, ha.ev hx, ha.ev hy]
      rw [run_eqGuard_agg w bop T x y _ _ hb.2, Result.andThen_ok]
      cases bop <;> (try (simp [eqN] at he; done)) <;> (injection he with he; subst he)
      · rw [run_eql_struct, hrun]; simp
      · rw [run_neq_struct, hrun]; simp
end
end Go.Proofs.YtdeeokkkcfkbjaaDoor
