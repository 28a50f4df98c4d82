/- Part of a proof of many texts: what the theorem at its end leans on. -/
import Derived.Test.YteeogabkkblkgaaGreatDoorVKb
namespace Go.Proofs.YteeogabkkblkgaaGreatDoor
set_option maxHeartbeats 1000000000
set_option linter.unusedVariables false
set_option linter.unusedSimpArgs false
structure NtQ where
 c : Int
 s : Int
 d : List UInt8
def nt0 : NtQ := ⟨0, 0, []⟩
def leastM (k : Int) : Int := if k = 1 then 29 else if k = 2 then 23 else if k = 3 then 21 else if k = 4 then 19 else 0
def knownM (k : Int) : Bool := decide (1 ≤ k) && decide (k ≤ 4)
def fitsM (k n : Int) : Bool := decide (leastM k ≤ n) && decide (n ≤ 4096) && (decide (k ≠ 4) || decide (n = 19))
def msgOk (k : Int) (n : Nat) : Bool := knownM k && fitsM k (19 + n)
def frB (k : Int) (b : List UInt8) : List UInt8 := List.replicate 16 255 ++ (be 2 (19 + b.length) ++ (UInt8.ofNat k.toNat :: b))
theorem frB_len (k : Int) (b : List UInt8) : (frB k b).length = 19 + b.length := by
 simp [frB, be_length]
 omega
def headM (b : List UInt8) : Int × Int × NtQ :=
 if b.length < 19 then (0, 0, nt0)
 else if (b.take 16).any (fun c => decide (c ≠ 255)) = true then (0, 0, ⟨1, 1, []⟩)
 else if knownM ((b.getD 18 0).toNat : Int) = false then (0, 0, ⟨1, 3, [b.getD 18 0]⟩)
 else if fitsM ((b.getD 18 0).toNat : Int) (ge ((b.drop 16).take 2) : Nat) = false then (0, 0, ⟨1, 2, [b.getD 16 0, b.getD 17 0]⟩)
 else ((b.getD 18 0).toNat, (ge ((b.drop 16).take 2) : Nat), nt0)
structure StQ where
 b : List UInt8
 n : NtQ
def st0 : StQ := ⟨[], nt0⟩
def feedM (s : StQ) (b : List UInt8) : StQ × Int :=
 if s.n.c ≠ 0 then (s, 6) else if 65536 - (s.b.length : Int) < b.length then (s, 2) else (⟨s.b ++ b, s.n⟩, 0)
def nextM (s : StQ) : StQ × Option (Int × List UInt8) × NtQ :=
 if s.n.c ≠ 0 then (s, none, s.n)
 else if (headM s.b).2.2.c ≠ 0 then (⟨[], (headM s.b).2.2⟩, none, (headM s.b).2.2)
 else if (headM s.b).1 = 0 ∨ (s.b.length : Int) < (headM s.b).2.1 then (s, none, nt0)
 else (⟨s.b.drop (headM s.b).2.1.toNat, s.n⟩, some ((headM s.b).1, (s.b.take (headM s.b).2.1.toNat).drop 19), nt0)
def ntOk (n : NtQ) : Bool := decide (1 ≤ n.c) && decide (n.c ≤ 6) && decide (0 ≤ n.s) && decide (n.s ≤ 255) && decide (n.d.length ≤ 4075)
def ntB (n : NtQ) : List UInt8 := UInt8.ofNat n.c.toNat :: UInt8.ofNat n.s.toNat :: n.d
structure OpQ where
 as : Int
 hold : Int
 id : Int
 four : Bool
 paths : Int
def op0 : OpQ := ⟨0, 0, 0, false, 0⟩
def opCaps (o : OpQ) : List UInt8 := [1, 4, 0, 1, 0, 1] ++ ((if o.four = true then 65 :: 4 :: be 4 o.as.toNat else []) ++ (if 0 < o.paths then [69, 4, 0, 1, 1, UInt8.ofNat o.paths.toNat] else []))
def opB (o : OpQ) : List UInt8 :=
 4 :: (be 2 (if 65535 < o.as then 23456 else o.as).toNat ++ (be 2 o.hold.toNat ++ (be 4 o.id.toNat ++ (UInt8.ofNat ((opCaps o).length + 2) :: 2 :: UInt8.ofNat (opCaps o).length :: opCaps o))))
def pathsM : Nat → Int → List UInt8 → Int
 | 0, p, _ => p
 | k + 1, p, a :: b :: c :: d :: r => pathsM k (if a = 0 ∧ b = 1 ∧ c = 1 ∧ 1 ≤ d.toNat ∧ d.toNat ≤ 3 then d.toNat else p) r
 | _ + 1, p, _ => p
def capM (o : OpQ) (c : Nat) (d : List UInt8) : OpQ × Int :=
 if c = 65 ∧ d.length = 4 then ({ o with as := (ge d : Nat), four := true }, -1)
 else if c = 69 ∧ d.length % 4 = 0 then ({ o with paths := pathsM (d.length / 4) o.paths d }, -1)
 else if c = 65 ∨ c = 69 then (o, 0) else (o, -1)
def eachM {σ : Type} (take : σ → Nat → List UInt8 → σ × Int) : Nat → σ → List UInt8 → σ × Int
 | 0, s, _ => (s, -1)
 | _ + 1, s, [] => (s, -1)
 | _ + 1, s, [c] => ((take s c.toNat []).1, if 0 < (take s c.toNat []).2 then (take s c.toNat []).2 else 0)
 | k + 1, s, c :: n :: r =>
  if r.length < n.toNat then ((take s c.toNat []).1, if 0 < (take s c.toNat []).2 then (take s c.toNat []).2 else 0)
  else if 0 ≤ (take s c.toNat (r.take n.toNat)).2 then take s c.toNat (r.take n.toNat)
  else eachM take k (take s c.toNat (r.take n.toNat)).1 (r.drop n.toNat)
def parM (o : OpQ) (c : Nat) (d : List UInt8) : OpQ × Int := if c ≠ 2 then (o, 4) else eachM capM d.length o d
def faultM (o : OpQ) : Int := if o.as = 0 then 2 else if o.hold = 1 ∨ o.hold = 2 then 6 else if o.id = 0 then 3 else -1
def refM (s : Int) : OpQ × NtQ := (op0, ⟨2, s, []⟩)
def opM (b : List UInt8) : OpQ × NtQ :=
 if b.length = 0 ∨ b.getD 0 0 ≠ 4 then (op0, ⟨2, 1, [0, 4]⟩)
 else if b.length < 10 ∨ (b.getD 9 0).toNat + 10 ≠ b.length then refM 0
 else
  let o : OpQ := ⟨(ge ((b.drop 1).take 2) : Nat), (ge ((b.drop 3).take 2) : Nat), (ge ((b.drop 5).take 4) : Nat), false, 0⟩
  let x := eachM parM (b.length - 10) o (b.drop 10)
  let sub := if x.2 < 0 then faultM x.1 else x.2
  if 0 ≤ sub then refM sub else (x.1, nt0)
end Go.Proofs.YteeogabkkblkgaaGreatDoor
