/- What attributes' bytes are, and what any bytes say of routes, in plain Lean. -/
import Derived.Test.YtdeeokkkcfkbjaaGreatAttF
namespace Go.Proofs.YtdeeokkkcfkbjaaGreat
set_option linter.unusedVariables false
set_option linter.unusedSimpArgs false
--CUT
/-- attributes, as plain data -/
structure PA where
  org : Int
  path : List (Bool × List Int)
  nxt : Int
  med : Int
  pref : Int
  comms : List Int

def segB (w : Nat) (s : Bool × List Int) : List UInt8 := (if s.1 = true then 1 else 2) :: UInt8.ofNat s.2.length :: nb w s.2
def pathB (w : Nat) (l : List (Bool × List Int)) : List UInt8 := l.flatMap (segB w)
/-- an attribute's bytes -/
def attB (f k : Nat) (d : List UInt8) : List UInt8 := if 255 < d.length then UInt8.ofNat (f + 16) :: UInt8.ofNat k :: (be 2 d.length ++ d) else UInt8.ofNat f :: UInt8.ofNat k :: (be 1 d.length ++ d)
def medB (n : Int) : List UInt8 := if 0 ≤ n then attB 128 4 (be 4 n.toNat) else []
def prefB (n : Int) : List UInt8 := if 0 ≤ n then attB 64 5 (be 4 n.toNat) else []
def commB (l : List Int) : List UInt8 := if 0 < l.length then attB 192 8 (nb 4 l) else []
def putB (w : Nat) (p : PA) : List UInt8 :=
  attB 64 1 [UInt8.ofNat p.org.toNat] ++ attB 64 2 (pathB w p.path) ++ attB 64 3 (be 4 p.nxt.toNat) ++ medB p.med ++ prefB p.pref ++ commB p.comms

/-- n numbers of w bytes each -/
def numsG (w n : Nat) (l : List UInt8) : List Int := (List.range n).map fun i => (ge ((l.drop (i * w)).take w) : Int)
/-- the segments that bytes are -/
def segsG (w : Nat) : Nat → List (Bool × List Int) → List UInt8 → Option (List (Bool × List Int))
  | 0, _, _ => none
  | _ + 1, acc, [] => some acc
  | _ + 1, _, [_] => none
  | fuel + 1, acc, k :: n :: l => if (k.toNat = 1 ∨ k.toNat = 2) ∧ 1 ≤ n.toNat ∧ n.toNat ≤ 64 ∧ acc.length < 8 ∧ n.toNat * w ≤ l.length then
      segsG w fuel (acc ++ [(decide (k.toNat = 1), numsG w n.toNat l)]) (l.drop (n.toNat * w)) else none
/-- an attribute of a type -/
def setG (w : Nat) (a : PA) (k : Nat) (d : List UInt8) : Option PA :=
  if k = 1 then if d.length ≠ 1 ∨ 2 < ge d then none else some { a with org := ge d }
  else if k = 2 then match segsG w (d.length + 1) [] d with
    | none => none
    | some p => some { a with path := p }
  else if k = 8 then if d.length = 0 ∨ d.length % 4 ≠ 0 ∨ 128 < d.length then none else some { a with comms := numsG 4 (d.length / 4) d }
  else if d.length ≠ 4 then none
  else if k = 3 then if ge d = 0 then none else some { a with nxt := ge d }
  else if k = 4 then some { a with med := ge d }
  else some { a with pref := ge d }
def flagsI (k : Nat) : Int := if k = 1 ∨ k = 2 ∨ k = 3 ∨ k = 5 then 64 else if k = 4 then 128 else if k = 8 then 192 else -1
structure GS where
  a : PA
  seen : Nat
def takeG (w f k : Nat) (d : List UInt8) (s : GS) : Option GS :=
  if flagsI k < 0 then if 128 ≤ f then some s else none
  else if s.seen.testBit k = true then some s
  else if ((f / 32 * 32 : Nat) : Int) = flagsI k then match setG w s.a k d with
    | none => none
    | some a => some ⟨a, s.seen ||| 2 ^ k⟩
  else none
/-- an attribute's head, data, and what is behind it -/
def hdG : List UInt8 → Option (Nat × Nat × List UInt8 × List UInt8)
  | f :: k :: r => let w := 1 + f.toNat / 16 % 2
    let n := ge (r.take w)
    if w ≤ r.length ∧ n ≤ r.length - w then some (f.toNat, k.toNat, (r.drop w).take n, (r.drop w).drop n) else none
  | _ => none
def allG (w : Nat) : Nat → GS → List UInt8 → Option GS
  | 0, _, _ => none
  | fuel + 1, s, l => match l with
    | [] => some s
    | b :: l' => match hdG (b :: l') with
      | none => none
      | some (f, k, d, r) => match takeG w f k d s with
        | none => none
        | some s' => allG w fuel s' r
def pz : PA := ⟨0, [], 0, 0, 0, []⟩
def p0 : PA := ⟨0, [], 0, -1, -1, []⟩
def mustB (n : Nat) : Bool := n.testBit 1 && n.testBit 2 && n.testBit 3
/-- attributes, and a verdict -/
def getG (w : Nat) (l : List UInt8) : PA × Int := match allG w (l.length + 1) ⟨p0, 0⟩ l with
  | none => (pz, 3)
  | some s => if mustB s.seen = true then (s.a, 1) else (pz, 2)

theorem hdG_len {l : List UInt8} {f k : Nat} {d r : List UInt8} (h : hdG l = some (f, k, d, r)) : r.length < l.length ∧ d.length ≤ l.length ∧ f < 256 ∧ k < 256 := by
  match l, h with
  | f' :: k' :: q, h =>
    simp only [hdG] at h
    split at h
    · rename_i hc
      injection h with h
      injection h with h1 h
      injection h with h2 h
      injection h with h3 h4
      subst h1 h2 h3 h4
      have := f'.toNat_lt
      have := k'.toNat_lt
      refine ⟨?_, ?_, by assumption, by assumption⟩
      · simp only [List.length_drop, List.length_cons]; omega
      · simp only [List.length_take, List.length_drop, List.length_cons]; omega
    · cases h
theorem allG_fuel (w : Nat) : ∀ (n m : Nat) (s : GS) (l : List UInt8), l.length < n → l.length < m → allG w n s l = allG w m s l := by
  intro n
  induction n with
  | zero => intro m s l h; omega
  | succ n ih =>
    intro m s l h1 h2
    cases m with
    | zero => omega
    | succ m =>
      cases l with
      | nil => rfl
      | cons b l =>
        simp only [allG]
        split
        · rfl
        · rename_i hh
          have hl := (hdG_len hh).1
          split
          · rfl
          · exact ih m _ _ (by omega) (by omega)
def allR (w : Nat) (s : GS) (l : List UInt8) : Option GS := allG w (l.length + 1) s l
theorem allR_nil (w : Nat) (s : GS) : allR w s [] = some s := rfl
theorem allR_cons (w : Nat) (s : GS) (l : List UInt8) (hl : l ≠ []) : allR w s l = match hdG l with
    | none => none
    | some (f, k, d, r) => match takeG w f k d s with
      | none => none
      | some s' => allR w s' r := by
  cases l with
  | nil => exact absurd rfl hl
  | cons b l =>
    unfold allR
    conv => lhs; simp only [allG]
    split
    · rfl
    · rename_i hh
      have hl := (hdG_len hh).1
      split
      · rfl
      · exact allG_fuel w _ _ _ _ (by omega) (by omega)
theorem segsG_fuel (w : Nat) : ∀ (n m : Nat) (acc : List (Bool × List Int)) (l : List UInt8), l.length < n → l.length < m → segsG w n acc l = segsG w m acc l := by
  intro n
  induction n with
  | zero => intro m acc l h; omega
  | succ n ih =>
    intro m acc l h1 h2
    cases m with
    | zero => omega
    | succ m =>
      match l with
      | [] => rfl
      | [_] => rfl
      | k :: q :: l =>
        simp only [segsG]
        split
        · simp only [List.length_cons] at h1 h2
          exact ih m _ _ (by simp only [List.length_drop]; omega) (by simp only [List.length_drop]; omega)
        · rfl
def segsR (w : Nat) (acc : List (Bool × List Int)) (l : List UInt8) : Option (List (Bool × List Int)) := segsG w (l.length + 1) acc l
theorem segsR_nil (w : Nat) (acc : List (Bool × List Int)) : segsR w acc [] = some acc := rfl
theorem segsR_one (w : Nat) (acc : List (Bool × List Int)) (b : UInt8) : segsR w acc [b] = none := rfl
theorem segsR_cons (w : Nat) (acc : List (Bool × List Int)) (k n : UInt8) (l : List UInt8) : segsR w acc (k :: n :: l) = if (k.toNat = 1 ∨ k.toNat = 2) ∧ 1 ≤ n.toNat ∧ n.toNat ≤ 64 ∧ acc.length < 8 ∧ n.toNat * w ≤ l.length then
      segsR w (acc ++ [(decide (k.toNat = 1), numsG w n.toNat l)]) (l.drop (n.toNat * w)) else none := by
  unfold segsR
  conv => lhs; simp only [segsG]
  split
  · exact segsG_fuel w _ _ _ _ (by simp only [List.length_drop, List.length_cons]; omega) (by omega)
  · rfl
theorem numsG_length (w n : Nat) (l : List UInt8) : (numsG w n l).length = n := by simp [numsG]
theorem numsG_snoc (w n : Nat) (l : List UInt8) : numsG w (n + 1) l = numsG w n l ++ [(ge ((l.drop (n * w)).take w) : Int)] := by simp [numsG, List.range_succ]

/-! ## what is put is got -/
theorem nb_cons (w : Nat) (n : Int) (l : List Int) : nb w (n :: l) = be w n.toNat ++ nb w l := rfl
theorem numsG_cons (w n : Nat) (l : List UInt8) : numsG w (n + 1) l = (ge (l.take w) : Int) :: numsG w n (l.drop w) := by
  unfold numsG
  rw [List.range_succ_eq_map, List.map_cons, List.map_map]
  congr 1
  · simp
  · refine List.map_congr_left fun i _ => ?_
    simp only [Function.comp, List.drop_drop]
    rw [show Nat.succ i * w = w + i * w by rw [Nat.succ_mul, Nat.add_comm]]
theorem ge_nb (w : Nat) (h4 : w ≤ 4) {n : Int} (hn : fitsB w n = true) (r : List UInt8) : (ge ((be w n.toNat ++ r).take w) : Int) = n := by
  obtain ⟨k, rfl, hk⟩ := fitsB_nat hn
  rw [List.take_left' (be_length w _), ge_be, Int.toNat_natCast, Nat.mod_eq_of_lt hk]
theorem numsG_nb (w : Nat) (h4 : w ≤ 4) : ∀ (l : List Int) (r : List UInt8), (∀ n ∈ l, fitsB w n = true) → numsG w l.length (nb w l ++ r) = l := by
  intro l
  induction l with
  | nil => intro r _; rfl
  | cons n l ih =>
    intro r h
    rw [List.length_cons, numsG_cons, nb_cons, List.append_assoc, ge_nb w h4 (h n (by simp)), List.drop_left' (be_length w _), ih r fun m hm => h m (by simp [hm])]
def okSeg (w : Nat) (s : Bool × List Int) : Bool := decide (1 ≤ s.2.length ∧ s.2.length ≤ 64) && !s.2.any (fun n => !fitsB w n)
theorem any_not {α : Type} {p : α → Bool} {l : List α} (h : (!l.any fun n => !p n) = true) : ∀ n ∈ l, p n = true := by
  intro n hn
  cases hp : p n with
  | true => rfl
  | false =>
    rw [List.any_eq_true.2 ⟨n, hn, by rw [hp]; rfl⟩] at h
    cases h
theorem segsR_seg (w : Nat) (h4 : w ≤ 4) (acc : List (Bool × List Int)) (s : Bool × List Int) (r : List UInt8) (hs : okSeg w s = true) (ha : acc.length < 8) : segsR w acc (segB w s ++ r) = segsR w (acc ++ [s]) r := by
  obtain ⟨b, ns⟩ := s
  simp only [okSeg, Bool.and_eq_true, decide_eq_true_eq] at hs
  have hf := any_not hs.2
  have hn : (UInt8.ofNat ns.length).toNat = ns.length := by simp; omega
  have hl := nb_length w ns
  rw [segB, List.cons_append, List.cons_append, segsR_cons, hn, if_pos ⟨by cases b <;> simp, hs.1.1, hs.1.2, ha, by rw [List.length_append, hl]; omega⟩, numsG_nb w h4 ns r hf, List.drop_left' hl]
  congr 3
  cases b <;> simp
theorem segsR_path (w : Nat) (h4 : w ≤ 4) : ∀ (l acc : List (Bool × List Int)), (∀ s ∈ l, okSeg w s = true) → acc.length + l.length ≤ 8 → segsR w acc (pathB w l) = some (acc ++ l) := by
  intro l
  induction l with
  | nil => intro acc _ _; rw [List.append_nil]; rfl
  | cons s l ih =>
    intro acc h hl
    rw [List.length_cons] at hl
    rw [show pathB w (s :: l) = segB w s ++ pathB w l from rfl, segsR_seg w h4 acc s _ (h s (by simp)) (by omega), ih _ (fun t ht => h t (by simp [ht])) (by rw [List.length_append]; simp; omega), List.append_assoc]
    rfl
theorem pathB_len (w : Nat) (h4 : w ≤ 4) : ∀ (l : List (Bool × List Int)), (∀ s ∈ l, okSeg w s = true) → (pathB w l).length ≤ l.length * 258 := by
  intro l
  induction l with
  | nil => intro _; simp [pathB]
  | cons s l ih =>
    intro h
    have h1 := ih fun t ht => h t (by simp [ht])
    have h2 := h s (by simp)
    simp only [okSeg, Bool.and_eq_true, decide_eq_true_eq] at h2
    have h3 : s.2.length * w ≤ 64 * 4 := Nat.mul_le_mul h2.1.2 h4
    rw [show pathB w (s :: l) = segB w s ++ pathB w l from rfl, List.length_append, segB, List.length_cons, List.length_cons, nb_length, List.length_cons]
    omega
theorem hdG_att (f k : Nat) (d r : List UInt8) (hf : f < 256) (hf' : f / 16 % 2 = 0) (hk : k < 256) (hd : d.length < 65536) : ∃ f', hdG (attB f k d ++ r) = some (f', k, d, r) ∧ f' / 32 = f / 32 := by
  unfold attB
  split
  · rename_i hlen
    refine ⟨f + 16, ?_, by omega⟩
    have e1 : (UInt8.ofNat (f + 16)).toNat = f + 16 := by simp; omega
    have e2 : (UInt8.ofNat k).toNat = k := by simp; omega
    have e3 : 1 + (f + 16) / 16 % 2 = 2 := by omega
    have e4 : (be 2 d.length ++ (d ++ r)).take 2 = be 2 d.length := List.take_left' (be_length 2 _)
    have e5 : (be 2 d.length ++ (d ++ r)).drop 2 = d ++ r := List.drop_left' (be_length 2 _)
    have e6 : ge (be 2 d.length) = d.length := by rw [ge_be, Nat.mod_eq_of_lt (by omega)]
    have e7 : (be 2 d.length).length = 2 := be_length 2 _
    simp only [List.cons_append, hdG, e1, e2, e3, List.append_assoc, e4, e5, e6]
    rw [if_pos ⟨by simp only [List.length_append, e7]; omega, by simp only [List.length_append, e7]; omega⟩, List.take_left' rfl, List.drop_left' rfl]
  · rename_i hlen
    refine ⟨f, ?_, rfl⟩
    have e1 : (UInt8.ofNat f).toNat = f := by simp; omega
    have e2 : (UInt8.ofNat k).toNat = k := by simp; omega
    have e3 : 1 + f / 16 % 2 = 1 := by omega
    have e4 : (be 1 d.length ++ (d ++ r)).take 1 = be 1 d.length := List.take_left' (be_length 1 _)
    have e5 : (be 1 d.length ++ (d ++ r)).drop 1 = d ++ r := List.drop_left' (be_length 1 _)
    have e6 : ge (be 1 d.length) = d.length := by rw [ge_be, Nat.mod_eq_of_lt (by omega)]
    have e7 : (be 1 d.length).length = 1 := be_length 1 _
    simp only [List.cons_append, hdG, e1, e2, e3, List.append_assoc, e4, e5, e6]
    rw [if_pos ⟨by simp only [List.length_append, e7]; omega, by simp only [List.length_append, e7]; omega⟩, List.take_left' rfl, List.drop_left' rfl]
theorem attB_ne (f k : Nat) (d r : List UInt8) : attB f k d ++ r ≠ [] := by unfold attB; split <;> simp
/-- an attribute ahead of others -/
theorem allR_att (w : Nat) (s : GS) (f k : Nat) (d r : List UInt8) (hf : f < 256) (hf' : f % 32 = 0) (hk : k < 256) (hd : d.length < 65536) :
    allR w s (attB f k d ++ r) = match takeG w f k d s with
      | none => none
      | some s' => allR w s' r := by
  obtain ⟨f', h1, h2⟩ := hdG_att f k d r hf (by omega) hk hd
  rw [allR_cons _ _ _ (attB_ne f k d r), h1]
  have e : takeG w f' k d s = takeG w f k d s := by
    unfold takeG
    rw [h2]
    have : (128 ≤ f') = (128 ≤ f) := by apply propext; omega
    simp only [this]
  simp only [e]
/-- may attributes be? -/
def okP (w : Nat) (p : PA) : Bool := decide (0 ≤ p.org ∧ p.org ≤ 2 ∧ p.nxt ≠ 0 ∧ -1 ≤ p.med ∧ p.med ≤ 4294967295 ∧ -1 ≤ p.pref ∧ p.pref ≤ 4294967295 ∧ p.path.length ≤ 8 ∧ p.comms.length ≤ 32) &&
  !p.path.any (fun s => !okSeg w s) && !p.comms.any (fun n => !fitsB 4 n)
theorem numsG_comms (l : List Int) (h : ∀ n ∈ l, fitsB 4 n = true) : numsG 4 ((nb 4 l).length / 4) (nb 4 l) = l := by
  have := numsG_nb 4 (Nat.le_refl 4) l [] h
  rw [List.append_nil] at this
  rw [nb_length, Nat.mul_div_cancel _ (by decide : 0 < 4)]
  exact this
theorem takeG_new {w f k : Nat} {d : List UInt8} {s : GS} {a : PA} (hk : flagsI k = (f / 32 * 32 : Nat)) (hs : s.seen.testBit k = false) (ha : setG w s.a k d = some a) : takeG w f k d s = some ⟨a, s.seen ||| 2 ^ k⟩ := by
  unfold takeG
  rw [if_neg (by rw [hk]; omega), if_neg (by rw [hs]; decide), if_pos hk.symm, ha]
theorem takeG_old {w f k : Nat} {d : List UInt8} {s : GS} (hk : 0 ≤ flagsI k) (hs : s.seen.testBit k = true) : takeG w f k d s = some s := by
  unfold takeG
  rw [if_neg (by omega), if_pos hs]
theorem takeG_other {w f k : Nat} {d : List UInt8} {s : GS} (hk : 9 ≤ k) (hf : 128 ≤ f) : takeG w f k d s = some s := by
  have e : flagsI k = -1 := by
    unfold flagsI
    rw [if_neg (show ¬ (k = 1 ∨ k = 2 ∨ k = 3 ∨ k = 5) by omega), if_neg (show ¬ k = 4 by omega), if_neg (show ¬ k = 8 by omega)]
  unfold takeG
  rw [if_pos (by rw [e]; decide), if_pos hf]
theorem setG_num (w : Nat) (a : PA) (k : Nat) (n : Int) (hk : k = 3 ∧ n ≠ 0 ∨ k = 4 ∨ k = 5) (hn : 0 ≤ n ∧ n ≤ 4294967295) : setG w a k (be 4 n.toNat) = some (if k = 3 then { a with nxt := n } else if k = 4 then { a with med := n } else { a with pref := n }) := by
  have hg : ge (be 4 n.toNat) = n.toNat := by rw [ge_be, Nat.mod_eq_of_lt (by omega)]
  have hz : ((n.toNat : Nat) : Int) = n := by omega
  unfold setG
  rw [if_neg (by omega), if_neg (by omega), if_neg (by omega), if_neg (by simp [be_length]), hg, hz]
  rcases hk with ⟨rfl, h⟩ | rfl | rfl
  · rw [if_pos rfl, if_neg (by omega), if_pos rfl]
  · rfl
  · rfl
structure OkP (w : Nat) (p : PA) : Prop where
  o : 0 ≤ p.org ∧ p.org ≤ 2
  n : 0 < p.nxt ∧ p.nxt ≤ 4294967295
  m : -1 ≤ p.med ∧ p.med ≤ 4294967295
  f : -1 ≤ p.pref ∧ p.pref ≤ 4294967295
  l : p.path.length ≤ 8
  c : p.comms.length ≤ 32
  s : ∀ s ∈ p.path, okSeg w s = true
  cs : ∀ n ∈ p.comms, fitsB 4 n = true
theorem okP_of {w : Nat} {p : PA} (hn : 0 ≤ p.nxt ∧ p.nxt ≤ 4294967295) (h : okP w p = true) : OkP w p := by
  simp only [okP, Bool.and_eq_true, decide_eq_true_eq] at h
  obtain ⟨⟨h1, h2⟩, h3⟩ := h
  exact ⟨by omega, by omega, by omega, by omega, by omega, by omega, any_not h2, any_not h3⟩
theorem any_not' {α : Type} {p : α → Bool} {l : List α} (h : ∀ n ∈ l, p n = true) : (!l.any fun n => !p n) = true := by
  rw [List.any_eq_false.2 fun n hn => by rw [h n hn]; decide]
  rfl
theorem okP_to {w : Nat} {p : PA} (h : OkP w p) : okP w p = true := by
  unfold okP
  rw [any_not' h.s, any_not' h.cs, decide_eq_true ⟨h.o.1, h.o.2, by have := h.n.1; omega, h.m.1, h.m.2, h.f.1, h.f.2, h.l, h.c⟩]
  rfl
theorem set_org (w : Nat) (a : PA) (n : Int) (h : 0 ≤ n ∧ n ≤ 2) : setG w a 1 [UInt8.ofNat n.toNat] = some { a with org := n } := by
  have hg : ge [UInt8.ofNat n.toNat] = n.toNat := by simp [ge]; omega
  unfold setG
  rw [if_pos rfl, hg, if_neg (by simp; omega)]
  have hz : ((n.toNat : Nat) : Int) = n := by omega
  rw [hz]
theorem set_path (w : Nat) (h4 : w ≤ 4) (a : PA) (p : PA) (h : OkP w p) : setG w a 2 (pathB w p.path) = some { a with path := p.path } := by
  have := segsR_path w h4 p.path [] h.s (by simpa using h.l)
  unfold segsR at this
  unfold setG
  rw [if_neg (by decide), if_pos rfl, this]
  rfl
theorem set_comms (w : Nat) (a : PA) (p : PA) (h : OkP w p) (h0 : 0 < p.comms.length) : setG w a 8 (nb 4 p.comms) = some { a with comms := p.comms } := by
  have hl := nb_length 4 p.comms
  have := h.c
  unfold setG
  rw [if_neg (by decide), if_neg (by decide), if_pos rfl, if_neg (by rw [hl]; omega), numsG_comms _ h.cs]
theorem bt {a b j : Nat} (c : Prop) [Decidable c] (ha : a.testBit j = false) (hb : b.testBit j = false) : (a ||| if c then b else 0).testBit j = false := by
  by_cases h : c
  · rw [if_pos h, Nat.testBit_or, ha, hb]; rfl
  · rw [if_neg h, Nat.or_zero, ha]
/-- the bits of the types that are there -/
def bits (p : PA) : Nat := (((14 ||| if 0 ≤ p.med then 16 else 0) ||| if 0 ≤ p.pref then 32 else 0) ||| if 0 < p.comms.length then 256 else 0)
/-- attributes' bytes ahead of others -/
theorem allR_put (w : Nat) (h4 : w ≤ 4) (p : PA) (h : OkP w p) (r : List UInt8) : allR w ⟨p0, 0⟩ (putB w p ++ r) = allR w ⟨p, bits p⟩ r := by
  have hpl := pathB_len w h4 p.path h.s
  have hl := h.l
  have hcl := nb_length 4 p.comms
  have hc := h.c
  unfold putB
  simp only [List.append_assoc]
  rw [allR_att w _ 64 1 _ _ (by decide) (by decide) (by decide) (by simp), takeG_new rfl (by first | decide | (dsimp only; decide) | simp) (set_org w _ p.org h.o)]
  simp only
  rw [allR_att w _ 64 2 _ _ (by decide) (by decide) (by decide) (by omega), takeG_new rfl (by first | decide | (dsimp only; decide) | simp) (set_path w h4 _ p h)]
  simp only
  rw [allR_att w _ 64 3 _ _ (by decide) (by decide) (by decide) (by simp [be_length]), takeG_new rfl (by first | decide | (dsimp only; decide) | simp) (setG_num w _ 3 p.nxt (.inl ⟨rfl, by have := h.n; omega⟩) (by have := h.n; omega))]
  simp only
  have hmed : ∀ q : List UInt8, allR w ⟨⟨p.org, p.path, p.nxt, -1, -1, []⟩, 14⟩ (medB p.med ++ q) = allR w ⟨⟨p.org, p.path, p.nxt, p.med, -1, []⟩, 14 ||| if 0 ≤ p.med then 16 else 0⟩ q := fun q => by
    unfold medB
    by_cases hm : 0 ≤ p.med
    · rw [if_pos hm, if_pos hm, allR_att w _ 128 4 _ _ (by decide) (by decide) (by decide) (by simp [be_length]), takeG_new rfl (by first | decide | (dsimp only; decide) | simp) (setG_num w _ 4 p.med (.inr (.inl rfl)) (by have := h.m; omega))]
      rfl
    · rw [if_neg hm, if_neg hm, show p.med = -1 by have := h.m; omega]
      rfl
  have hpref : ∀ (s : Nat) (hs : s.testBit 5 = false) (q : List UInt8), allR w ⟨⟨p.org, p.path, p.nxt, p.med, -1, []⟩, s⟩ (prefB p.pref ++ q) = allR w ⟨⟨p.org, p.path, p.nxt, p.med, p.pref, []⟩, s ||| if 0 ≤ p.pref then 32 else 0⟩ q := fun s hs q => by
    unfold prefB
    by_cases hm : 0 ≤ p.pref
    · rw [if_pos hm, if_pos hm, allR_att w _ 64 5 _ _ (by decide) (by decide) (by decide) (by simp [be_length]), takeG_new rfl hs (setG_num w _ 5 p.pref (.inr (.inr rfl)) (by have := h.f; omega))]
      rfl
    · rw [if_neg hm, if_neg hm, show p.pref = -1 by have := h.f; omega, Nat.or_zero]
      rfl
  have hcomm : ∀ (s : Nat) (hs : s.testBit 8 = false) (q : List UInt8), allR w ⟨⟨p.org, p.path, p.nxt, p.med, p.pref, []⟩, s⟩ (commB p.comms ++ q) = allR w ⟨p, s ||| if 0 < p.comms.length then 256 else 0⟩ q := fun s hs q => by
    unfold commB
    by_cases hm : 0 < p.comms.length
    · rw [if_pos hm, if_pos hm, allR_att w _ 192 8 _ _ (by decide) (by decide) (by decide) (by omega), takeG_new (k := 8) (f := 192) (s := ⟨⟨p.org, p.path, p.nxt, p.med, p.pref, []⟩, s⟩) (by decide) hs (set_comms w _ p h hm)]
    · rw [if_neg hm, if_neg hm, Nat.or_zero, ← List.eq_nil_of_length_eq_zero (by omega : p.comms.length = 0)]
      rfl
  refine (hmed _).trans ?_
  rw [hpref (14 ||| if 0 ≤ p.med then 16 else 0) (bt _ (by decide) (by decide)), hcomm ((14 ||| if 0 ≤ p.med then 16 else 0) ||| if 0 ≤ p.pref then 32 else 0) (bt _ (bt _ (by decide) (by decide)) (by decide))]
  rfl
theorem bits_must (p : PA) : mustB (bits p) = true := by
  unfold bits
  split <;> split <;> split <;> decide
/-- what is put is got -/
theorem get_put (w : Nat) (h4 : w ≤ 4) (p : PA) (h : OkP w p) : getG w (putB w p) = (p, 1) := by
  have h1 := allR_put w h4 p h []
  rw [List.append_nil] at h1
  unfold allR at h1
  unfold getG
  rw [h1]
  simp only [List.length_nil, allG, bits_must, if_true]
theorem takeG_seen {w f k : Nat} {d : List UInt8} {s s' : GS} (h : takeG w f k d s = some s') (j : Nat) (hj : s.seen.testBit j = true) : s'.seen.testBit j = true := by
  unfold takeG at h
  split at h
  · split at h
    · cases h; exact hj
    · cases h
  · split at h
    · cases h; exact hj
    · split at h
      · split at h
        · cases h
        · cases h; simp [hj]
      · cases h
/-- what is there already, twice -/
theorem allR_old (w : Nat) (f k : Nat) (s : GS) (d r : List UInt8) (hf : f < 256) (hf' : f % 32 = 0) (hk : k < 256) (hd : d.length < 65536) (h0 : 0 ≤ flagsI k) (hs : s.seen.testBit k = true) : allR w s (attB f k d ++ r) = allR w s r := by
  rw [allR_att w s f k d r hf hf' hk hd, takeG_old h0 hs]
theorem allR_again (w : Nat) (h4 : w ≤ 4) (s : GS) (p : PA) (h : OkP w p) (hs : s.seen = 318) : allR w s (putB w p) = some s := by
  have hpl := pathB_len w h4 p.path h.s
  have hl := h.l
  have hcl := nb_length 4 p.comms
  have hc := h.c
  unfold putB
  simp only [List.append_assoc]
  rw [allR_old w 64 1 s _ _ (by decide) (by decide) (by decide) (by simp) (by decide) (by rw [hs]; decide), allR_old w 64 2 s _ _ (by decide) (by decide) (by decide) (by omega) (by decide) (by rw [hs]; decide),
    allR_old w 64 3 s _ _ (by decide) (by decide) (by decide) (by simp [be_length]) (by decide) (by rw [hs]; decide)]
  have h1 : ∀ q, allR w s (medB p.med ++ q) = allR w s q := fun q => by
    unfold medB
    split
    · rw [allR_old w 128 4 s _ _ (by decide) (by decide) (by decide) (by simp [be_length]) (by decide) (by rw [hs]; decide)]
    · rfl
  have h2 : ∀ q, allR w s (prefB p.pref ++ q) = allR w s q := fun q => by
    unfold prefB
    split
    · rw [allR_old w 64 5 s _ _ (by decide) (by decide) (by decide) (by simp [be_length]) (by decide) (by rw [hs]; decide)]
    · rfl
  have h3 : allR w s (commB p.comms) = some s := by
    unfold commB
    split
    · have := allR_old w 192 8 s (nb 4 p.comms) [] (by decide) (by decide) (by decide) (by omega) (by decide) (by rw [hs]; decide)
      rw [List.append_nil] at this
      rw [this]
      rfl
    · rfl
  rw [h1, h2, h3]
/-- of attributes that are there twice the first ones count -/
theorem get_twice (w : Nat) (h4 : w ≤ 4) (p q : PA) (h : OkP w p) (hq : OkP w q) (hm : 0 ≤ p.med) (hf : 0 ≤ p.pref) (hc : 0 < p.comms.length) (k : Nat) (hk : 9 ≤ k ∧ k ≤ 255) (d : List UInt8) (hd : d.length ≤ 255) :
    getG w (putB w p ++ (attB 192 k d ++ putB w q)) = (p, 1) := by
  have hb : bits p = 318 := by unfold bits; rw [if_pos hm, if_pos hf, if_pos hc]; rfl
  have h1 := allR_put w h4 p h (attB 192 k d ++ putB w q)
  rw [allR_att w _ 192 k d _ (by decide) (by decide) (by omega) (by omega), takeG_other hk.1 (by decide)] at h1
  simp only at h1
  rw [allR_again w h4 _ q hq hb] at h1
  unfold allR at h1
  unfold getG
  rw [h1]
  simp only [bits_must, if_true]
/-- attributes without their first one -/
theorem get_less (w : Nat) (h4 : w ≤ 4) (p : PA) (h : OkP w p) : getG w ((putB w p).drop 4) = (pz, 2) := by
  have hpl := pathB_len w h4 p.path h.s
  have hl := h.l
  have hcl := nb_length 4 p.comms
  have hc := h.c
  have e0 : (putB w p).drop 4 = attB 64 2 (pathB w p.path) ++ (attB 64 3 (be 4 p.nxt.toNat) ++ (medB p.med ++ (prefB p.pref ++ commB p.comms))) := by
    unfold putB
    simp only [List.append_assoc]
    rfl
  rw [e0]
  suffices hsuf : ∃ s, allR w ⟨p0, 0⟩ (attB 64 2 (pathB w p.path) ++ (attB 64 3 (be 4 p.nxt.toNat) ++ (medB p.med ++ (prefB p.pref ++ commB p.comms)))) = some s ∧ s.seen.testBit 1 = false by
    obtain ⟨s, h1, h2⟩ := hsuf
    unfold allR at h1
    unfold getG
    rw [h1]
    have : mustB s.seen = false := by unfold mustB; rw [h2]; rfl
    simp only [this]
    rfl
  rw [allR_att w _ 64 2 _ _ (by decide) (by decide) (by decide) (by omega), takeG_new rfl (by first | decide | (dsimp only; decide) | simp) (set_path w h4 _ p h)]
  simp only
  rw [allR_att w _ 64 3 _ _ (by decide) (by decide) (by decide) (by simp [be_length]), takeG_new rfl (by first | decide | (dsimp only; decide) | simp) (setG_num w _ 3 p.nxt (.inl ⟨rfl, by have := h.n; omega⟩) (by have := h.n; omega))]
  simp only
  have hmed : ∀ (a : PA) (q : List UInt8), ∃ a', allR w ⟨a, 12⟩ (medB p.med ++ q) = allR w ⟨a', 12 ||| if 0 ≤ p.med then 16 else 0⟩ q := fun a q => by
    unfold medB
    by_cases hm : 0 ≤ p.med
    · rw [if_pos hm, if_pos hm, allR_att w _ 128 4 _ _ (by decide) (by decide) (by decide) (by simp [be_length]), takeG_new rfl (by first | decide | (dsimp only; decide) | simp) (setG_num w _ 4 p.med (.inr (.inl rfl)) (by have := h.m; omega))]
      exact ⟨_, rfl⟩
    · rw [if_neg hm, if_neg hm]
      exact ⟨_, rfl⟩
  have hpref : ∀ (a : PA) (s : Nat) (hs : s.testBit 5 = false) (q : List UInt8), ∃ a', allR w ⟨a, s⟩ (prefB p.pref ++ q) = allR w ⟨a', s ||| if 0 ≤ p.pref then 32 else 0⟩ q := fun a s hs q => by
    unfold prefB
    by_cases hm : 0 ≤ p.pref
    · rw [if_pos hm, if_pos hm, allR_att w _ 64 5 _ _ (by decide) (by decide) (by decide) (by simp [be_length]), takeG_new rfl hs (setG_num w _ 5 p.pref (.inr (.inr rfl)) (by have := h.f; omega))]
      exact ⟨_, rfl⟩
    · rw [if_neg hm, if_neg hm, Nat.or_zero]
      exact ⟨_, rfl⟩
  have hcomm : ∀ (a : PA) (s : Nat) (hs : s.testBit 8 = false), ∃ a', allR w ⟨a, s⟩ (commB p.comms) = some ⟨a', s ||| if 0 < p.comms.length then 256 else 0⟩ := fun a s hs => by
    unfold commB
    by_cases hm : 0 < p.comms.length
    · have := allR_att w ⟨a, s⟩ 192 8 (nb 4 p.comms) [] (by decide) (by decide) (by decide) (by omega)
      rw [List.append_nil] at this
      rw [if_pos hm, if_pos hm, this, takeG_new (k := 8) (f := 192) (s := ⟨a, s⟩) (by decide) hs (set_comms w a p h hm)]
      exact ⟨_, rfl⟩
    · rw [if_neg hm, if_neg hm, Nat.or_zero]
      exact ⟨_, rfl⟩
  obtain ⟨a1, e1⟩ := hmed _ (prefB p.pref ++ commB p.comms)
  obtain ⟨a2, e2⟩ := hpref a1 (12 ||| if 0 ≤ p.med then 16 else 0) (bt _ (by decide) (by decide)) (commB p.comms)
  obtain ⟨a3, e3⟩ := hcomm a2 ((12 ||| if 0 ≤ p.med then 16 else 0) ||| if 0 ≤ p.pref then 32 else 0) (bt _ (bt _ (by decide) (by decide)) (by decide))
  refine ⟨_, e1.trans (e2.trans e3), ?_⟩
  exact bt _ (bt _ (bt _ (by decide) (by decide)) (by decide)) (by decide)
/-! ## what is fine may be -/
theorem numsG_fits (w : Nat) (n : Nat) (l : List UInt8) : ∀ x ∈ numsG w n l, fitsB w x = true := by
  intro x hx
  obtain ⟨i, _, rfl⟩ := List.mem_map.1 hx
  have h1 := ge_lt ((l.drop (i * w)).take w)
  have h2 : ((l.drop (i * w)).take w).length ≤ w := by simp; omega
  have h3 := Nat.pow_le_pow_right (show 0 < 256 by decide) h2
  simp only [fitsB, Bool.and_eq_true, decide_eq_true_eq]
  omega
theorem segsR_ok (w : Nat) : ∀ (n : Nat) (acc : List (Bool × List Int)) (l : List UInt8) (p : List (Bool × List Int)), segsG w n acc l = some p → acc.length ≤ 8 → (∀ s ∈ acc, okSeg w s = true) → p.length ≤ 8 ∧ ∀ s ∈ p, okSeg w s = true := by
  intro n
  induction n with
  | zero => intro acc l p h; cases h
  | succ n ih =>
    intro acc l p h h1 h2
    match l, h with
    | [], h => cases h; exact ⟨h1, h2⟩
    | k :: q :: l, h =>
      simp only [segsG] at h
      split at h
      · rename_i hc
        refine ih _ _ _ h (by simp; omega) fun s hs => ?_
        rcases List.mem_append.1 hs with hs | hs
        · exact h2 s hs
        · simp at hs
          subst hs
          simp only [okSeg, numsG_length]
          rw [any_not' (numsG_fits w _ _), decide_eq_true (by omega)]
          rfl
      · cases h
structure OkS (w : Nat) (s : GS) : Prop where
  o : 0 ≤ s.a.org ∧ s.a.org ≤ 2
  n : 0 ≤ s.a.nxt ∧ s.a.nxt ≤ 4294967295
  n3 : s.seen.testBit 3 = true → s.a.nxt ≠ 0
  m : -1 ≤ s.a.med ∧ s.a.med ≤ 4294967295
  f : -1 ≤ s.a.pref ∧ s.a.pref ≤ 4294967295
  l : s.a.path.length ≤ 8
  c : s.a.comms.length ≤ 32
  sg : ∀ t ∈ s.a.path, okSeg w t = true
  cs : ∀ n ∈ s.a.comms, fitsB 4 n = true
  b2 : s.seen.testBit 2 = false → s.a.path = []
  b8 : s.seen.testBit 8 = false → s.a.comms = []
  sl : s.seen < 512
theorem okS_p0 (w : Nat) : OkS w ⟨p0, 0⟩ := ⟨by decide, by decide, by decide, by decide, by decide, by decide, by decide, fun t h => (by cases h), fun t h => (by cases h), fun _ => rfl, fun _ => rfl, by decide⟩
theorem ge_four {d : List UInt8} (h : d.length = 4) : (ge d : Int) ≤ 4294967295 := by
  have := ge_lt d
  rw [h] at this
  omega
theorem or_lt512 {s k : Nat} (hs : s < 512) (hk : k ≤ 8) : s ||| 2 ^ k < 512 := Nat.or_lt_two_pow (n := 9) hs (by have := Nat.pow_lt_pow_right (a := 2) (by decide) (show k < 9 by omega); omega)
theorem flags_le {k : Nat} (h : ¬ flagsI k < 0) : k = 1 ∨ k = 2 ∨ k = 3 ∨ k = 4 ∨ k = 5 ∨ k = 8 := by
  unfold flagsI at h
  split at h
  · omega
  · split at h
    · omega
    · split at h
      · omega
      · omega
theorem takeG_ok {w f k : Nat} {d : List UInt8} {s s' : GS} (h : takeG w f k d s = some s') (hs : OkS w s) : OkS w s' := by
  unfold takeG at h
  split at h
  · split at h
    · cases h; exact hs
    · cases h
  rename_i hk
  have hk := flags_le hk
  split at h
  · cases h; exact hs
  split at h
  rotate_left
  · cases h
  split at h
  · cases h
  rename_i hbit _ a ha
  cases h
  have hsl := or_lt512 hs.sl (show k ≤ 8 by omega)
  have hb : ∀ j, j ≠ k → (s.seen ||| 2 ^ k).testBit j = s.seen.testBit j := fun j hj => by
    rw [Nat.testBit_or, Nat.testBit_two_pow_of_ne (Ne.symm hj), Bool.or_false]
  have hb1 : (s.seen ||| 2 ^ k).testBit k = true := by rw [Nat.testBit_or, Nat.testBit_two_pow_self, Bool.or_true]
  unfold setG at ha
  rcases hk with rfl | rfl | rfl | rfl | rfl | rfl
  · rw [if_pos rfl] at ha
    split at ha
    · cases ha
    · cases ha
      exact ⟨by simp only; omega, hs.n, by rw [hb 3 (by decide)]; exact hs.n3, hs.m, hs.f, hs.l, hs.c, hs.sg, hs.cs, by rw [hb 2 (by decide)]; exact hs.b2, by rw [hb 8 (by decide)]; exact hs.b8, hsl⟩
  · rw [if_neg (by decide), if_pos rfl] at ha
    split at ha
    · cases ha
    · rename_i p hp
      cases ha
      have h1 := segsR_ok w _ _ _ _ hp (by decide) (fun s h => by cases h)
      exact ⟨hs.o, hs.n, by rw [hb 3 (by decide)]; exact hs.n3, hs.m, hs.f, h1.1, hs.c, h1.2, hs.cs, (by rw [hb1]; intro h; cases h), by rw [hb 8 (by decide)]; exact hs.b8, hsl⟩
  · rw [if_neg (by decide), if_neg (by decide), if_neg (by decide)] at ha
    split at ha
    · cases ha
    rw [if_pos rfl] at ha
    split at ha
    · cases ha
    · cases ha
      have h4 := ge_four (d := d) (by omega)
      exact ⟨hs.o, ⟨by simp only; omega, h4⟩, fun _ => by simp only; omega, hs.m, hs.f, hs.l, hs.c, hs.sg, hs.cs, by rw [hb 2 (by decide)]; exact hs.b2, by rw [hb 8 (by decide)]; exact hs.b8, hsl⟩
  · rw [if_neg (by decide), if_neg (by decide), if_neg (by decide)] at ha
    split at ha
    · cases ha
    rw [if_neg (by decide), if_pos rfl] at ha
    cases ha
    have h4 := ge_four (d := d) (by omega)
    exact ⟨hs.o, hs.n, by rw [hb 3 (by decide)]; exact hs.n3, ⟨by simp only; omega, h4⟩, hs.f, hs.l, hs.c, hs.sg, hs.cs, by rw [hb 2 (by decide)]; exact hs.b2, by rw [hb 8 (by decide)]; exact hs.b8, hsl⟩
  · rw [if_neg (by decide), if_neg (by decide), if_neg (by decide)] at ha
    split at ha
    · cases ha
    rw [if_neg (by decide), if_neg (by decide)] at ha
    cases ha
    have h4 := ge_four (d := d) (by omega)
    exact ⟨hs.o, hs.n, by rw [hb 3 (by decide)]; exact hs.n3, hs.m, ⟨by simp only; omega, h4⟩, hs.l, hs.c, hs.sg, hs.cs, by rw [hb 2 (by decide)]; exact hs.b2, by rw [hb 8 (by decide)]; exact hs.b8, hsl⟩
  · rw [if_neg (by decide), if_neg (by decide), if_pos rfl] at ha
    split at ha
    · cases ha
    · cases ha
      exact ⟨hs.o, hs.n, by rw [hb 3 (by decide)]; exact hs.n3, hs.m, hs.f, hs.l, by simp only [numsG_length]; omega, hs.sg, numsG_fits 4 _ _, by rw [hb 2 (by decide)]; exact hs.b2, (by rw [hb1]; intro h; cases h), hsl⟩
theorem allG_ok (w : Nat) : ∀ (n : Nat) (s : GS) (l : List UInt8) (s' : GS), allG w n s l = some s' → OkS w s → OkS w s' := by
  intro n
  induction n with
  | zero => intro s l s' h; cases h
  | succ n ih =>
    intro s l s' h hs
    cases l with
    | nil => cases h; exact hs
    | cons b l =>
      simp only [allG] at h
      split at h
      · cases h
      · split at h
        · cases h
        · rename_i ht
          exact ih _ _ _ h (takeG_ok ht hs)
theorem get_ok {w : Nat} {l : List UInt8} {p : PA} (h : getG w l = (p, 1)) : OkP w p := by
  unfold getG at h
  split at h
  · injection h with _ h; exact absurd h (by decide)
  · rename_i s hs
    split at h
    · rename_i hm
      injection h with h _
      subst h
      have := allG_ok w _ _ _ _ hs (okS_p0 w)
      have h3 : s.seen.testBit 3 = true := by
        unfold mustB at hm
        simp only [Bool.and_eq_true] at hm
        exact hm.2
      have hn := this.n3 h3
      exact ⟨this.o, by have := this.n; omega, this.m, this.f, this.l, this.c, this.sg, this.cs⟩
    · injection h with _ h; exact absurd h (by decide)
end Go.Proofs.YtdeeokkkcfkbjaaGreat
