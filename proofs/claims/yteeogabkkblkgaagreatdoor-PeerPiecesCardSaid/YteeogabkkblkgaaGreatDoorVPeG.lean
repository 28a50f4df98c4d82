/- Part of a proof of many texts: what the theorem at its end leans on. -/
import Derived.Test.YteeogabkkblkgaaGreatDoorVPeC
namespace Go.Proofs.YteeogabkkblkgaaGreatDoor
set_option maxHeartbeats 1000000000
set_option linter.unusedVariables false
set_option linter.unusedSimpArgs false
open Go.RowKit
attribute [local irreducible] HC HX HO Tri eP adr
def rgPut (l : List UInt8) : Nat → List UInt8 → List UInt8
 | _, [] => l
 | s, c :: cs => (rgPut l (s + 1) cs).set (s % l.length) c
theorem rgPut_len (l : List UInt8) : ∀ (cs : List UInt8) (s : Nat), (rgPut l s cs).length = l.length
 | [], _ => rfl
 | c :: cs, s => by
  unfold rgPut
  rw [List.length_set]
  exact rgPut_len l cs (s + 1)
theorem mod_ne {s i j L : Nat} (h1 : i < j) (h2 : j < i + L) : (s + i) % L ≠ (s + j) % L := fun h => by
 have h3 := Nat.sub_mod_eq_zero_of_mod_eq h.symm
 rw [show s + j - (s + i) = j - i by omega, Nat.mod_eq_of_lt (by omega)] at h3
 omega
theorem rgPut_miss (l : List UInt8) (p : Nat) : ∀ (cs : List UInt8) (s : Nat), (∀ j, j < cs.length → (s + j) % l.length ≠ p) → (rgPut l s cs)[p]? = l[p]?
 | [], _, _ => rfl
 | c :: cs, s, h => by
  unfold rgPut
  have h0 := h 0 (by simp)
  rw [List.getElem?_set_ne (by simpa using h0)]
  exact rgPut_miss l p cs (s + 1) fun j hj => by
   have := h (j + 1) (by simpa using hj)
   rwa [show s + 1 + j = s + (j + 1) by omega]
theorem rgPut_hit (l : List UInt8) : ∀ (cs : List UInt8) (s j : Nat), cs.length ≤ l.length → j < cs.length → (rgPut l s cs)[(s + j) % l.length]? = cs[j]?
 | [], _, j, _, h => by simp at h
 | c :: cs, s, j, hl, h => by
  have hpos : 0 < l.length := by simp at hl; omega
  unfold rgPut
  cases j with
  | zero =>
   show ((rgPut l (s + 1) cs).set (s % l.length) c)[s % l.length]? = some c
   rw [List.getElem?_set_self (by rw [rgPut_len]; exact Nat.mod_lt _ hpos)]
  | succ j =>
   have hj : j < cs.length := by simpa using h
   have hl' : cs.length ≤ l.length := by simp at hl; omega
   rw [List.getElem?_set_ne (by
    have := mod_ne (s := s) (i := 0) (j := j + 1) (L := l.length) (by omega) (by simp at hl; omega)
    simpa using this)]
   rw [show s + (j + 1) = s + 1 + j by omega, rgPut_hit l cs (s + 1) j hl' hj]
   rfl
theorem rgPut_snoc (l : List UInt8) (c : UInt8) : ∀ (cs : List UInt8) (s : Nat), cs.length < l.length → rgPut l s (cs ++ [c]) = (rgPut l s cs).set ((s + cs.length) % l.length) c
 | [], s, _ => rfl
 | a :: cs, s, h => by
  have h' : cs.length < l.length := by simp at h; omega
  show (rgPut l (s + 1) (cs ++ [c])).set (s % l.length) a = ((rgPut l (s + 1) cs).set (s % l.length) a).set ((s + (cs.length + 1)) % l.length) c
  rw [rgPut_snoc l c cs (s + 1) h', show s + 1 + cs.length = s + (cs.length + 1) by omega]
  refine List.set_comm _ _ ?_
  have := mod_ne (s := s) (i := 0) (j := cs.length + 1) (L := l.length) (by omega) (by simp at h; omega)
  intro e
  exact this (by simpa using e.symm)
theorem tk_snoc {α : Type} {l : List α} {j : Nat} {x : α} (h : l[j]? = some x) : l.take (j + 1) = l.take j ++ [x] := by
 rw [List.take_add_one, h]
 rfl
theorem rg_put {room : Nat} {b l : List UInt8} {x : RgQ} (hx : RgOk room b x) (hk : b.length + l.length ≤ x.l.length) : RgOk room (b ++ l) ⟨x.A, x.c, rgPut x.l (x.at_ + b.length) l, x.at_⟩ := by
 obtain ⟨h1, h2, h3, h4, h5⟩ := hx
 have hL := rgPut_len x.l l (x.at_ + b.length)
 refine ⟨by rw [List.length_append]; omega, by show (rgPut _ _ _).length ≤ room; rw [hL]; exact h2, by show _ ≤ (rgPut _ _ _).length; rw [hL, List.length_append]; exact hk, fun h => by
  have h : 0 < (rgPut x.l (x.at_ + b.length) l).length := h
  rw [hL] at h
  show x.at_ < (rgPut x.l (x.at_ + b.length) l).length
  rw [hL]
  exact h4 h, ?_⟩
 unfold rgL
 dsimp only
 rw [hL]
 apply List.ext_getElem?
 intro i
 rw [List.getElem?_map]
 by_cases hi : i < (b ++ l).length
 ·rw [List.length_append] at hi
  rw [List.getElem?_range (by rw [List.length_append]; exact hi)]
  have hpos : 0 < x.l.length := by omega
  simp only [Option.map_some, List.getD_eq_getElem?_getD]
  by_cases hb : i < b.length
  ·rw [rgPut_miss x.l _ l _ (fun j hj => by
    rw [show x.at_ + b.length + j = x.at_ + (b.length + j) by omega]
    exact fun e => mod_ne (s := x.at_) (i := i) (j := b.length + j) (L := x.l.length) (by omega) (by omega) e.symm), List.getElem?_append_left hb]
   have h6 := congrArg (·[i]?) h5
   simp only [rgL, List.getElem?_map, List.getElem?_range hb, Option.map_some, List.getD_eq_getElem?_getD] at h6
   exact h6
  ·have hj : i - b.length < l.length := by omega
   have := rgPut_hit x.l l (x.at_ + b.length) (i - b.length) (by omega) hj
   rw [show x.at_ + b.length + (i - b.length) = x.at_ + i by omega] at this
   rw [this, List.getElem?_append_right (by omega), List.getElem?_eq_getElem hj]
   rfl
 ·rw [List.getElem?_eq_none (by simp only [List.length_range]; omega), List.getElem?_eq_none (by omega)]
  rfl
theorem qroom_r (q : Nat) (A : Option Addr) (n c : Nat) (at_ k : Int) (room : Nat) (mk : Bool) (hk : 0 ≤ k ∧ k ≤ room) (hr : room ≤ 65536) : Tri Tryz.prog 108 [pt q] [cel q 144 [.slice A n c, .int .i64 at_, .int .i64 k, .int .i64 room, .bool mk]] [] (fun _ : Unit => True) (fun _ => .int .i64 ((room : Int) - k)) (fun _ => []) := by
 obtain ⟨h1, h2⟩ := hk
 refine Tri_in Tryz.func108 rfl (fun w0 S0 => ?_)
 repeat' (first | refine SW ?_ | refine SB ?_ | fail)
 (refine SRt ?_; refine RU ?_)
 rfl
theorem qput_t (q room : Nat) (b : List UInt8) (hr : room ≤ 65536) (A : Option Addr) (c : Nat) (l : List UInt8) (hl : l.length ≤ 1000000) :
  Tri Tryz.prog 73 [pt q, .slice A l.length c] [arr bE 1 A l] [quP q room b] (fun _ : Unit => True) (fun _ => .bool (decide (b.length + l.length ≤ room))) (fun _ => [quP q room (if b.length + l.length ≤ room then b ++ l else b)]) := by
 refine Tri_open (fun x hx => ?_)
 obtain ⟨h1, h2, h3, h4, h5⟩ := id hx
 have c1 := qroom_r q x.A x.l.length x.c x.at_ b.length room true ⟨by omega, by omega⟩ hr
 dsimp only [quF, lca, lna]
 by_cases hk : b.length + l.length ≤ room
 ·rw [if_pos hk, decide_eq_true hk]
  have hkz : ¬ (room : Int) - (b.length : Int) < (l.length : Int) := by omega
  have c2 := qgrow_t q room b hr l.length hk
  refine Tri_in Tryz.func73 rfl (fun w0 S0 => ?_)
  repeat' (first | refine SX ?_ | (refine KC ?_; refine HO_callq rfl rfl rfl rfl (c1) (fun _ _ => rfl) (srcsA) rfl rfl sqA ?_) | (refine KC ?_; refine HO_keeps (Keeps.close (f := quF q room b) x hx findA) ?_; refine HO_callP rfl rfl rfl rfl c2 findA trivial rfl rfl soA ?_; intro z hz; dsimp only [lca, lna]) | refine SB ?_ | fail)
  clear c1 c2 hx h1 h2 h3 h4 h5 x
  refine HC_open 0 rfl rfl (fun x hxk => ?_)
  obtain ⟨hx, hk2⟩ := hxk
  obtain ⟨h1, h2, h3, h4, h5⟩ := id hx
  dsimp only [quF, lca, lna]
  refine HC_loop (α := Nat) (fun i => i ≤ l.length) (fun i => [(29, .int .i64 i), (28, .int .i64 l.length), (27, .slice A l.length c), (0, pt q), (1, .slice A l.length c)])
   (fun i => [cel q 144 [.slice x.A x.l.length x.c, .int .i64 x.at_, .int .i64 b.length, .int .i64 room, .bool true], own idE 5 1 x.A x.l.length x.c ((rgPut x.l (x.at_ + b.length) (l.take i)).map bE)]) (fun i => l.length - i) rfl 0 (Nat.zero_le _) ⟨rfl, rfl, rfl, rfl, rfl, trivial⟩ rfl ?_
  intro i hi
  rcases Nat.lt_or_ge i l.length with hlt | hge
  ·have hlt' : (i : Int) < (l.length : Int) := by omega
   obtain ⟨e, he⟩ : ∃ e, l[i]? = some e := ⟨l[i], List.getElem?_eq_getElem hlt⟩
   have hpos : 0 < x.l.length := by omega
   have hat := h4 hpos
   obtain ⟨j, hj⟩ : ∃ j, (x.at_ + b.length + i) % x.l.length = j := ⟨_, rfl⟩
   have hjl : j < x.l.length := hj ▸ Nat.mod_lt _ hpos
   have htk : (l.take i).length = i := by rw [List.length_take]; omega
   have hsn : rgPut x.l (x.at_ + b.length) (l.take (i + 1)) = (rgPut x.l (x.at_ + b.length) (l.take i)).set j e := by
    rw [tk_snoc he, rgPut_snoc _ _ _ _ (by rw [htk]; omega), htk, hj]
   have hLl := rgPut_len x.l (l.take i) (x.at_ + b.length)
   obtain ⟨L, hL⟩ : ∃ L, rgPut x.l (x.at_ + b.length) (l.take i) = L := ⟨_, rfl⟩
   rw [hL] at hsn hLl ⊢
   obtain ⟨e0, he0⟩ : ∃ e0, L[j]? = some e0 := ⟨L[j], List.getElem?_eq_getElem (by omega)⟩
   have hLn : x.l.length = (L.map bE).length := by rw [List.length_map, hLl]
   repeat' (first | refine SX ?_ | (refine HO_k 0 rfl ?_; refine HO_remN (x.at_ + b.length + i) x.l.length j rfl rfl rfl (by omega) rfl (by omega) hj rfl rfl rdA ?_) | (refine HO_k 10 rfl ?_; refine HO_holdA 0 rfl rfl ?_; refine HO_ixA rfl rfl rfl rfl wfA (by omega) (by omega) hLn rfl rfl rdA ?_) | refine SB ?_ | fail)
   have hset : (L.map bE).set j (bE e) = (rgPut x.l (x.at_ + b.length) (l.take (i + 1))).map bE := by rw [hsn, List.map_set]
   simp only [Int.toNat_natCast]
   rw [show ([Value.int .u8 e.toNat] : List Value) = bE e from rfl, hset]
   refine HX_keeps (rw' := [cel q 144 [.slice x.A x.l.length x.c, .int .i64 x.at_, .int .i64 b.length, .int .i64 room, .bool true], own idE 5 1 x.A x.l.length x.c ((rgPut x.l (x.at_ + b.length) (l.take (i + 1))).map bE)]) permA ?_
   exact HX_at (i + 1) ⟨hlt, by show l.length - (i + 1) < l.length - i; omega⟩ ⟨rfl, rfl, rfl, rfl, rfl, trivial⟩ rfl
  ·obtain rfl : i = l.length := by omega
   rw [List.take_length]
   have hlt' : ¬ (l.length : Int) < (l.length : Int) := by omega
   have hlen : ((b ++ l).length : Int) = (b.length : Int) + (l.length : Int) := by rw [List.length_append]; omega
   repeat' (first | refine SX ?_ | refine SB ?_ | fail)
   (refine SRt ?_; unfold RetQ; refine ⟨(), trivial, rfl, (Keeps.close (RgQ.mk x.A x.c (rgPut x.l (x.at_ + b.length) l) x.at_) (rg_put hx hk2) (by dsimp only [quF, lca, lna]; rw [hlen, rgPut_len]; exact permA))⟩)
 ·rw [if_neg hk, decide_eq_false hk]
  have hkz : (room : Int) - (b.length : Int) < (l.length : Int) := by omega
  refine Tri_in Tryz.func73 rfl (fun w0 S0 => ?_)
  repeat' (first | refine SX ?_ | (refine KC ?_; refine HO_callq rfl rfl rfl rfl (c1) (fun _ _ => rfl) (srcsA) rfl rfl sqA ?_) | refine SB ?_ | fail)
  (refine SRt ?_; unfold RetQ; refine ⟨(), trivial, rfl, (Keeps.close x hx permA)⟩)
end Go.Proofs.YteeogabkkblkgaaGreatDoor
