/- Orders, and what may be in a dump: Check, Less, Large -/
import Derived.Test.YtdeeokkkcfkbjaaGreatAttB
import Derived.Test.YtdeeokkkcfkbjaaGreatAdr
import Derived.Test.YtdeeokkkcfkbjaaGreatAttE
import Derived.Test.YtdeeokkkcfkbjaaGreatAttY
namespace Go.Proofs.YtdeeokkkcfkbjaaGreat
set_option linter.unusedVariables false
set_option linter.unusedSimpArgs false
open Go.RowKit
attribute [local irreducible] HC HX HO Tri eP adr

/-- how two numbers stand -/
def cmpN (x y : Int) : Int := if x < y then -1 else if y < x then 1 else 0
theorem nani_t (x : Int) : Tri Tryz.prog 90 [.int .i64 x] [] [] (fun _ : Unit => True) (fun _ => .bool false) (fun _ => []) := by
  refine Tri_of (N := Tryz.f90.ntmps) (c := bodyOf Tryz.f90) Tryz.func90 rfl rfl rfl rfl (fun w0 S0 => ?_)
  repeat' (first | refine SW ?_ | refine SD ?_ | exact HO_seg rfl rfl | refine S1 ?_ | (refine S2 ?_; intro _) | (refine S3 ?_; intro _ _) | (refine S4 ?_; intro _ _ _) | (refine HO_g 2 rfl ?_; (first | apply HO_and rfl rfl rfl rfl rfl rfl rfl rfl rfl | apply HO_or rfl rfl rfl rfl rfl rfl rfl rfl rfl)) | refine S5 ?_ | (intro hb; try replace hb := simB hb; try exact kill hb))
  ((first | apply HX_ret | apply HX_retn); (repeat (first | exact Res_nil | apply Res_tmp rfl | apply Res_ce rfl rfl rfl)); unfold RetQ; refine ⟨(), trivial, ?_, Keeps.nil⟩)
  rfl
theorem nanu_t (x : Int) : Tri Tryz.prog 106 [.int .u32 x] [] [] (fun _ : Unit => True) (fun _ => .bool false) (fun _ => []) := by
  refine Tri_of (N := Tryz.f106.ntmps) (c := bodyOf Tryz.f106) Tryz.func106 rfl rfl rfl rfl (fun w0 S0 => ?_)
  repeat' (first | refine SW ?_ | refine SD ?_ | exact HO_seg rfl rfl | refine S1 ?_ | (refine S2 ?_; intro _) | (refine S3 ?_; intro _ _) | (refine S4 ?_; intro _ _ _) | (refine HO_g 2 rfl ?_; (first | apply HO_and rfl rfl rfl rfl rfl rfl rfl rfl rfl | apply HO_or rfl rfl rfl rfl rfl rfl rfl rfl rfl)) | refine S5 ?_ | (intro hb; try replace hb := simB hb; try exact kill hb))
  ((first | apply HX_ret | apply HX_retn); (repeat (first | exact Res_nil | apply Res_tmp rfl | apply Res_ce rfl rfl rfl)); unfold RetQ; refine ⟨(), trivial, ?_, Keeps.nil⟩)
  rfl
theorem cmpi_t (x y : Int) : Tri Tryz.prog 64 [.int .i64 x, .int .i64 y] [] [] (fun _ : Unit => True) (fun _ => .int .i64 (cmpN x y)) (fun _ => []) := by
  unfold cmpN
  by_cases h1 : x < y
  · rw [if_pos h1]
    refine Tri_of (N := Tryz.f64.ntmps) (c := bodyOf Tryz.f64) Tryz.func64 rfl rfl rfl rfl (fun w0 S0 => ?_)
    repeat' (first | refine SW ?_ | refine SD ?_ | (refine HO_k 12 rfl ?_; refine HO_callq rfl rfl rfl rfl (nani_t _) (fun _ _ => rfl) (trivial) rfl rfl sqA ?_) | exact HO_seg rfl rfl | refine S1 ?_ | (refine S2 ?_; intro _) | (refine S3 ?_; intro _ _) | (refine S4 ?_; intro _ _ _) | (refine HO_g 2 rfl ?_; (first | apply HO_and rfl rfl rfl rfl rfl rfl rfl rfl rfl | apply HO_or rfl rfl rfl rfl rfl rfl rfl rfl rfl)) | refine S5 ?_ | (intro hb; try replace hb := simB hb; try exact kill hb))
    ((first | apply HX_ret | apply HX_retn); (repeat (first | exact Res_nil | apply Res_tmp rfl | apply Res_ce rfl rfl rfl)); unfold RetQ; refine ⟨(), trivial, ?_, Keeps.nil⟩)
    rfl
  rw [if_neg h1]
  by_cases h2 : y < x
  · rw [if_pos h2]
    refine Tri_of (N := Tryz.f64.ntmps) (c := bodyOf Tryz.f64) Tryz.func64 rfl rfl rfl rfl (fun w0 S0 => ?_)
    repeat' (first | refine SW ?_ | refine SD ?_ | (refine HO_k 12 rfl ?_; refine HO_callq rfl rfl rfl rfl (nani_t _) (fun _ _ => rfl) (trivial) rfl rfl sqA ?_) | exact HO_seg rfl rfl | refine S1 ?_ | (refine S2 ?_; intro _) | (refine S3 ?_; intro _ _) | (refine S4 ?_; intro _ _ _) | (refine HO_g 2 rfl ?_; (first | apply HO_and rfl rfl rfl rfl rfl rfl rfl rfl rfl | apply HO_or rfl rfl rfl rfl rfl rfl rfl rfl rfl)) | refine S5 ?_ | (intro hb; try replace hb := simB hb; try exact kill hb))
    ((first | apply HX_ret | apply HX_retn); (repeat (first | exact Res_nil | apply Res_tmp rfl | apply Res_ce rfl rfl rfl)); unfold RetQ; refine ⟨(), trivial, ?_, Keeps.nil⟩)
    rfl
  · rw [if_neg h2]
    refine Tri_of (N := Tryz.f64.ntmps) (c := bodyOf Tryz.f64) Tryz.func64 rfl rfl rfl rfl (fun w0 S0 => ?_)
    repeat' (first | refine SW ?_ | refine SD ?_ | (refine HO_k 12 rfl ?_; refine HO_callq rfl rfl rfl rfl (nani_t _) (fun _ _ => rfl) (trivial) rfl rfl sqA ?_) | exact HO_seg rfl rfl | refine S1 ?_ | (refine S2 ?_; intro _) | (refine S3 ?_; intro _ _) | (refine S4 ?_; intro _ _ _) | (refine HO_g 2 rfl ?_; (first | apply HO_and rfl rfl rfl rfl rfl rfl rfl rfl rfl | apply HO_or rfl rfl rfl rfl rfl rfl rfl rfl rfl)) | refine S5 ?_ | (intro hb; try replace hb := simB hb; try exact kill hb))
    ((first | apply HX_ret | apply HX_retn); (repeat (first | exact Res_nil | apply Res_tmp rfl | apply Res_ce rfl rfl rfl)); unfold RetQ; refine ⟨(), trivial, ?_, Keeps.nil⟩)
    rfl
theorem cmpu_t (x y : Int) : Tri Tryz.prog 89 [.int .u32 x, .int .u32 y] [] [] (fun _ : Unit => True) (fun _ => .int .i64 (cmpN x y)) (fun _ => []) := by
  unfold cmpN
  by_cases h1 : x < y
  · rw [if_pos h1]
    refine Tri_of (N := Tryz.f89.ntmps) (c := bodyOf Tryz.f89) Tryz.func89 rfl rfl rfl rfl (fun w0 S0 => ?_)
    repeat' (first | refine SW ?_ | refine SD ?_ | (refine HO_k 12 rfl ?_; refine HO_callq rfl rfl rfl rfl (nanu_t _) (fun _ _ => rfl) (trivial) rfl rfl sqA ?_) | exact HO_seg rfl rfl | refine S1 ?_ | (refine S2 ?_; intro _) | (refine S3 ?_; intro _ _) | (refine S4 ?_; intro _ _ _) | (refine HO_g 2 rfl ?_; (first | apply HO_and rfl rfl rfl rfl rfl rfl rfl rfl rfl | apply HO_or rfl rfl rfl rfl rfl rfl rfl rfl rfl)) | refine S5 ?_ | (intro hb; try replace hb := simB hb; try exact kill hb))
    ((first | apply HX_ret | apply HX_retn); (repeat (first | exact Res_nil | apply Res_tmp rfl | apply Res_ce rfl rfl rfl)); unfold RetQ; refine ⟨(), trivial, ?_, Keeps.nil⟩)
    rfl
  rw [if_neg h1]
  by_cases h2 : y < x
  · rw [if_pos h2]
    refine Tri_of (N := Tryz.f89.ntmps) (c := bodyOf Tryz.f89) Tryz.func89 rfl rfl rfl rfl (fun w0 S0 => ?_)
    repeat' (first | refine SW ?_ | refine SD ?_ | (refine HO_k 12 rfl ?_; refine HO_callq rfl rfl rfl rfl (nanu_t _) (fun _ _ => rfl) (trivial) rfl rfl sqA ?_) | exact HO_seg rfl rfl | refine S1 ?_ | (refine S2 ?_; intro _) | (refine S3 ?_; intro _ _) | (refine S4 ?_; intro _ _ _) | (refine HO_g 2 rfl ?_; (first | apply HO_and rfl rfl rfl rfl rfl rfl rfl rfl rfl | apply HO_or rfl rfl rfl rfl rfl rfl rfl rfl rfl)) | refine S5 ?_ | (intro hb; try replace hb := simB hb; try exact kill hb))
    ((first | apply HX_ret | apply HX_retn); (repeat (first | exact Res_nil | apply Res_tmp rfl | apply Res_ce rfl rfl rfl)); unfold RetQ; refine ⟨(), trivial, ?_, Keeps.nil⟩)
    rfl
  · rw [if_neg h2]
    refine Tri_of (N := Tryz.f89.ntmps) (c := bodyOf Tryz.f89) Tryz.func89 rfl rfl rfl rfl (fun w0 S0 => ?_)
    repeat' (first | refine SW ?_ | refine SD ?_ | (refine HO_k 12 rfl ?_; refine HO_callq rfl rfl rfl rfl (nanu_t _) (fun _ _ => rfl) (trivial) rfl rfl sqA ?_) | exact HO_seg rfl rfl | refine S1 ?_ | (refine S2 ?_; intro _) | (refine S3 ?_; intro _ _) | (refine S4 ?_; intro _ _ _) | (refine HO_g 2 rfl ?_; (first | apply HO_and rfl rfl rfl rfl rfl rfl rfl rfl rfl | apply HO_or rfl rfl rfl rfl rfl rfl rfl rfl rfl)) | refine S5 ?_ | (intro hb; try replace hb := simB hb; try exact kill hb))
    ((first | apply HX_ret | apply HX_retn); (repeat (first | exact Res_nil | apply Res_tmp rfl | apply Res_ce rfl rfl rfl)); unfold RetQ; refine ⟨(), trivial, ?_, Keeps.nil⟩)
    rfl
/-- the first number that is not 0 -/
def orF : List Int → Int
  | [] => 0
  | x :: l => if x = 0 then orF l else x
theorem orF_at : ∀ (l : List Int) (j : Nat) (x : Int), l[j]? = some x → x ≠ 0 → (∀ q y, q < j → l[q]? = some y → y = 0) → orF l = x := by
  intro l
  induction l with
  | nil => intro j x h; simp at h
  | cons z l ih =>
    intro j x hj hx hb
    cases j with
    | zero =>
      simp at hj
      subst hj
      simp [orF, hx]
    | succ j =>
      have hz : z = 0 := hb 0 z (by omega) rfl
      simp only [orF, hz, if_true]
      exact ih j x (by simpa using hj) hx fun q y hq hy => hb (q + 1) y (by omega) (by simpa using hy)
theorem orF_no : ∀ (l : List Int), (∀ q y, q < l.length → l[q]? = some y → y = 0) → orF l = 0 := by
  intro l
  induction l with
  | nil => intro _; rfl
  | cons z l ih =>
    intro hb
    have hz : z = 0 := hb 0 z (by simp) rfl
    simp only [orF, hz, if_true]
    exact ih fun q y hq hy => hb (q + 1) y (by simp; omega) (by simpa using hy)
set_option maxHeartbeats 4000000 in
theorem or_t (A : Option Addr) (n c : Nat) (l : List Int) (hn : n = l.length) (h1 : l.length ≤ 1000000) :
    Tri Tryz.prog 62 [.slice A n c] [arr iE 1 A l] [] (fun _ : Unit => True) (fun _ => .int .i64 (orF l)) (fun _ => []) := by
  refine Tri_of (N := Tryz.f62.ntmps) (c := bodyOf Tryz.f62) Tryz.func62 rfl rfl rfl rfl (fun w0 S0 => ?_)
  repeat' (first | refine SW ?_ | refine SD ?_ | exact HO_seg rfl rfl | refine S1 ?_ | (refine S2 ?_; intro _) | (refine S3 ?_; intro _ _) | (refine S4 ?_; intro _ _ _) | (refine HO_g 2 rfl ?_; (first | apply HO_and rfl rfl rfl rfl rfl rfl rfl rfl rfl | apply HO_or rfl rfl rfl rfl rfl rfl rfl rfl rfl)) | refine S5 ?_ | (intro hb; try replace hb := simB hb; try exact kill hb))
  refine HC_loop (α := Nat) (fun j => j ≤ l.length ∧ ∀ q y, q < j → l[q]? = some y → y = 0) (fun j => [(8, .int .i64 j), (7, .int .i64 n), (6, .slice A n c), (3, .int .i64 0)]) (fun _ => []) (fun j => l.length - j) rfl 0 ⟨Nat.zero_le _, fun q y hq => by omega⟩ ⟨rfl, rfl, rfl, rfl, trivial⟩ rfl ?_
  intro j ⟨hj, hno⟩
  rcases Nat.lt_or_ge j l.length with hlt | hge
  · obtain ⟨x, hx⟩ : ∃ x, l[j]? = some x := ⟨l[j], List.getElem?_eq_getElem hlt⟩
    by_cases h0 : x = 0
    · repeat' (first | refine SW ?_ | refine SD ?_ | exact HO_seg rfl rfl | refine S1 ?_ | (refine S2 ?_; intro _) | (refine S3 ?_; intro _ _) | (refine S4 ?_; intro _ _ _) | (refine HO_g 2 rfl ?_; (first | apply HO_and rfl rfl rfl rfl rfl rfl rfl rfl rfl | apply HO_or rfl rfl rfl rfl rfl rfl rfl rfl rfl)) | refine S5 ?_ | (intro hb; try replace hb := simB hb; try exact kill hb))
      exact HX_at (j + 1) ⟨⟨hlt, fun q y hq hy => by
        rcases Nat.lt_or_ge q j with h | h
        · exact hno q y h hy
        · obtain rfl : q = j := by omega
          rw [hx] at hy
          injection hy with hy
          exact hy ▸ h0⟩, by omega⟩ ⟨rfl, rfl, rfl, rfl, trivial⟩ rfl
    · repeat' (first | refine SW ?_ | refine SD ?_ | exact HO_seg rfl rfl | refine S1 ?_ | (refine S2 ?_; intro _) | (refine S3 ?_; intro _ _) | (refine S4 ?_; intro _ _ _) | (refine HO_g 2 rfl ?_; (first | apply HO_and rfl rfl rfl rfl rfl rfl rfl rfl rfl | apply HO_or rfl rfl rfl rfl rfl rfl rfl rfl rfl)) | refine S5 ?_ | (intro hb; try replace hb := simB hb; try exact kill hb))
      ((first | apply HX_ret | apply HX_retn); (repeat (first | exact Res_nil | apply Res_tmp rfl | apply Res_ce rfl rfl rfl)); unfold RetQ; refine ⟨(), trivial, ?_, Keeps.nil⟩)
      exact congrArg (Value.int .i64) (orF_at l j x hx h0 hno).symm
  · obtain rfl : j = l.length := by omega
    repeat' (first | refine SW ?_ | refine SD ?_ | exact HO_seg rfl rfl | refine S1 ?_ | (refine S2 ?_; intro _) | (refine S3 ?_; intro _ _) | (refine S4 ?_; intro _ _ _) | (refine HO_g 2 rfl ?_; (first | apply HO_and rfl rfl rfl rfl rfl rfl rfl rfl rfl | apply HO_or rfl rfl rfl rfl rfl rfl rfl rfl rfl)) | refine S5 ?_ | (intro hb; try replace hb := simB hb; try exact kill hb))
    ((first | apply HX_ret | apply HX_retn); (repeat (first | exact Res_nil | apply Res_tmp rfl | apply Res_ce rfl rfl rfl)); unfold RetQ; refine ⟨(), trivial, ?_, Keeps.nil⟩)
    exact congrArg (Value.int .i64) (orF_no l hno).symm
/-- how two prefixes stand -/
def cmpP (a : Nat) (n : Int) (b : Nat) (m : Int) : Int := orF [cmpN a b, cmpN n m]
set_option maxHeartbeats 4000000 in
theorem pcmp_t (a : Nat) (n : Int) (b : Nat) (m : Int) : Tri Tryz.prog 63 [.agg #[.int .u32 a, .int .i64 n], .agg #[.int .u32 b, .int .i64 m]] [] [] (fun _ : Unit => True) (fun _ => .int .i64 (cmpP a n b m)) (fun _ => []) := by
  have h1 := cmpu_t a b
  have h2 := cmpi_t n m
  have h3 := fun x : Nat => or_t (some ⟨x, 0, none⟩) 2 2 [cmpN a b, cmpN n m] rfl (by simp)
  refine Tri_of (N := Tryz.f63.ntmps) (c := bodyOf Tryz.f63) Tryz.func63 rfl rfl rfl rfl (fun w0 S0 => ?_)
  repeat' (first | refine SW ?_ | refine SD ?_ | (refine HO_k 12 rfl ?_; refine HO_callq rfl rfl rfl rfl (h1) (fun _ _ => rfl) (trivial) rfl rfl sqA ?_) | (refine HO_k 12 rfl ?_; refine HO_callq rfl rfl rfl rfl (h2) (fun _ _ => rfl) (trivial) rfl rfl sqA ?_) | (refine HO_k 12 rfl ?_; refine HO_callq rfl rfl rfl rfl (h3 _) (fun _ _ => rfl) ((by first | exact AllSrc.own 0 rfl rfl trivial | exact AllSrc.own 1 rfl rfl trivial | exact AllSrc.own 2 rfl rfl trivial | exact AllSrc.own 3 rfl rfl trivial)) rfl rfl sqA ?_) | exact HO_seg rfl rfl | refine S1 ?_ | (refine S2 ?_; intro _) | (refine S3 ?_; intro _ _) | (refine S4 ?_; intro _ _ _) | (refine HO_g 2 rfl ?_; (first | apply HO_and rfl rfl rfl rfl rfl rfl rfl rfl rfl | apply HO_or rfl rfl rfl rfl rfl rfl rfl rfl rfl)) | refine S5 ?_ | (intro hb; try replace hb := simB hb; try exact kill hb))
  ((first | apply HX_ret | apply HX_retn); (repeat (first | exact Res_nil | apply Res_tmp rfl | apply Res_ce rfl rfl rfl)); unfold RetQ; refine ⟨(), trivial, ?_, Keeps.nil⟩)
  rfl
theorem cmpN_le (x y : Int) : -1 ≤ cmpN x y ∧ cmpN x y ≤ 1 := by
  unfold cmpN
  split
  · omega
  · split <;> omega
theorem nlB_pos0 (paths : Bool) (x : Nl) : 0 < (nlB paths x).length := by
  unfold nlB pfB
  simp only [List.length_append, List.length_cons]
  omega
theorem inn_sub {L L' : List SL} (h : ∀ e ∈ L', e ∈ L) : Ent (inn L) (inn L') := fun S w hp e he => hp e (h e he)
structure PeS where
  id : Nat
  ad : Nat
  as_ : Int
def PeS.e (p : PeS) : List Value := [.int .u32 p.id, .int .u32 p.ad, .int .i64 p.as_]
instance : EncOk PeS.e 3 := ⟨fun _ => ⟨rfl, rfl⟩⟩
structure RtS where
  r : Int
  a : Nat
  n : Int
  id : Int
  at_ : AttS
def RtS.e (x : RtS) : List Value := [.int .i64 x.r, .int .u32 x.a, .int .i64 x.n, .int .i64 x.id, .int .i64 x.at_.org, .slice x.at_.pA x.at_.path.length x.at_.pc, .int .u32 x.at_.nxt, .int .i64 x.at_.med, .int .i64 x.at_.pref, .slice x.at_.cA x.at_.comms.length x.at_.cc]
instance : EncOk RtS.e 10 := ⟨fun _ => ⟨rfl, rfl⟩⟩
/-- what is read of routes' attributes -/
def rtPs1 (x : RtS) : List SL := segPs x.at_.path ++ [arr SegS.e 2 x.at_.pA x.at_.path, arr iE 1 x.at_.cA x.at_.comms]
def rtPs (l : List RtS) : List SL := l.flatMap rtPs1
theorem rt_mem {l : List RtS} {x : RtS} (hx : x ∈ l) {e : SL} (he : e ∈ rtPs1 x) : e ∈ rtPs l := List.mem_flatMap.2 ⟨x, hx, he⟩
theorem rt_src {src : List SL} {l : List RtS} {x : RtS} (k : Nat) (hk : src[k]? = some (inn (rtPs l))) (hx : x ∈ l) : AllSrc src x.at_.ro :=
  AllSrc.via k hk (inn_sub fun e he => rt_mem hx (List.mem_append.2 (.inl he))) (AllSrc.via k hk (inn_arr (rt_mem hx (List.mem_append.2 (.inr List.mem_cons_self)))) (AllSrc.via k hk (inn_arr (rt_mem hx (List.mem_append.2 (.inr (List.mem_cons_of_mem _ List.mem_cons_self))))) trivial))
structure DuS where
  t : Int
  id : Nat
  pA : Option Addr
  pc : Nat
  peers : List PeS
  rA : Option Addr
  rc : Nat
  routes : List RtS
def DuS.e (d : DuS) : List Value := [.int .i64 d.t, .int .u32 d.id, .slice d.pA d.peers.length d.pc, .slice d.rA d.routes.length d.rc]
@[reducible] def DuS.ro (d : DuS) : List SL := [arr PeS.e 3 d.pA d.peers, arr RtS.e 10 d.rA d.routes, inn (rtPs d.routes)]
/-- what is asked of a route that is handed over -/
structure RtW (x : RtS) : Prop where
  a : x.a < 4294967296
  n : 0 ≤ x.at_.nxt ∧ x.at_.nxt ≤ 4294967295
  l : Lim x.at_
structure DuW (d : DuS) : Prop where
  r : ∀ x ∈ d.routes, RtW x
  i : d.id < 4294967296
  p : ∀ x ∈ d.peers, x.id < 4294967296 ∧ x.ad < 4294967296
  pl : d.peers.length ≤ 1000000
  rl : d.routes.length ≤ 1000000

def fit4 (n : Int) : Bool := decide (0 ≤ n) && decide (n ≤ 4294967295)
theorem fit4_iff {n : Int} : fit4 n = true ↔ 0 ≤ n ∧ n ≤ 4294967295 := by unfold fit4; rw [Bool.and_eq_true, decide_eq_true_eq, decide_eq_true_eq]
/-- may a route be? -/
def okRt (np : Nat) (x : RtS) : Bool := decide (0 ≤ x.r) && decide (x.r < np) && oneN true x.id x.a x.n && attOk true x.at_
def cmpK (x y : RtS) : Int := orF [cmpP x.a x.n y.a y.n, cmpN x.r y.r, cmpN x.id y.id]
def ordAt (l : List RtS) (i : Nat) (y : RtS) : Bool := match i with
  | 0 => false
  | k + 1 => match l[k]? with
    | some x => decide (0 ≤ cmpK x y)
    | none => false
def badAt (np : Nat) (l : List RtS) (i : Nat) : Bool := match l[i]? with
  | none => false
  | some y => !okRt np y || ordAt l i y
def chkR (np : Nat) (l : List RtS) : Bool := !(List.range l.length).any (badAt np l)
/-- may a dump be? -/
def chkM (d : DuS) : Bool := fit4 d.t && decide (d.peers.length ≤ 16) && decide (d.routes.length ≤ 16384) && d.peers.all (fun p => fit4 p.as_) && chkR d.peers.length d.routes
theorem first_bad_ (p : Nat → Bool) : ∀ n : Nat, (List.range n).any p = true → ∃ q, q < n ∧ p q = true ∧ ∀ k, k < q → p k = false := by
  intro n
  induction n with
  | zero => intro h; simp at h
  | succ n ih =>
    intro h
    by_cases hn : (List.range n).any p = true
    · obtain ⟨q, h1, h2, h3⟩ := ih hn
      exact ⟨q, by omega, h2, h3⟩
    · rw [List.range_succ, List.any_append] at h
      simp only [Bool.not_eq_true] at hn
      rw [hn] at h
      refine ⟨n, by omega, by simpa using h, fun k hk => ?_⟩
      have := List.any_eq_false.1 hn k (List.mem_range.2 hk)
      simpa using this
theorem chkR_false {np : Nat} {l : List RtS} (h : chkR np l = false) : ∃ q, q < l.length ∧ badAt np l q = true ∧ ∀ k, k < q → badAt np l k = false := by
  unfold chkR at h
  rw [Bool.not_eq_false'] at h
  exact first_bad_ _ _ h
theorem chkR_true {np : Nat} {l : List RtS} (h : chkR np l = true) : ∀ k, k < l.length → badAt np l k = false := by
  intro k hk
  unfold chkR at h
  rw [Bool.not_eq_true'] at h
  have := List.any_eq_false.1 h k (List.mem_range.2 hk)
  simpa using this

theorem within_t (n : Int) : Tri Tryz.prog 28 [.int .i64 n] [] [] (fun _ : Unit => True) (fun _ => .bool (fit4 n)) (fun _ => []) := by
  unfold fit4
  by_cases h1 : 0 ≤ n
  · rw [decide_eq_true h1, Bool.true_and]
    refine Tri_of (N := Tryz.f28.ntmps) (c := bodyOf Tryz.f28) Tryz.func28 rfl rfl rfl rfl (fun w0 S0 => ?_)
    repeat' (first | refine SW ?_ | refine SD ?_ | exact HO_seg rfl rfl | refine S1 ?_ | (refine S2 ?_; intro _) | (refine S3 ?_; intro _ _) | (refine S4 ?_; intro _ _ _) | (refine HO_g 2 rfl ?_; (first | apply HO_and rfl rfl rfl rfl rfl rfl rfl rfl rfl | apply HO_or rfl rfl rfl rfl rfl rfl rfl rfl rfl)) | refine S5 ?_ | (intro hb; try replace hb := simB hb; try exact kill hb))
    ((first | apply HX_ret | apply HX_retn); (repeat (first | exact Res_nil | apply Res_tmp rfl | apply Res_ce rfl rfl rfl)); unfold RetQ; refine ⟨(), trivial, ?_, Keeps.nil⟩)
    rfl
  · rw [decide_eq_false h1, Bool.false_and]
    refine Tri_of (N := Tryz.f28.ntmps) (c := bodyOf Tryz.f28) Tryz.func28 rfl rfl rfl rfl (fun w0 S0 => ?_)
    repeat' (first | refine SW ?_ | refine SD ?_ | exact HO_seg rfl rfl | refine S1 ?_ | (refine S2 ?_; intro _) | (refine S3 ?_; intro _ _) | (refine S4 ?_; intro _ _ _) | (refine HO_g 2 rfl ?_; (first | apply HO_and rfl rfl rfl rfl rfl rfl rfl rfl rfl | apply HO_or rfl rfl rfl rfl rfl rfl rfl rfl rfl)) | refine S5 ?_ | (intro hb; try replace hb := simB hb; try exact kill hb))
    ((first | apply HX_ret | apply HX_retn); (repeat (first | exact Res_nil | apply Res_tmp rfl | apply Res_ce rfl rfl rfl)); unfold RetQ; refine ⟨(), trivial, ?_, Keeps.nil⟩)
    rfl
set_option maxHeartbeats 8000000 in
theorem kcmp_t (x y : RtS) : Tri Tryz.prog 32 [.agg #[.int .i64 x.r, .int .u32 x.a, .int .i64 x.n, .int .i64 x.id], .agg #[.int .i64 y.r, .int .u32 y.a, .int .i64 y.n, .int .i64 y.id]] [] [] (fun _ : Unit => True) (fun _ => .int .i64 (cmpK x y)) (fun _ => []) := by
  have h1 := pcmp_t x.a x.n y.a y.n
  have h2 := cmpi_t x.r y.r
  have h4 := cmpi_t x.id y.id
  have h3 := fun b : Nat => or_t (some ⟨b, 0, none⟩) 3 3 [cmpP x.a x.n y.a y.n, cmpN x.r y.r, cmpN x.id y.id] rfl (by simp)
  refine Tri_of (N := Tryz.f32.ntmps) (c := bodyOf Tryz.f32) Tryz.func32 rfl rfl rfl rfl (fun w0 S0 => ?_)
  repeat' (first | refine SW ?_ | refine SD ?_ | (refine HO_k 12 rfl ?_; refine HO_callq rfl rfl rfl rfl (h1) (fun _ _ => rfl) (trivial) rfl rfl sqA ?_) | (refine HO_k 12 rfl ?_; refine HO_callq rfl rfl rfl rfl (h2) (fun _ _ => rfl) (trivial) rfl rfl sqA ?_) | (refine HO_k 12 rfl ?_; refine HO_callq rfl rfl rfl rfl (h4) (fun _ _ => rfl) (trivial) rfl rfl sqA ?_) | (refine HO_k 12 rfl ?_; refine HO_callq rfl rfl rfl rfl (h3 _) (fun _ _ => rfl) ((by first | exact AllSrc.own 0 rfl rfl trivial | exact AllSrc.own 1 rfl rfl trivial | exact AllSrc.own 2 rfl rfl trivial | exact AllSrc.own 3 rfl rfl trivial)) rfl rfl sqA ?_) | exact HO_seg rfl rfl | refine S1 ?_ | (refine S2 ?_; intro _) | (refine S3 ?_; intro _ _) | (refine S4 ?_; intro _ _ _) | (refine HO_g 2 rfl ?_; (first | apply HO_and rfl rfl rfl rfl rfl rfl rfl rfl rfl | apply HO_or rfl rfl rfl rfl rfl rfl rfl rfl rfl)) | refine S5 ?_ | (intro hb; try replace hb := simB hb; try exact kill hb))
  ((first | apply HX_ret | apply HX_retn); (repeat (first | exact Res_nil | apply Res_tmp rfl | apply Res_ce rfl rfl rfl)); unfold RetQ; refine ⟨(), trivial, ?_, Keeps.nil⟩)
  rfl
set_option maxHeartbeats 8000000 in
theorem modd_t (x : RtS) (hw : RtW x) (np : Nat) : Tri Tryz.prog 31 [.agg x.e.toArray, .int .i64 np] x.at_.ro [] (fun _ : Unit => True) (fun _ => .bool (!okRt np x)) (fun _ => []) := by
  have hck := acheck_t x.at_ true (by have := hw.l.p; omega) (by have := hw.l.c; omega) (fun s hs => by have := hw.l.s s hs; omega)
  unfold okRt
  by_cases h1 : 0 ≤ x.r
  rotate_left
  · rw [decide_eq_false h1, Bool.false_and, Bool.false_and, Bool.false_and]
    refine Tri_of (N := Tryz.f31.ntmps) (c := bodyOf Tryz.f31) Tryz.func31 rfl rfl rfl rfl (fun w0 S0 => ?_)
    dsimp only [RtS.e, AttS.ro]
    repeat' (first | refine SW ?_ | refine SD ?_ | exact HO_seg rfl rfl | refine S1 ?_ | (refine S2 ?_; intro _) | (refine S3 ?_; intro _ _) | (refine S4 ?_; intro _ _ _) | (refine HO_g 2 rfl ?_; (first | apply HO_and rfl rfl rfl rfl rfl rfl rfl rfl rfl | apply HO_or rfl rfl rfl rfl rfl rfl rfl rfl rfl)) | refine S5 ?_ | (intro hb; try replace hb := simB hb; try exact kill hb))
    ((first | apply HX_ret | apply HX_retn); (repeat (first | exact Res_nil | apply Res_tmp rfl | apply Res_ce rfl rfl rfl)); unfold RetQ; refine ⟨(), trivial, ?_, Keeps.nil⟩)
    rfl
  rw [decide_eq_true h1, Bool.true_and]
  by_cases h2 : x.r < np
  rotate_left
  · rw [decide_eq_false h2, Bool.false_and, Bool.false_and]
    refine Tri_of (N := Tryz.f31.ntmps) (c := bodyOf Tryz.f31) Tryz.func31 rfl rfl rfl rfl (fun w0 S0 => ?_)
    dsimp only [RtS.e, AttS.ro]
    repeat' (first | refine SW ?_ | refine SD ?_ | exact HO_seg rfl rfl | refine S1 ?_ | (refine S2 ?_; intro _) | (refine S3 ?_; intro _ _) | (refine S4 ?_; intro _ _ _) | (refine HO_g 2 rfl ?_; (first | apply HO_and rfl rfl rfl rfl rfl rfl rfl rfl rfl | apply HO_or rfl rfl rfl rfl rfl rfl rfl rfl rfl)) | refine S5 ?_ | (intro hb; try replace hb := simB hb; try exact kill hb))
    ((first | apply HX_ret | apply HX_retn); (repeat (first | exact Res_nil | apply Res_tmp rfl | apply Res_ce rfl rfl rfl)); unfold RetQ; refine ⟨(), trivial, ?_, Keeps.nil⟩)
    rfl
  rw [decide_eq_true h2, Bool.true_and]
  cases h3 : oneN true x.id x.a x.n
  · rw [Bool.false_and]
    have hs := nsize_bad x.id x.a hw.a x.n true h3
    dsimp only [nlV] at hs
    refine Tri_of (N := Tryz.f31.ntmps) (c := bodyOf Tryz.f31) Tryz.func31 rfl rfl rfl rfl (fun w0 S0 => ?_)
    dsimp only [RtS.e, AttS.ro]
    repeat' (first | refine SW ?_ | refine SD ?_ | (refine HO_k 12 rfl ?_; refine HO_callq rfl rfl rfl rfl (hs) (fun _ _ => rfl) (trivial) rfl rfl sqA ?_) | exact HO_seg rfl rfl | refine S1 ?_ | (refine S2 ?_; intro _) | (refine S3 ?_; intro _ _) | (refine S4 ?_; intro _ _ _) | (refine HO_g 2 rfl ?_; (first | apply HO_and rfl rfl rfl rfl rfl rfl rfl rfl rfl | apply HO_or rfl rfl rfl rfl rfl rfl rfl rfl rfl)) | refine S5 ?_ | (intro hb; try replace hb := simB hb; try exact kill hb))
    ((first | apply HX_ret | apply HX_retn); (repeat (first | exact Res_nil | apply Res_tmp rfl | apply Res_ce rfl rfl rfl)); unfold RetQ; refine ⟨(), trivial, ?_, Keeps.nil⟩)
    rfl
  rw [Bool.true_and]
  obtain ⟨i, k, e, hi, hk, hkk⟩ := one_nat (paths := true) (x := ⟨x.id, x.a, x.n⟩) h3
  have ei : x.id = (i : Int) := congrArg Nl.i e
  have en : x.n = (k : Int) := congrArg Nl.n e
  have hs := nsize_t i x.a k hw.a true (by rw [← ei, ← en]; exact h3)
  dsimp only [nlV] at hs
  rw [← ei, ← en] at hs
  have hpos := nlB_pos0 true ⟨x.id, x.a, x.n⟩
  obtain ⟨z, hz⟩ : ∃ z, (nlB true ⟨x.id, x.a, x.n⟩).length = z := ⟨_, rfl⟩
  rw [hz] at hs hpos
  cases h4 : attOk true x.at_
  all_goals
    rw [h4] at hck
    refine Tri_of (N := Tryz.f31.ntmps) (c := bodyOf Tryz.f31) Tryz.func31 rfl rfl rfl rfl (fun w0 S0 => ?_)
    dsimp only [RtS.e, AttS.ro]
    repeat' (first | refine SW ?_ | refine SD ?_ | (refine HO_k 12 rfl ?_; refine HO_callq rfl rfl rfl rfl (hs) (fun _ _ => rfl) (trivial) rfl rfl sqA ?_) | (refine HO_k 12 rfl ?_; refine HO_callq rfl rfl rfl rfl (hck) (fun _ _ => rfl) (srcsA) rfl rfl sqA ?_) | exact HO_seg rfl rfl | refine S1 ?_ | (refine S2 ?_; intro _) | (refine S3 ?_; intro _ _) | (refine S4 ?_; intro _ _ _) | (refine HO_g 2 rfl ?_; (first | apply HO_and rfl rfl rfl rfl rfl rfl rfl rfl rfl | apply HO_or rfl rfl rfl rfl rfl rfl rfl rfl rfl)) | refine S5 ?_ | (intro hb; try replace hb := simB hb; try exact kill hb))
    ((first | apply HX_ret | apply HX_retn); (repeat (first | exact Res_nil | apply Res_tmp rfl | apply Res_ce rfl rfl rfl)); unfold RetQ; refine ⟨(), trivial, ?_, Keeps.nil⟩)
    rfl
theorem indexP_t (A : Option Addr) (n c : Nat) (l : List PeS) (hn : n = l.length) (hl : l.length ≤ 1000000) (g : Nat) [FnOk Tryz.prog g] (cap : List Value) (roC : List SL) (p : PeS → Bool)
    (hp : ∀ x ∈ l, Tri Tryz.prog g (.agg x.e.toArray :: cap) roC [] (fun _ : Unit => True) (fun _ => .bool (p x)) (fun _ => [])) :
    Tri Tryz.prog 59 [.slice A n c, .func (.func g) #[] cap.toArray] (arr PeS.e 3 A l :: roC) [] (fun _ : Unit => True) (fun _ => .int .i64 (idxF p l)) (fun _ => []) := by
  refine Tri_of (N := Tryz.f59.ntmps) (c := bodyOf Tryz.f59) Tryz.func59 rfl rfl rfl rfl (fun w0 S0 => ?_)
  repeat' (first | refine SW ?_ | refine SD ?_ | exact HO_seg rfl rfl | refine S1 ?_ | (refine S2 ?_; intro _) | (refine S3 ?_; intro _ _) | (refine S4 ?_; intro _ _ _) | (refine HO_g 2 rfl ?_; (first | apply HO_and rfl rfl rfl rfl rfl rfl rfl rfl rfl | apply HO_or rfl rfl rfl rfl rfl rfl rfl rfl rfl)) | refine S5 ?_ | (intro hb; try replace hb := simB hb; try exact kill hb))
  refine HC_loop (α := Nat) (fun j => j ≤ l.length ∧ ∀ q, q < j → ∀ b, l[q]? = some b → p b = false) (fun j => [(8, .int .i64 j), (7, .int .i64 n), (0, .slice A n c), (1, .func (.func g) #[] cap.toArray)]) (fun _ => []) (fun j => l.length - j) rfl 0 ⟨Nat.zero_le _, fun q hq => by omega⟩ ⟨rfl, rfl, rfl, rfl, trivial⟩ rfl ?_
  intro j ⟨hj, hno⟩
  rcases Nat.lt_or_ge j l.length with hlt | hge
  · obtain ⟨a, ha⟩ : ∃ a, l[j]? = some a := ⟨l[j], List.getElem?_eq_getElem hlt⟩
    have hpa := hp a (List.mem_of_getElem? ha)
    repeat' (first | refine SW ?_ | refine SD ?_ | (refine HO_k 12 rfl ?_; refine HO_callq rfl rfl rfl rfl (hpa) (fun _ _ => rfl) (AllSrc.self) rfl rfl sqA ?_) | exact HO_seg rfl rfl | refine S1 ?_ | (refine S2 ?_; intro _) | (refine S3 ?_; intro _ _) | (refine S4 ?_; intro _ _ _) | (refine HO_g 2 rfl ?_; (first | apply HO_and rfl rfl rfl rfl rfl rfl rfl rfl rfl | apply HO_or rfl rfl rfl rfl rfl rfl rfl rfl rfl)) | refine S5 ?_ | (intro hb; try replace hb := simB hb; try exact kill hb) | refine HC_cond rfl rfl ?_ ?_)
    · ((first | apply HX_ret | apply HX_retn); (repeat (first | exact Res_nil | apply Res_tmp rfl | apply Res_ce rfl rfl rfl)); unfold RetQ; refine ⟨(), trivial, ?_, Keeps.nil⟩)
      exact congrArg (Value.int .i64) (idxF_at ha hb hno).symm
    · exact HX_at (j + 1) ⟨⟨hlt, fun q hq b hbq => by
        rcases Nat.lt_or_ge q j with h | h
        · exact hno q h b hbq
        · obtain rfl : q = j := by omega
          rw [ha] at hbq
          injection hbq with hbq
          exact hbq ▸ hb⟩, by omega⟩ ⟨rfl, rfl, rfl, rfl, trivial⟩ rfl
  · obtain rfl : j = l.length := by omega
    repeat' (first | refine SW ?_ | refine SD ?_ | exact HO_seg rfl rfl | refine S1 ?_ | (refine S2 ?_; intro _) | (refine S3 ?_; intro _ _) | (refine S4 ?_; intro _ _ _) | (refine HO_g 2 rfl ?_; (first | apply HO_and rfl rfl rfl rfl rfl rfl rfl rfl rfl | apply HO_or rfl rfl rfl rfl rfl rfl rfl rfl rfl)) | refine S5 ?_ | (intro hb; try replace hb := simB hb; try exact kill hb))
    ((first | apply HX_ret | apply HX_retn); (repeat (first | exact Res_nil | apply Res_tmp rfl | apply Res_ce rfl rfl rfl)); unfold RetQ; refine ⟨(), trivial, ?_, Keeps.nil⟩)
    exact congrArg (Value.int .i64) (idxF_no hno).symm
theorem containsP_t (A : Option Addr) (n c : Nat) (l : List PeS) (hn : n = l.length) (hl : l.length ≤ 1000000) (g : Nat) [FnOk Tryz.prog g] (cap : List Value) (roC : List SL) (p : PeS → Bool)
    (hp : ∀ x ∈ l, Tri Tryz.prog g (.agg x.e.toArray :: cap) roC [] (fun _ : Unit => True) (fun _ => .bool (p x)) (fun _ => [])) :
    Tri Tryz.prog 29 [.slice A n c, .func (.func g) #[] cap.toArray] (arr PeS.e 3 A l :: roC) [] (fun _ : Unit => True) (fun _ => .bool (l.any p)) (fun _ => []) := by
  have h1 := indexP_t A n c l hn hl g cap roC p hp
  refine Tri_of (N := Tryz.f29.ntmps) (c := bodyOf Tryz.f29) Tryz.func29 rfl rfl rfl rfl (fun w0 S0 => ?_)
  repeat' (first | refine SW ?_ | (refine HO_k 12 rfl ?_; refine HO_callq rfl rfl rfl rfl (h1) (fun _ _ => rfl) (AllSrc.of fun f hf => ⟨f, List.mem_append.2 (.inl hf), Ent.rfl_⟩) rfl rfl sqA ?_) | exact HO_seg rfl rfl | refine S1 ?_ | (refine S2 ?_; intro _) | (refine S3 ?_; intro _ _) | (refine S4 ?_; intro _ _ _) | (refine HO_g 2 rfl ?_; (first | apply HO_and rfl rfl rfl rfl rfl rfl rfl rfl rfl | apply HO_or rfl rfl rfl rfl rfl rfl rfl rfl rfl)) | refine S5 ?_ | (intro hb; try replace hb := simB hb; try exact kill hb))
  ((first | apply HX_ret | apply HX_retn); (repeat (first | exact Res_nil | apply Res_tmp rfl | apply Res_ce rfl rfl rfl)); unfold RetQ; refine ⟨(), trivial, ?_, Keeps.nil⟩)
  exact congrArg Value.bool (idxF_ge p l)
theorem mcheck1_t (x : PeS) : Tri Tryz.prog 30 [.agg x.e.toArray] [] [] (fun _ : Unit => True) (fun _ => .bool (!fit4 x.as_)) (fun _ => []) := by
  have h := within_t x.as_
  refine Tri_of (N := Tryz.f30.ntmps) (c := bodyOf Tryz.f30) Tryz.func30 rfl rfl rfl rfl (fun w0 S0 => ?_)
  dsimp only [PeS.e]
  repeat' (first | refine SW ?_ | (refine HO_k 12 rfl ?_; refine HO_callq rfl rfl rfl rfl (h) (fun _ _ => rfl) (trivial) rfl rfl sqA ?_) | exact HO_seg rfl rfl | refine S1 ?_ | (refine S2 ?_; intro _) | (refine S3 ?_; intro _ _) | (refine S4 ?_; intro _ _ _) | (refine HO_g 2 rfl ?_; (first | apply HO_and rfl rfl rfl rfl rfl rfl rfl rfl rfl | apply HO_or rfl rfl rfl rfl rfl rfl rfl rfl rfl)) | refine S5 ?_ | (intro hb; try replace hb := simB hb; try exact kill hb))
  ((first | apply HX_ret | apply HX_retn); (repeat (first | exact Res_nil | apply Res_tmp rfl | apply Res_ce rfl rfl rfl)); unfold RetQ; refine ⟨(), trivial, ?_, Keeps.nil⟩)
  rfl
theorem badAt_split {np : Nat} {l : List RtS} {j : Nat} {y : RtS} (hy : l[j]? = some y) : badAt np l j = (!okRt np y || ordAt l j y) := by
  unfold badAt
  rw [hy]
theorem ordAt_succ {l : List RtS} {k : Nat} {x y : RtS} (hx : l[k]? = some x) : ordAt l (k + 1) y = decide (0 ≤ cmpK x y) := by
  show (match l[k]? with
    | some x => decide (0 ≤ cmpK x y)
    | none => false) = _
  rw [hx]
set_option maxHeartbeats 32000000 in
set_option maxRecDepth 100000 in
theorem mcheck_t (d : DuS) (hd : DuW d) : Tri Tryz.prog 9 [.agg d.e.toArray] d.ro [] (fun _ : Unit => True) (fun _ => .int .i64 (if chkM d = true then 0 else 350)) (fun _ => []) := by
  have hwi := within_t d.t
  have hcp := containsP_t d.pA d.peers.length d.pc d.peers rfl hd.pl 30 [] [] (fun p => !fit4 p.as_) (fun x _ => mcheck1_t x)
  have eany : (d.peers.any fun p => !fit4 p.as_) = !d.peers.all (fun p => fit4 p.as_) := any_all (fun p : PeS => fit4 p.as_) d.peers
  rw [eany] at hcp
  unfold chkM
  cases p1 : fit4 d.t
  · rw [p1] at hwi
    rw [Bool.false_and, Bool.false_and, Bool.false_and, Bool.false_and]
    refine Tri_of (N := Tryz.f9.ntmps) (c := bodyOf Tryz.f9) Tryz.func9 rfl rfl rfl rfl (fun w0 S0 => ?_)
    dsimp only [DuS.ro, DuS.e]
    repeat' (first | refine SW ?_ | refine SD ?_ | (refine HO_k 12 rfl ?_; refine HO_callq rfl rfl rfl rfl (hwi) (fun _ _ => rfl) (trivial) rfl rfl sqA ?_) | exact HO_seg rfl rfl | refine S1 ?_ | (refine S2 ?_; intro _) | (refine S3 ?_; intro _ _) | (refine S4 ?_; intro _ _ _) | (refine HO_g 2 rfl ?_; (first | apply HO_and rfl rfl rfl rfl rfl rfl rfl rfl rfl | apply HO_or rfl rfl rfl rfl rfl rfl rfl rfl rfl)) | refine S5 ?_ | (intro hb; try replace hb := simB hb; try exact kill hb))
    ((first | apply HX_ret | apply HX_retn); (repeat (first | exact Res_nil | apply Res_tmp rfl | apply Res_ce rfl rfl rfl)); unfold RetQ; refine ⟨(), trivial, ?_, Keeps.nil⟩)
    rfl
  rw [p1] at hwi
  rw [Bool.true_and]
  by_cases p2 : d.peers.length ≤ 16
  rotate_left
  · rw [decide_eq_false p2, Bool.false_and, Bool.false_and, Bool.false_and]
    refine Tri_of (N := Tryz.f9.ntmps) (c := bodyOf Tryz.f9) Tryz.func9 rfl rfl rfl rfl (fun w0 S0 => ?_)
    dsimp only [DuS.ro, DuS.e]
    repeat' (first | refine SW ?_ | refine SD ?_ | (refine HO_k 12 rfl ?_; refine HO_callq rfl rfl rfl rfl (hwi) (fun _ _ => rfl) (trivial) rfl rfl sqA ?_) | exact HO_seg rfl rfl | refine S1 ?_ | (refine S2 ?_; intro _) | (refine S3 ?_; intro _ _) | (refine S4 ?_; intro _ _ _) | (refine HO_g 2 rfl ?_; (first | apply HO_and rfl rfl rfl rfl rfl rfl rfl rfl rfl | apply HO_or rfl rfl rfl rfl rfl rfl rfl rfl rfl)) | refine S5 ?_ | (intro hb; try replace hb := simB hb; try exact kill hb))
    ((first | apply HX_ret | apply HX_retn); (repeat (first | exact Res_nil | apply Res_tmp rfl | apply Res_ce rfl rfl rfl)); unfold RetQ; refine ⟨(), trivial, ?_, Keeps.nil⟩)
    rfl
  rw [decide_eq_true p2, Bool.true_and]
  by_cases p3 : d.routes.length ≤ 16384
  rotate_left
  · rw [decide_eq_false p3, Bool.false_and, Bool.false_and]
    refine Tri_of (N := Tryz.f9.ntmps) (c := bodyOf Tryz.f9) Tryz.func9 rfl rfl rfl rfl (fun w0 S0 => ?_)
    dsimp only [DuS.ro, DuS.e]
    repeat' (first | refine SW ?_ | refine SD ?_ | (refine HO_k 12 rfl ?_; refine HO_callq rfl rfl rfl rfl (hwi) (fun _ _ => rfl) (trivial) rfl rfl sqA ?_) | exact HO_seg rfl rfl | refine S1 ?_ | (refine S2 ?_; intro _) | (refine S3 ?_; intro _ _) | (refine S4 ?_; intro _ _ _) | (refine HO_g 2 rfl ?_; (first | apply HO_and rfl rfl rfl rfl rfl rfl rfl rfl rfl | apply HO_or rfl rfl rfl rfl rfl rfl rfl rfl rfl)) | refine S5 ?_ | (intro hb; try replace hb := simB hb; try exact kill hb))
    ((first | apply HX_ret | apply HX_retn); (repeat (first | exact Res_nil | apply Res_tmp rfl | apply Res_ce rfl rfl rfl)); unfold RetQ; refine ⟨(), trivial, ?_, Keeps.nil⟩)
    rfl
  rw [decide_eq_true p3, Bool.true_and]
  cases p4 : d.peers.all (fun p => fit4 p.as_)
  · rw [p4] at hcp
    rw [Bool.false_and]
    refine Tri_of (N := Tryz.f9.ntmps) (c := bodyOf Tryz.f9) Tryz.func9 rfl rfl rfl rfl (fun w0 S0 => ?_)
    dsimp only [DuS.ro, DuS.e]
    repeat' (first | refine SW ?_ | refine SD ?_ | (refine HO_k 12 rfl ?_; refine HO_callq rfl rfl rfl rfl (hwi) (fun _ _ => rfl) (trivial) rfl rfl sqA ?_) | (refine HO_k 12 rfl ?_; refine HO_callq rfl rfl rfl rfl (hcp) (fun _ _ => rfl) (srcsA) rfl rfl sqA ?_) | exact HO_seg rfl rfl | refine S1 ?_ | (refine S2 ?_; intro _) | (refine S3 ?_; intro _ _) | (refine S4 ?_; intro _ _ _) | (refine HO_g 2 rfl ?_; (first | apply HO_and rfl rfl rfl rfl rfl rfl rfl rfl rfl | apply HO_or rfl rfl rfl rfl rfl rfl rfl rfl rfl)) | refine S5 ?_ | (intro hb; try replace hb := simB hb; try exact kill hb))
    ((first | apply HX_ret | apply HX_retn); (repeat (first | exact Res_nil | apply Res_tmp rfl | apply Res_ce rfl rfl rfl)); unfold RetQ; refine ⟨(), trivial, ?_, Keeps.nil⟩)
    rfl
  rw [p4] at hcp
  rw [Bool.true_and]
  have step : ∀ (j : Nat) (y : RtS), d.routes[j]? = some y → Tri Tryz.prog 31 [.agg y.e.toArray, .int .i64 d.peers.length] y.at_.ro [] (fun _ : Unit => True) (fun _ => .bool (!okRt d.peers.length y)) (fun _ => []) := fun j y hy => modd_t y (hd.r y (List.mem_of_getElem? hy)) d.peers.length
  cases p5 : chkR d.peers.length d.routes
  · obtain ⟨q, hq, hbq, hno⟩ := chkR_false p5
    obtain ⟨z, hz⟩ : ∃ z, d.routes[q]? = some z := ⟨d.routes[q], List.getElem?_eq_getElem hq⟩
    rw [badAt_split hz] at hbq
    refine Tri_of (N := Tryz.f9.ntmps) (c := bodyOf Tryz.f9) Tryz.func9 rfl rfl rfl rfl (fun w0 S0 => ?_)
    dsimp only [DuS.ro, DuS.e]
    repeat' (first | refine SW ?_ | refine SD ?_ | (refine HO_k 12 rfl ?_; refine HO_callq rfl rfl rfl rfl (hwi) (fun _ _ => rfl) (trivial) rfl rfl sqA ?_) | (refine HO_k 12 rfl ?_; refine HO_callq rfl rfl rfl rfl (hcp) (fun _ _ => rfl) (srcsA) rfl rfl sqA ?_) | exact HO_seg rfl rfl | refine S1 ?_ | (refine S2 ?_; intro _) | (refine S3 ?_; intro _ _) | (refine S4 ?_; intro _ _ _) | (refine HO_g 2 rfl ?_; (first | apply HO_and rfl rfl rfl rfl rfl rfl rfl rfl rfl | apply HO_or rfl rfl rfl rfl rfl rfl rfl rfl rfl)) | refine S5 ?_ | (intro hb; try replace hb := simB hb; try exact kill hb))
    rename_i b1
    refine HC_loop (α := Nat) (fun j => j ≤ q) (fun j => [(27, .int .i64 j), (26, .int .i64 d.routes.length), (25, .slice d.rA d.routes.length d.rc), (1, pt b1)]) (fun _ => [cel b1 26 [.int .i64 d.t, .int .u32 d.id, .slice d.pA d.peers.length d.pc, .slice d.rA d.routes.length d.rc]]) (fun j => q - j) rfl 0 (Nat.zero_le _) ⟨rfl, rfl, rfl, rfl, trivial⟩ rfl ?_
    intro j hj
    dsimp only [pt]
    rcases Nat.lt_or_ge j q with hlt | hge
    · obtain ⟨y, hy⟩ : ∃ y, d.routes[j]? = some y := ⟨d.routes[j], List.getElem?_eq_getElem (by omega)⟩
      have hok := hno j hlt
      rw [badAt_split hy, Bool.or_eq_false_iff] at hok
      have hodd := step j y hy
      rw [hok.1] at hodd
      dsimp only [RtS.e] at hodd
      have hmem := List.mem_of_getElem? hy
      cases j with
      | zero =>
        repeat' (first | refine SW ?_ | refine SD ?_ | (refine HO_k 12 rfl ?_; refine HO_callq rfl rfl rfl rfl (hodd) (fun _ _ => rfl) (rt_src 2 rfl hmem) rfl rfl sqA ?_) | exact HO_seg rfl rfl | refine S1 ?_ | (refine S2 ?_; intro _) | (refine S3 ?_; intro _ _) | (refine S4 ?_; intro _ _ _) | (refine HO_g 2 rfl ?_; (first | apply HO_and rfl rfl rfl rfl rfl rfl rfl rfl rfl | apply HO_or rfl rfl rfl rfl rfl rfl rfl rfl rfl)) | refine S5 ?_ | (intro hb; try replace hb := simB hb; try exact kill hb))
        refine HX_keeps (rw' := [cel b1 26 [.int .i64 d.t, .int .u32 d.id, .slice d.pA d.peers.length d.pc, .slice d.rA d.routes.length d.rc]]) permA ?_
        exact HX_at 1 ⟨by omega, by omega⟩ ⟨rfl, rfl, rfl, rfl, trivial⟩ rfl
      | succ k =>
        obtain ⟨x, hx⟩ : ∃ x, d.routes[k]? = some x := ⟨d.routes[k], List.getElem?_eq_getElem (by omega)⟩
        have hcm := kcmp_t x y
        have hlt0 : cmpK x y < 0 := by
          have := hok.2
          rw [ordAt_succ hx] at this
          have := of_decide_eq_false this
          omega
        have hk1 : (((k + 1 : Nat) : Int)) - 1 = (k : Int) := by omega
        repeat' (first | refine SW ?_ | refine SD ?_ | (with_reducible refine HO_rw (congrArg (Value.int .i64) hk1) ?_) | (refine HO_k 12 rfl ?_; refine HO_callq rfl rfl rfl rfl (hodd) (fun _ _ => rfl) (rt_src 2 rfl hmem) rfl rfl sqA ?_) | (refine HO_k 12 rfl ?_; refine HO_callq rfl rfl rfl rfl (hcm) (fun _ _ => rfl) (trivial) rfl rfl sqA ?_) | exact HO_seg rfl rfl | refine S1 ?_ | (refine S2 ?_; intro _) | (refine S3 ?_; intro _ _) | (refine S4 ?_; intro _ _ _) | (refine HO_g 2 rfl ?_; (first | apply HO_and rfl rfl rfl rfl rfl rfl rfl rfl rfl | apply HO_or rfl rfl rfl rfl rfl rfl rfl rfl rfl)) | refine S5 ?_ | (intro hb; try replace hb := simB hb; try exact kill hb))
        refine HX_keeps (rw' := [cel b1 26 [.int .i64 d.t, .int .u32 d.id, .slice d.pA d.peers.length d.pc, .slice d.rA d.routes.length d.rc]]) permA ?_
        exact HX_at (k + 1 + 1) ⟨by omega, by omega⟩ ⟨rfl, rfl, rfl, rfl, trivial⟩ rfl
    · obtain rfl : j = q := by omega
      have hodd := step j z hz
      dsimp only [RtS.e] at hodd
      have hmem := List.mem_of_getElem? hz
      cases hoz : okRt d.peers.length z
      · rw [hoz] at hodd
        repeat' (first | refine SW ?_ | refine SD ?_ | (refine HO_k 12 rfl ?_; refine HO_callq rfl rfl rfl rfl (hodd) (fun _ _ => rfl) (rt_src 2 rfl hmem) rfl rfl sqA ?_) | exact HO_seg rfl rfl | refine S1 ?_ | (refine S2 ?_; intro _) | (refine S3 ?_; intro _ _) | (refine S4 ?_; intro _ _ _) | (refine HO_g 2 rfl ?_; (first | apply HO_and rfl rfl rfl rfl rfl rfl rfl rfl rfl | apply HO_or rfl rfl rfl rfl rfl rfl rfl rfl rfl)) | refine S5 ?_ | (intro hb; try replace hb := simB hb; try exact kill hb))
        ((first | apply HX_ret | apply HX_retn); (repeat (first | exact Res_nil | apply Res_tmp rfl | apply Res_ce rfl rfl rfl)); unfold RetQ; refine ⟨(), trivial, ?_, Keeps.nil⟩)
        rfl
      · rw [hoz, Bool.not_true, Bool.false_or] at hbq
        rw [hoz] at hodd
        cases j with
        | zero => cases hbq
        | succ k =>
          obtain ⟨x, hx⟩ : ∃ x, d.routes[k]? = some x := ⟨d.routes[k], List.getElem?_eq_getElem (by omega)⟩
          have hcm := kcmp_t x z
          have hge0 : 0 ≤ cmpK x z := by
            rw [ordAt_succ hx] at hbq
            exact of_decide_eq_true hbq
          have hk1 : (((k + 1 : Nat) : Int)) - 1 = (k : Int) := by omega
          repeat' (first | refine SW ?_ | refine SD ?_ | (with_reducible refine HO_rw (congrArg (Value.int .i64) hk1) ?_) | (refine HO_k 12 rfl ?_; refine HO_callq rfl rfl rfl rfl (hodd) (fun _ _ => rfl) (rt_src 2 rfl hmem) rfl rfl sqA ?_) | (refine HO_k 12 rfl ?_; refine HO_callq rfl rfl rfl rfl (hcm) (fun _ _ => rfl) (trivial) rfl rfl sqA ?_) | exact HO_seg rfl rfl | refine S1 ?_ | (refine S2 ?_; intro _) | (refine S3 ?_; intro _ _) | (refine S4 ?_; intro _ _ _) | (refine HO_g 2 rfl ?_; (first | apply HO_and rfl rfl rfl rfl rfl rfl rfl rfl rfl | apply HO_or rfl rfl rfl rfl rfl rfl rfl rfl rfl)) | refine S5 ?_ | (intro hb; try replace hb := simB hb; try exact kill hb))
          ((first | apply HX_ret | apply HX_retn); (repeat (first | exact Res_nil | apply Res_tmp rfl | apply Res_ce rfl rfl rfl)); unfold RetQ; refine ⟨(), trivial, ?_, Keeps.nil⟩)
          rfl
  · have hno := chkR_true p5
    refine Tri_of (N := Tryz.f9.ntmps) (c := bodyOf Tryz.f9) Tryz.func9 rfl rfl rfl rfl (fun w0 S0 => ?_)
    dsimp only [DuS.ro, DuS.e]
    repeat' (first | refine SW ?_ | refine SD ?_ | (refine HO_k 12 rfl ?_; refine HO_callq rfl rfl rfl rfl (hwi) (fun _ _ => rfl) (trivial) rfl rfl sqA ?_) | (refine HO_k 12 rfl ?_; refine HO_callq rfl rfl rfl rfl (hcp) (fun _ _ => rfl) (srcsA) rfl rfl sqA ?_) | exact HO_seg rfl rfl | refine S1 ?_ | (refine S2 ?_; intro _) | (refine S3 ?_; intro _ _) | (refine S4 ?_; intro _ _ _) | (refine HO_g 2 rfl ?_; (first | apply HO_and rfl rfl rfl rfl rfl rfl rfl rfl rfl | apply HO_or rfl rfl rfl rfl rfl rfl rfl rfl rfl)) | refine S5 ?_ | (intro hb; try replace hb := simB hb; try exact kill hb))
    rename_i b1
    refine HC_loop (α := Nat) (fun j => j ≤ d.routes.length) (fun j => [(27, .int .i64 j), (26, .int .i64 d.routes.length), (25, .slice d.rA d.routes.length d.rc), (1, pt b1)]) (fun _ => [cel b1 26 [.int .i64 d.t, .int .u32 d.id, .slice d.pA d.peers.length d.pc, .slice d.rA d.routes.length d.rc]]) (fun j => d.routes.length - j) rfl 0 (Nat.zero_le _) ⟨rfl, rfl, rfl, rfl, trivial⟩ rfl ?_
    intro j hj
    dsimp only [pt]
    rcases Nat.lt_or_ge j d.routes.length with hlt | hge
    · obtain ⟨y, hy⟩ : ∃ y, d.routes[j]? = some y := ⟨d.routes[j], List.getElem?_eq_getElem (by omega)⟩
      have hok := hno j hlt
      rw [badAt_split hy, Bool.or_eq_false_iff] at hok
      have hodd := step j y hy
      rw [hok.1] at hodd
      dsimp only [RtS.e] at hodd
      have hmem := List.mem_of_getElem? hy
      cases j with
      | zero =>
        repeat' (first | refine SW ?_ | refine SD ?_ | (refine HO_k 12 rfl ?_; refine HO_callq rfl rfl rfl rfl (hodd) (fun _ _ => rfl) (rt_src 2 rfl hmem) rfl rfl sqA ?_) | exact HO_seg rfl rfl | refine S1 ?_ | (refine S2 ?_; intro _) | (refine S3 ?_; intro _ _) | (refine S4 ?_; intro _ _ _) | (refine HO_g 2 rfl ?_; (first | apply HO_and rfl rfl rfl rfl rfl rfl rfl rfl rfl | apply HO_or rfl rfl rfl rfl rfl rfl rfl rfl rfl)) | refine S5 ?_ | (intro hb; try replace hb := simB hb; try exact kill hb))
        refine HX_keeps (rw' := [cel b1 26 [.int .i64 d.t, .int .u32 d.id, .slice d.pA d.peers.length d.pc, .slice d.rA d.routes.length d.rc]]) permA ?_
        exact HX_at 1 ⟨by omega, by omega⟩ ⟨rfl, rfl, rfl, rfl, trivial⟩ rfl
      | succ k =>
        obtain ⟨x, hx⟩ : ∃ x, d.routes[k]? = some x := ⟨d.routes[k], List.getElem?_eq_getElem (by omega)⟩
        have hcm := kcmp_t x y
        have hlt0 : cmpK x y < 0 := by
          have := hok.2
          rw [ordAt_succ hx] at this
          have := of_decide_eq_false this
          omega
        have hk1 : (((k + 1 : Nat) : Int)) - 1 = (k : Int) := by omega
        repeat' (first | refine SW ?_ | refine SD ?_ | (with_reducible refine HO_rw (congrArg (Value.int .i64) hk1) ?_) | (refine HO_k 12 rfl ?_; refine HO_callq rfl rfl rfl rfl (hodd) (fun _ _ => rfl) (rt_src 2 rfl hmem) rfl rfl sqA ?_) | (refine HO_k 12 rfl ?_; refine HO_callq rfl rfl rfl rfl (hcm) (fun _ _ => rfl) (trivial) rfl rfl sqA ?_) | exact HO_seg rfl rfl | refine S1 ?_ | (refine S2 ?_; intro _) | (refine S3 ?_; intro _ _) | (refine S4 ?_; intro _ _ _) | (refine HO_g 2 rfl ?_; (first | apply HO_and rfl rfl rfl rfl rfl rfl rfl rfl rfl | apply HO_or rfl rfl rfl rfl rfl rfl rfl rfl rfl)) | refine S5 ?_ | (intro hb; try replace hb := simB hb; try exact kill hb))
        refine HX_keeps (rw' := [cel b1 26 [.int .i64 d.t, .int .u32 d.id, .slice d.pA d.peers.length d.pc, .slice d.rA d.routes.length d.rc]]) permA ?_
        exact HX_at (k + 1 + 1) ⟨by omega, by omega⟩ ⟨rfl, rfl, rfl, rfl, trivial⟩ rfl
    · obtain rfl : j = d.routes.length := by omega
      repeat' (first | refine SW ?_ | refine SD ?_ | exact HO_seg rfl rfl | refine S1 ?_ | (refine S2 ?_; intro _) | (refine S3 ?_; intro _ _) | (refine S4 ?_; intro _ _ _) | (refine HO_g 2 rfl ?_; (first | apply HO_and rfl rfl rfl rfl rfl rfl rfl rfl rfl | apply HO_or rfl rfl rfl rfl rfl rfl rfl rfl rfl)) | refine S5 ?_ | (intro hb; try replace hb := simB hb; try exact kill hb))
      ((first | apply HX_ret | apply HX_retn); (repeat (first | exact Res_nil | apply Res_tmp rfl | apply Res_ce rfl rfl rfl)); unfold RetQ; refine ⟨(), trivial, ?_, Keeps.nil⟩)
      rfl
theorem cmpN_lt {x y : Int} (h : x < y) : cmpN x y = -1 := if_pos h
theorem cmpN_eq (x : Int) : cmpN x x = 0 := by unfold cmpN; rw [if_neg (by omega), if_neg (by omega)]
theorem cmpN_gt {x y : Int} (h : y < x) : cmpN x y = 1 := by unfold cmpN; rw [if_neg (by omega), if_pos h]
set_option maxHeartbeats 8000000 in
theorem rpcmp_t (a : Nat) (n : Int) (b : Nat) (m : Int) : Tri Tryz.prog 58 [.agg #[.int .u32 a, .int .i64 n], .agg #[.int .u32 b, .int .i64 m]] [] [] (fun _ : Unit => True) (fun _ => .int .i64 (cmpP a n b m)) (fun _ => []) := by
  unfold cmpP
  rcases Int.lt_trichotomy (a : Int) (b : Int) with h | h | h
  · rw [cmpN_lt h]
    simp only [orF]
    refine Tri_of (N := Tryz.f58.ntmps) (c := bodyOf Tryz.f58) Tryz.func58 rfl rfl rfl rfl (fun w0 S0 => ?_)
    repeat' (first | refine SW ?_ | refine SD ?_ | exact HO_seg rfl rfl | refine S1 ?_ | (refine S2 ?_; intro _) | (refine S3 ?_; intro _ _) | (refine S4 ?_; intro _ _ _) | (refine HO_g 2 rfl ?_; (first | apply HO_and rfl rfl rfl rfl rfl rfl rfl rfl rfl | apply HO_or rfl rfl rfl rfl rfl rfl rfl rfl rfl)) | refine S5 ?_ | (intro hb; try replace hb := simB hb; try exact kill hb))
    ((first | apply HX_ret | apply HX_retn); (repeat (first | exact Res_nil | apply Res_tmp rfl | apply Res_ce rfl rfl rfl)); unfold RetQ; refine ⟨(), trivial, ?_, Keeps.nil⟩)
    rfl
  · have hab : a = b := by omega
    subst hab
    rw [cmpN_eq]
    rcases Int.lt_trichotomy n m with g | g | g
    · rw [cmpN_lt g]
      simp only [orF]
      refine Tri_of (N := Tryz.f58.ntmps) (c := bodyOf Tryz.f58) Tryz.func58 rfl rfl rfl rfl (fun w0 S0 => ?_)
      repeat' (first | refine SW ?_ | refine SD ?_ | exact HO_seg rfl rfl | refine S1 ?_ | (refine S2 ?_; intro _) | (refine S3 ?_; intro _ _) | (refine S4 ?_; intro _ _ _) | (refine HO_g 2 rfl ?_; (first | apply HO_and rfl rfl rfl rfl rfl rfl rfl rfl rfl | apply HO_or rfl rfl rfl rfl rfl rfl rfl rfl rfl)) | refine S5 ?_ | (intro hb; try replace hb := simB hb; try exact kill hb))
      ((first | apply HX_ret | apply HX_retn); (repeat (first | exact Res_nil | apply Res_tmp rfl | apply Res_ce rfl rfl rfl)); unfold RetQ; refine ⟨(), trivial, ?_, Keeps.nil⟩)
      rfl
    · subst g
      rw [cmpN_eq]
      simp only [orF]
      have hd : (decide ((a : Int) = (a : Int)) && decide (n = n)) = true := by simp
      refine Tri_of (N := Tryz.f58.ntmps) (c := bodyOf Tryz.f58) Tryz.func58 rfl rfl rfl rfl (fun w0 S0 => ?_)
      repeat' (first | refine SW ?_ | refine SD ?_ | (with_reducible refine HO_rw (congrArg Value.bool hd) ?_) | exact HO_seg rfl rfl | refine S1 ?_ | (refine S2 ?_; intro _) | (refine S3 ?_; intro _ _) | (refine S4 ?_; intro _ _ _) | (refine HO_g 2 rfl ?_; (first | apply HO_and rfl rfl rfl rfl rfl rfl rfl rfl rfl | apply HO_or rfl rfl rfl rfl rfl rfl rfl rfl rfl)) | refine S5 ?_ | (intro hb; try replace hb := simB hb; try exact kill hb))
      ((first | apply HX_ret | apply HX_retn); (repeat (first | exact Res_nil | apply Res_tmp rfl | apply Res_ce rfl rfl rfl)); unfold RetQ; refine ⟨(), trivial, ?_, Keeps.nil⟩)
      rfl
    · rw [cmpN_gt g]
      simp only [orF]
      have hd : (decide ((a : Int) = (a : Int)) && decide (n = m)) = false := by rw [decide_eq_false (show ¬ n = m by omega), Bool.and_false]
      refine Tri_of (N := Tryz.f58.ntmps) (c := bodyOf Tryz.f58) Tryz.func58 rfl rfl rfl rfl (fun w0 S0 => ?_)
      repeat' (first | refine SW ?_ | refine SD ?_ | (with_reducible refine HO_rw (congrArg Value.bool hd) ?_) | exact HO_seg rfl rfl | refine S1 ?_ | (refine S2 ?_; intro _) | (refine S3 ?_; intro _ _) | (refine S4 ?_; intro _ _ _) | (refine HO_g 2 rfl ?_; (first | apply HO_and rfl rfl rfl rfl rfl rfl rfl rfl rfl | apply HO_or rfl rfl rfl rfl rfl rfl rfl rfl rfl)) | refine S5 ?_ | (intro hb; try replace hb := simB hb; try exact kill hb))
      ((first | apply HX_ret | apply HX_retn); (repeat (first | exact Res_nil | apply Res_tmp rfl | apply Res_ce rfl rfl rfl)); unfold RetQ; refine ⟨(), trivial, ?_, Keeps.nil⟩)
      rfl
  · rw [cmpN_gt h]
    simp only [orF]
    have hd : (decide ((a : Int) = (b : Int)) && decide (n = m)) = false := by rw [decide_eq_false (show ¬ (a : Int) = b by omega), Bool.false_and]
    refine Tri_of (N := Tryz.f58.ntmps) (c := bodyOf Tryz.f58) Tryz.func58 rfl rfl rfl rfl (fun w0 S0 => ?_)
    repeat' (first | refine SW ?_ | refine SD ?_ | (with_reducible refine HO_rw (congrArg Value.bool hd) ?_) | exact HO_seg rfl rfl | refine S1 ?_ | (refine S2 ?_; intro _) | (refine S3 ?_; intro _ _) | (refine S4 ?_; intro _ _ _) | (refine HO_g 2 rfl ?_; (first | apply HO_and rfl rfl rfl rfl rfl rfl rfl rfl rfl | apply HO_or rfl rfl rfl rfl rfl rfl rfl rfl rfl)) | refine S5 ?_ | (intro hb; try replace hb := simB hb; try exact kill hb))
    ((first | apply HX_ret | apply HX_retn); (repeat (first | exact Res_nil | apply Res_tmp rfl | apply Res_ce rfl rfl rfl)); unfold RetQ; refine ⟨(), trivial, ?_, Keeps.nil⟩)
    rfl
theorem orF3 (p q r : Int) : orF [p, q, r] = if p ≠ 0 then p else if q ≠ 0 then q else r := by
  by_cases h1 : p = 0 <;> by_cases h2 : q = 0 <;> by_cases h3 : r = 0 <;> simp [orF, h1, h2, h3]
theorem cmpN_neg (x y : Int) : (cmpN x y < 0 ↔ x < y) ∧ (cmpN x y = 0 ↔ x = y) := by
  unfold cmpN
  split
  · omega
  · split <;> omega
set_option maxHeartbeats 8000000 in
theorem rless_t (x y : RtS) : Tri Tryz.prog 27 [.agg #[.int .i64 x.r, .int .u32 x.a, .int .i64 x.n, .int .i64 x.id], .agg #[.int .i64 y.r, .int .u32 y.a, .int .i64 y.n, .int .i64 y.id]] [] [] (fun _ : Unit => True) (fun _ => .bool (decide (cmpK x y < 0))) (fun _ => []) := by
  have h1 := rpcmp_t x.a x.n y.a y.n
  unfold cmpK
  rw [orF3]
  obtain ⟨p, hp⟩ : ∃ p, cmpP x.a x.n y.a y.n = p := ⟨_, rfl⟩
  rw [hp] at h1 ⊢
  by_cases c1 : p = 0
  rotate_left
  · rw [if_pos c1]
    refine Tri_of (N := Tryz.f27.ntmps) (c := bodyOf Tryz.f27) Tryz.func27 rfl rfl rfl rfl (fun w0 S0 => ?_)
    repeat' (first | refine SW ?_ | refine SD ?_ | (refine HO_k 12 rfl ?_; refine HO_callq rfl rfl rfl rfl (h1) (fun _ _ => rfl) (trivial) rfl rfl sqA ?_) | exact HO_seg rfl rfl | refine S1 ?_ | (refine S2 ?_; intro _) | (refine S3 ?_; intro _ _) | (refine S4 ?_; intro _ _ _) | (refine HO_g 2 rfl ?_; (first | apply HO_and rfl rfl rfl rfl rfl rfl rfl rfl rfl | apply HO_or rfl rfl rfl rfl rfl rfl rfl rfl rfl)) | refine S5 ?_ | (intro hb; try replace hb := simB hb; try exact kill hb))
    ((first | apply HX_ret | apply HX_retn); (repeat (first | exact Res_nil | apply Res_tmp rfl | apply Res_ce rfl rfl rfl)); unfold RetQ; refine ⟨(), trivial, ?_, Keeps.nil⟩)
    rfl
  rw [if_neg (by simpa using c1)]
  by_cases c2 : x.r = y.r
  rotate_left
  · have e : decide ((if cmpN x.r y.r ≠ 0 then cmpN x.r y.r else cmpN x.id y.id) < 0) = decide (x.r < y.r) := by
      rw [if_pos (fun h => c2 ((cmpN_neg _ _).2.1 h))]
      exact decide_eq_decide.2 (cmpN_neg _ _).1
    rw [e]
    refine Tri_of (N := Tryz.f27.ntmps) (c := bodyOf Tryz.f27) Tryz.func27 rfl rfl rfl rfl (fun w0 S0 => ?_)
    repeat' (first | refine SW ?_ | refine SD ?_ | (refine HO_k 12 rfl ?_; refine HO_callq rfl rfl rfl rfl (h1) (fun _ _ => rfl) (trivial) rfl rfl sqA ?_) | exact HO_seg rfl rfl | refine S1 ?_ | (refine S2 ?_; intro _) | (refine S3 ?_; intro _ _) | (refine S4 ?_; intro _ _ _) | (refine HO_g 2 rfl ?_; (first | apply HO_and rfl rfl rfl rfl rfl rfl rfl rfl rfl | apply HO_or rfl rfl rfl rfl rfl rfl rfl rfl rfl)) | refine S5 ?_ | (intro hb; try replace hb := simB hb; try exact kill hb))
    ((first | apply HX_ret | apply HX_retn); (repeat (first | exact Res_nil | apply Res_tmp rfl | apply Res_ce rfl rfl rfl)); unfold RetQ; refine ⟨(), trivial, ?_, Keeps.nil⟩)
    rfl
  · have e : decide ((if cmpN x.r y.r ≠ 0 then cmpN x.r y.r else cmpN x.id y.id) < 0) = decide (x.id < y.id) := by
      rw [if_neg (by rw [c2, cmpN_eq]; simp)]
      exact decide_eq_decide.2 (cmpN_neg _ _).1
    rw [e]
    refine Tri_of (N := Tryz.f27.ntmps) (c := bodyOf Tryz.f27) Tryz.func27 rfl rfl rfl rfl (fun w0 S0 => ?_)
    repeat' (first | refine SW ?_ | refine SD ?_ | (refine HO_k 12 rfl ?_; refine HO_callq rfl rfl rfl rfl (h1) (fun _ _ => rfl) (trivial) rfl rfl sqA ?_) | exact HO_seg rfl rfl | refine S1 ?_ | (refine S2 ?_; intro _) | (refine S3 ?_; intro _ _) | (refine S4 ?_; intro _ _ _) | (refine HO_g 2 rfl ?_; (first | apply HO_and rfl rfl rfl rfl rfl rfl rfl rfl rfl | apply HO_or rfl rfl rfl rfl rfl rfl rfl rfl rfl)) | refine S5 ?_ | (intro hb; try replace hb := simB hb; try exact kill hb))
    ((first | apply HX_ret | apply HX_retn); (repeat (first | exact Res_nil | apply Res_tmp rfl | apply Res_ce rfl rfl rfl)); unfold RetQ; refine ⟨(), trivial, ?_, Keeps.nil⟩)
    rfl
/-- is a dump too large to be looked at? -/
def bigM (d : DuS) : Bool := decide (100 < d.peers.length) || decide (100 < d.routes.length) || d.routes.any fun x => largeB x.at_
set_option maxHeartbeats 16000000 in
set_option maxRecDepth 100000 in
theorem rlargeM_t (d : DuS) : Tri Tryz.prog 5 [.agg d.e.toArray] d.ro [] (fun _ : Unit => True) (fun _ => .bool (bigM d)) (fun _ => []) := by
  unfold bigM
  by_cases h1 : 100 < d.peers.length
  · rw [decide_eq_true h1, Bool.true_or, Bool.true_or]
    refine Tri_of (N := Tryz.f5.ntmps) (c := bodyOf Tryz.f5) Tryz.func5 rfl rfl rfl rfl (fun w0 S0 => ?_)
    dsimp only [DuS.ro, DuS.e]
    repeat' (first | refine SW ?_ | refine SD ?_ | exact HO_seg rfl rfl | refine S1 ?_ | (refine S2 ?_; intro _) | (refine S3 ?_; intro _ _) | (refine S4 ?_; intro _ _ _) | (refine HO_g 2 rfl ?_; (first | apply HO_and rfl rfl rfl rfl rfl rfl rfl rfl rfl | apply HO_or rfl rfl rfl rfl rfl rfl rfl rfl rfl)) | refine S5 ?_ | (intro hb; try replace hb := simB hb; try exact kill hb))
    ((first | apply HX_ret | apply HX_retn); (repeat (first | exact Res_nil | apply Res_tmp rfl | apply Res_ce rfl rfl rfl)); unfold RetQ; refine ⟨(), trivial, ?_, Keeps.nil⟩)
    rfl
  rw [decide_eq_false h1, Bool.false_or]
  by_cases h2 : 100 < d.routes.length
  · rw [decide_eq_true h2, Bool.true_or]
    refine Tri_of (N := Tryz.f5.ntmps) (c := bodyOf Tryz.f5) Tryz.func5 rfl rfl rfl rfl (fun w0 S0 => ?_)
    dsimp only [DuS.ro, DuS.e]
    repeat' (first | refine SW ?_ | refine SD ?_ | exact HO_seg rfl rfl | refine S1 ?_ | (refine S2 ?_; intro _) | (refine S3 ?_; intro _ _) | (refine S4 ?_; intro _ _ _) | (refine HO_g 2 rfl ?_; (first | apply HO_and rfl rfl rfl rfl rfl rfl rfl rfl rfl | apply HO_or rfl rfl rfl rfl rfl rfl rfl rfl rfl)) | refine S5 ?_ | (intro hb; try replace hb := simB hb; try exact kill hb))
    ((first | apply HX_ret | apply HX_retn); (repeat (first | exact Res_nil | apply Res_tmp rfl | apply Res_ce rfl rfl rfl)); unfold RetQ; refine ⟨(), trivial, ?_, Keeps.nil⟩)
    rfl
  rw [decide_eq_false h2, Bool.false_or]
  obtain ⟨res, hres⟩ : ∃ r, (d.routes.any fun x => largeB x.at_) = r := ⟨_, rfl⟩
  rw [hres]
  refine Tri_of (N := Tryz.f5.ntmps) (c := bodyOf Tryz.f5) Tryz.func5 rfl rfl rfl rfl (fun w0 S0 => ?_)
  dsimp only [DuS.ro, DuS.e]
  repeat' (first | refine SW ?_ | refine SD ?_ | exact HO_seg rfl rfl | refine S1 ?_ | (refine S2 ?_; intro _) | (refine S3 ?_; intro _ _) | (refine S4 ?_; intro _ _ _) | (refine HO_g 2 rfl ?_; (first | apply HO_and rfl rfl rfl rfl rfl rfl rfl rfl rfl | apply HO_or rfl rfl rfl rfl rfl rfl rfl rfl rfl)) | refine S5 ?_ | (intro hb; try replace hb := simB hb; try exact kill hb))
  rename_i b1
  refine HC_loop (α := Nat) (fun j => j ≤ d.routes.length ∧ ∀ q x, q < j → d.routes[q]? = some x → largeB x.at_ = false) (fun j => [(3, .int .i64 j), (1, pt b1)]) (fun _ => [cel b1 26 [.int .i64 d.t, .int .u32 d.id, .slice d.pA d.peers.length d.pc, .slice d.rA d.routes.length d.rc]]) (fun j => d.routes.length - j) rfl 0 ⟨Nat.zero_le _, fun q x hq => by omega⟩ ⟨rfl, rfl, trivial⟩ rfl ?_
  intro j ⟨hj, hno⟩
  dsimp only [pt]
  rcases Nat.lt_or_ge j d.routes.length with hlt | hge
  · obtain ⟨y, hy⟩ : ∃ y, d.routes[j]? = some y := ⟨d.routes[j], List.getElem?_eq_getElem hlt⟩
    have hmem := List.mem_of_getElem? hy
    have hla := large_t y.at_
    cases hl : largeB y.at_
    · rw [hl] at hla
      dsimp only [AttS.e] at hla
      repeat' (first | refine SW ?_ | refine SD ?_ | (refine HO_k 12 rfl ?_; refine HO_callq rfl rfl rfl rfl (hla) (fun _ _ => rfl) (rt_src 2 rfl hmem) rfl rfl sqA ?_) | exact HO_seg rfl rfl | refine S1 ?_ | (refine S2 ?_; intro _) | (refine S3 ?_; intro _ _) | (refine S4 ?_; intro _ _ _) | (refine HO_g 2 rfl ?_; (first | apply HO_and rfl rfl rfl rfl rfl rfl rfl rfl rfl | apply HO_or rfl rfl rfl rfl rfl rfl rfl rfl rfl)) | refine S5 ?_ | (intro hb; try replace hb := simB hb; try exact kill hb))
      exact HX_at (j + 1) ⟨⟨hlt, fun q x hq hx => by
        rcases Nat.lt_or_ge q j with h | h
        · exact hno q x h hx
        · obtain rfl : q = j := by omega
          rw [hy] at hx
          injection hx with hx
          exact hx ▸ hl⟩, by omega⟩ ⟨rfl, rfl, trivial⟩ rfl
    · rw [hl] at hla
      dsimp only [AttS.e] at hla
      have hr : res = true := by rw [← hres]; exact List.any_eq_true.2 ⟨y, hmem, hl⟩
      subst hr
      repeat' (first | refine SW ?_ | refine SD ?_ | (refine HO_k 12 rfl ?_; refine HO_callq rfl rfl rfl rfl (hla) (fun _ _ => rfl) (rt_src 2 rfl hmem) rfl rfl sqA ?_) | exact HO_seg rfl rfl | refine S1 ?_ | (refine S2 ?_; intro _) | (refine S3 ?_; intro _ _) | (refine S4 ?_; intro _ _ _) | (refine HO_g 2 rfl ?_; (first | apply HO_and rfl rfl rfl rfl rfl rfl rfl rfl rfl | apply HO_or rfl rfl rfl rfl rfl rfl rfl rfl rfl)) | refine S5 ?_ | (intro hb; try replace hb := simB hb; try exact kill hb))
      ((first | apply HX_ret | apply HX_retn); (repeat (first | exact Res_nil | apply Res_tmp rfl | apply Res_ce rfl rfl rfl)); unfold RetQ; refine ⟨(), trivial, ?_, Keeps.nil⟩)
      rfl
  · obtain rfl : j = d.routes.length := by omega
    have hr : res = false := by
      rw [← hres]
      refine List.any_eq_false.2 fun x hx => ?_
      obtain ⟨q, hq, hqx⟩ := List.getElem_of_mem hx
      have := hno q x hq (by rw [List.getElem?_eq_getElem hq, hqx])
      simp [this]
    subst hr
    repeat' (first | refine SW ?_ | refine SD ?_ | exact HO_seg rfl rfl | refine S1 ?_ | (refine S2 ?_; intro _) | (refine S3 ?_; intro _ _) | (refine S4 ?_; intro _ _ _) | (refine HO_g 2 rfl ?_; (first | apply HO_and rfl rfl rfl rfl rfl rfl rfl rfl rfl | apply HO_or rfl rfl rfl rfl rfl rfl rfl rfl rfl)) | refine S5 ?_ | (intro hb; try replace hb := simB hb; try exact kill hb))
    ((first | apply HX_ret | apply HX_retn); (repeat (first | exact Res_nil | apply Res_tmp rfl | apply Res_ce rfl rfl rfl)); unfold RetQ; refine ⟨(), trivial, ?_, Keeps.nil⟩)
    rfl
theorem fits4_t (n : Int) : Tri Tryz.prog 24 [.int .i64 n, .int .i64 4] [] [] (fun _ : Unit => True) (fun _ => .bool (fit4 n)) (fun _ => []) := by
  have h := fits_t n 4 (by decide) (by decide)
  have e : (decide (0 ≤ n) && decide (n < (256 ^ 4 : Nat))) = fit4 n := by
    unfold fit4
    congr 1
    exact decide_eq_decide.2 (by show n < ((4294967296 : Nat) : Int) ↔ _; omega)
  rw [e] at h
  exact h
theorem allAt (p : PeS → Bool) (l : List PeS) : l.all p = true ∨ ∃ (j : Nat) (x : PeS), l[j]? = some x ∧ p x = false ∧ ∀ (k : Nat) (y : PeS), k < j → l[k]? = some y → p y = true := by
  induction l with
  | nil => exact .inl rfl
  | cons x l ih =>
    cases hx : p x with
    | false => exact .inr ⟨0, x, rfl, hx, fun k y hk => by omega⟩
    | true =>
      rcases ih with h | ⟨j, y, hj, hy, hb⟩
      · exact .inl (by rw [List.all_cons, hx, h]; rfl)
      · refine .inr ⟨j + 1, y, hj, hy, fun k z hk hz => ?_⟩
        cases k with
        | zero =>
          have : x = z := by simpa using hz
          rw [← this]
          exact hx
        | succ k => exact hb k z (by omega) (by simpa using hz)
theorem all_false {p : PeS → Bool} {l : List PeS} {j : Nat} {x : PeS} (h : l[j]? = some x) (hx : p x = false) : l.all p = false := by
  refine Bool.eq_false_iff.2 fun ha => ?_
  have := List.all_eq_true.1 ha x (List.mem_of_getElem? h)
  rw [hx] at this
  cases this
@[reducible] def dC (b : Nat) (d : DuS) : SL := cel b 26 [.int .i64 d.t, .int .u32 d.id, .slice d.pA d.peers.length d.pc, .slice d.rA d.routes.length d.rc]
set_option maxHeartbeats 64000000 in
set_option maxRecDepth 100000 in
theorem rcheckM_t (d : DuS) (hd : DuW d) : Tri Tryz.prog 8 [.agg d.e.toArray] d.ro [] (fun _ : Unit => True) (fun _ => .bool (chkM d)) (fun _ => []) := by
  have hwi := fits4_t d.t
  unfold chkM
  cases p1 : fit4 d.t
  · rw [p1] at hwi
    rw [Bool.false_and, Bool.false_and, Bool.false_and, Bool.false_and]
    refine Tri_of (N := Tryz.f8.ntmps) (c := bodyOf Tryz.f8) Tryz.func8 rfl rfl rfl rfl (fun w0 S0 => ?_)
    dsimp only [DuS.ro, DuS.e]
    repeat' (first | refine SW ?_ | refine SD ?_ | (refine HO_k 12 rfl ?_; refine HO_callq rfl rfl rfl rfl (hwi) (fun _ _ => rfl) (trivial) rfl rfl sqA ?_) | exact HO_seg rfl rfl | refine S1 ?_ | (refine S2 ?_; intro _) | (refine S3 ?_; intro _ _) | (refine S4 ?_; intro _ _ _) | (refine HO_g 2 rfl ?_; (first | apply HO_and rfl rfl rfl rfl rfl rfl rfl rfl rfl | apply HO_or rfl rfl rfl rfl rfl rfl rfl rfl rfl)) | refine S5 ?_ | (intro hb; try replace hb := simB hb; try exact kill hb))
    ((first | apply HX_ret | apply HX_retn); (repeat (first | exact Res_nil | apply Res_tmp rfl | apply Res_ce rfl rfl rfl)); unfold RetQ; refine ⟨(), trivial, ?_, Keeps.nil⟩)
    rfl
  rw [p1] at hwi
  rw [Bool.true_and]
  by_cases p2 : d.peers.length ≤ 16
  rotate_left
  · rw [decide_eq_false p2, Bool.false_and, Bool.false_and, Bool.false_and]
    refine Tri_of (N := Tryz.f8.ntmps) (c := bodyOf Tryz.f8) Tryz.func8 rfl rfl rfl rfl (fun w0 S0 => ?_)
    dsimp only [DuS.ro, DuS.e]
    repeat' (first | refine SW ?_ | refine SD ?_ | (refine HO_k 12 rfl ?_; refine HO_callq rfl rfl rfl rfl (hwi) (fun _ _ => rfl) (trivial) rfl rfl sqA ?_) | exact HO_seg rfl rfl | refine S1 ?_ | (refine S2 ?_; intro _) | (refine S3 ?_; intro _ _) | (refine S4 ?_; intro _ _ _) | (refine HO_g 2 rfl ?_; (first | apply HO_and rfl rfl rfl rfl rfl rfl rfl rfl rfl | apply HO_or rfl rfl rfl rfl rfl rfl rfl rfl rfl)) | refine S5 ?_ | (intro hb; try replace hb := simB hb; try exact kill hb))
    ((first | apply HX_ret | apply HX_retn); (repeat (first | exact Res_nil | apply Res_tmp rfl | apply Res_ce rfl rfl rfl)); unfold RetQ; refine ⟨(), trivial, ?_, Keeps.nil⟩)
    rfl
  rw [decide_eq_true p2, Bool.true_and]
  by_cases p3 : d.routes.length ≤ 16384
  rotate_left
  · rw [decide_eq_false p3, Bool.false_and, Bool.false_and]
    refine Tri_of (N := Tryz.f8.ntmps) (c := bodyOf Tryz.f8) Tryz.func8 rfl rfl rfl rfl (fun w0 S0 => ?_)
    dsimp only [DuS.ro, DuS.e]
    repeat' (first | refine SW ?_ | refine SD ?_ | (refine HO_k 12 rfl ?_; refine HO_callq rfl rfl rfl rfl (hwi) (fun _ _ => rfl) (trivial) rfl rfl sqA ?_) | exact HO_seg rfl rfl | refine S1 ?_ | (refine S2 ?_; intro _) | (refine S3 ?_; intro _ _) | (refine S4 ?_; intro _ _ _) | (refine HO_g 2 rfl ?_; (first | apply HO_and rfl rfl rfl rfl rfl rfl rfl rfl rfl | apply HO_or rfl rfl rfl rfl rfl rfl rfl rfl rfl)) | refine S5 ?_ | (intro hb; try replace hb := simB hb; try exact kill hb))
    ((first | apply HX_ret | apply HX_retn); (repeat (first | exact Res_nil | apply Res_tmp rfl | apply Res_ce rfl rfl rfl)); unfold RetQ; refine ⟨(), trivial, ?_, Keeps.nil⟩)
    rfl
  rw [decide_eq_true p3, Bool.true_and]
  rcases allAt (fun p => fit4 p.as_) d.peers with p4 | ⟨q, z, hz, hzf, hno⟩
  rotate_left
  · rw [all_false hz hzf, Bool.false_and]
    have hql : q < d.peers.length := (List.getElem?_eq_some_iff.1 hz).1
    refine Tri_of (N := Tryz.f8.ntmps) (c := bodyOf Tryz.f8) Tryz.func8 rfl rfl rfl rfl (fun w0 S0 => ?_)
    dsimp only [DuS.ro, DuS.e]
    repeat' (first | refine SW ?_ | refine SD ?_ | (refine HO_k 12 rfl ?_; refine HO_callq rfl rfl rfl rfl (hwi) (fun _ _ => rfl) (trivial) rfl rfl sqA ?_) | exact HO_seg rfl rfl | refine S1 ?_ | (refine S2 ?_; intro _) | (refine S3 ?_; intro _ _) | (refine S4 ?_; intro _ _ _) | (refine HO_g 2 rfl ?_; (first | apply HO_and rfl rfl rfl rfl rfl rfl rfl rfl rfl | apply HO_or rfl rfl rfl rfl rfl rfl rfl rfl rfl)) | refine S5 ?_ | (intro hb; try replace hb := simB hb; try exact kill hb))
    rename_i b1
    refine HC_loop (α := Nat) (fun j => j ≤ q) (fun j => [(3, .int .i64 j), (1, pt b1)]) (fun _ => [dC b1 d]) (fun j => q - j) rfl 0 (Nat.zero_le _) ⟨rfl, rfl, trivial⟩ rfl ?_
    intro j hj
    dsimp only [pt, dC]
    rcases Nat.lt_or_ge j q with hlt | hge
    · obtain ⟨y, hy⟩ : ∃ y, d.peers[j]? = some y := ⟨d.peers[j], List.getElem?_eq_getElem (by omega)⟩
      have hf := fits4_t y.as_
      rw [show fit4 y.as_ = true from hno j y hlt hy] at hf
      repeat' (first | refine SW ?_ | refine SD ?_ | (refine HO_k 12 rfl ?_; refine HO_callq rfl rfl rfl rfl (hf) (fun _ _ => rfl) (trivial) rfl rfl sqA ?_) | exact HO_seg rfl rfl | refine S1 ?_ | (refine S2 ?_; intro _) | (refine S3 ?_; intro _ _) | (refine S4 ?_; intro _ _ _) | (refine HO_g 2 rfl ?_; (first | apply HO_and rfl rfl rfl rfl rfl rfl rfl rfl rfl | apply HO_or rfl rfl rfl rfl rfl rfl rfl rfl rfl)) | refine S5 ?_ | (intro hb; try replace hb := simB hb; try exact kill hb))
      exact HX_at (j + 1) ⟨by omega, by omega⟩ ⟨rfl, rfl, trivial⟩ rfl
    · obtain rfl : j = q := by omega
      have hf := fits4_t z.as_
      rw [show fit4 z.as_ = false from hzf] at hf
      repeat' (first | refine SW ?_ | refine SD ?_ | (refine HO_k 12 rfl ?_; refine HO_callq rfl rfl rfl rfl (hf) (fun _ _ => rfl) (trivial) rfl rfl sqA ?_) | exact HO_seg rfl rfl | refine S1 ?_ | (refine S2 ?_; intro _) | (refine S3 ?_; intro _ _) | (refine S4 ?_; intro _ _ _) | (refine HO_g 2 rfl ?_; (first | apply HO_and rfl rfl rfl rfl rfl rfl rfl rfl rfl | apply HO_or rfl rfl rfl rfl rfl rfl rfl rfl rfl)) | refine S5 ?_ | (intro hb; try replace hb := simB hb; try exact kill hb))
      ((first | apply HX_ret | apply HX_retn); (repeat (first | exact Res_nil | apply Res_tmp rfl | apply Res_ce rfl rfl rfl)); unfold RetQ; refine ⟨(), trivial, ?_, Keeps.nil⟩)
      rfl
  rw [p4, Bool.true_and]
  obtain ⟨res, hres⟩ : ∃ r, chkR d.peers.length d.routes = r := ⟨_, rfl⟩
  rw [hres]
  refine Tri_of (N := Tryz.f8.ntmps) (c := bodyOf Tryz.f8) Tryz.func8 rfl rfl rfl rfl (fun w0 S0 => ?_)
  dsimp only [DuS.ro, DuS.e]
  repeat' (first | refine SW ?_ | refine SD ?_ | (refine HO_k 12 rfl ?_; refine HO_callq rfl rfl rfl rfl (hwi) (fun _ _ => rfl) (trivial) rfl rfl sqA ?_) | exact HO_seg rfl rfl | refine S1 ?_ | (refine S2 ?_; intro _) | (refine S3 ?_; intro _ _) | (refine S4 ?_; intro _ _ _) | (refine HO_g 2 rfl ?_; (first | apply HO_and rfl rfl rfl rfl rfl rfl rfl rfl rfl | apply HO_or rfl rfl rfl rfl rfl rfl rfl rfl rfl)) | refine S5 ?_ | (intro hb; try replace hb := simB hb; try exact kill hb))
  rename_i b1
  refine HC_loop (α := Nat) (fun j => j ≤ d.peers.length) (fun j => [(3, .int .i64 j), (1, pt b1)]) (fun _ => [dC b1 d]) (fun j => d.peers.length - j) rfl 0 (Nat.zero_le _) ⟨rfl, rfl, trivial⟩ rfl ?_
  intro j hj
  dsimp only [pt, dC]
  rcases Nat.lt_or_ge j d.peers.length with hlt | hge
  · obtain ⟨y, hy⟩ : ∃ y, d.peers[j]? = some y := ⟨d.peers[j], List.getElem?_eq_getElem hlt⟩
    have hf := fits4_t y.as_
    rw [show fit4 y.as_ = true from List.all_eq_true.1 p4 y (List.mem_of_getElem? hy)] at hf
    repeat' (first | refine SW ?_ | refine SD ?_ | (refine HO_k 12 rfl ?_; refine HO_callq rfl rfl rfl rfl (hf) (fun _ _ => rfl) (trivial) rfl rfl sqA ?_) | exact HO_seg rfl rfl | refine S1 ?_ | (refine S2 ?_; intro _) | (refine S3 ?_; intro _ _) | (refine S4 ?_; intro _ _ _) | (refine HO_g 2 rfl ?_; (first | apply HO_and rfl rfl rfl rfl rfl rfl rfl rfl rfl | apply HO_or rfl rfl rfl rfl rfl rfl rfl rfl rfl)) | refine S5 ?_ | (intro hb; try replace hb := simB hb; try exact kill hb))
    exact HX_at (j + 1) ⟨by omega, by omega⟩ ⟨rfl, rfl, trivial⟩ rfl
  obtain rfl : j = d.peers.length := by omega
  repeat' (first | refine SW ?_ | refine SD ?_ | exact HO_seg rfl rfl | refine S1 ?_ | (refine S2 ?_; intro _) | (refine S3 ?_; intro _ _) | (refine S4 ?_; intro _ _ _) | (refine HO_g 2 rfl ?_; (first | apply HO_and rfl rfl rfl rfl rfl rfl rfl rfl rfl | apply HO_or rfl rfl rfl rfl rfl rfl rfl rfl rfl)) | refine S5 ?_ | (intro hb; try replace hb := simB hb; try exact kill hb))
  obtain ⟨lim, hlim, hall, hend⟩ : ∃ lim, lim ≤ d.routes.length ∧ (∀ k, k < lim → badAt d.peers.length d.routes k = false) ∧ (lim = d.routes.length ∧ res = true ∨ lim < d.routes.length ∧ badAt d.peers.length d.routes lim = true ∧ res = false) := by
    cases res
    · obtain ⟨q, h1, h2, h3⟩ := chkR_false hres
      exact ⟨q, by omega, h3, .inr ⟨h1, h2, rfl⟩⟩
    · exact ⟨d.routes.length, Nat.le_refl _, chkR_true hres, .inl ⟨rfl, rfl⟩⟩
  refine HC_loop (α := Nat) (fun j => j ≤ lim) (fun j => [(4, .int .i64 j), (1, pt b1)]) (fun _ => [dC b1 d]) (fun j => lim - j) rfl 0 (Nat.zero_le _) ⟨rfl, rfl, trivial⟩ rfl ?_
  intro j hj
  dsimp only [pt, dC]
  rcases Nat.lt_or_ge j lim with hlt | hge
  · obtain ⟨y, hy⟩ : ∃ y, d.routes[j]? = some y := ⟨d.routes[j], List.getElem?_eq_getElem (by omega)⟩
    have hok := hall j hlt
    rw [badAt_split hy, Bool.or_eq_false_iff] at hok
    have hmem := List.mem_of_getElem? hy
    have hw := hd.r y hmem
    have hone := rone_t y.id y.a hw.a y.n true
    have hatt := rcheck_t y.at_ true (by have := hw.l.p; omega) (by have := hw.l.c; omega) (fun s hs => by have := hw.l.s s hs; omega)
    dsimp only [nlV, AttS.e] at hone hatt
    have ho := hok.1
    rw [Bool.not_eq_false'] at ho
    unfold okRt at ho
    simp only [Bool.and_eq_true, decide_eq_true_eq] at ho
    obtain ⟨⟨⟨o1, o2⟩, o3⟩, o4⟩ := ho
    rw [o3] at hone
    rw [o4] at hatt
    cases j with
    | zero =>
      repeat' (first | refine SW ?_ | refine SD ?_ | (refine HO_k 12 rfl ?_; refine HO_callq rfl rfl rfl rfl (hone) (fun _ _ => rfl) (trivial) rfl rfl sqA ?_) | (refine HO_k 12 rfl ?_; refine HO_callq rfl rfl rfl rfl (hatt) (fun _ _ => rfl) (rt_src 2 rfl hmem) rfl rfl sqA ?_) | exact HO_seg rfl rfl | refine S1 ?_ | (refine S2 ?_; intro _) | (refine S3 ?_; intro _ _) | (refine S4 ?_; intro _ _ _) | (refine HO_g 2 rfl ?_; (first | apply HO_and rfl rfl rfl rfl rfl rfl rfl rfl rfl | apply HO_or rfl rfl rfl rfl rfl rfl rfl rfl rfl)) | refine S5 ?_ | (intro hb; try replace hb := simB hb; try exact kill hb))
      refine HX_keeps (rw' := [dC b1 d]) permA ?_
      exact HX_at 1 ⟨by omega, by omega⟩ ⟨rfl, rfl, trivial⟩ rfl
    | succ k =>
      obtain ⟨x, hx⟩ : ∃ x, d.routes[k]? = some x := ⟨d.routes[k], List.getElem?_eq_getElem (by omega)⟩
      have hls := rless_t x y
      have hlt0 : cmpK x y < 0 := by
        have := hok.2
        rw [ordAt_succ hx] at this
        have := of_decide_eq_false this
        omega
      rw [decide_eq_true hlt0] at hls
      have hk1 : (((k + 1 : Nat) : Int)) - 1 = (k : Int) := by omega
      repeat' (first | refine SW ?_ | refine SD ?_ | (with_reducible refine HO_rw (congrArg (Value.int .i64) hk1) ?_) | (refine HO_k 12 rfl ?_; refine HO_callq rfl rfl rfl rfl (hone) (fun _ _ => rfl) (trivial) rfl rfl sqA ?_) | (refine HO_k 12 rfl ?_; refine HO_callq rfl rfl rfl rfl (hatt) (fun _ _ => rfl) (rt_src 2 rfl hmem) rfl rfl sqA ?_) | (refine HO_k 12 rfl ?_; refine HO_callq rfl rfl rfl rfl (hls) (fun _ _ => rfl) (trivial) rfl rfl sqA ?_) | exact HO_seg rfl rfl | refine S1 ?_ | (refine S2 ?_; intro _) | (refine S3 ?_; intro _ _) | (refine S4 ?_; intro _ _ _) | (refine HO_g 2 rfl ?_; (first | apply HO_and rfl rfl rfl rfl rfl rfl rfl rfl rfl | apply HO_or rfl rfl rfl rfl rfl rfl rfl rfl rfl)) | refine S5 ?_ | (intro hb; try replace hb := simB hb; try exact kill hb))
      refine HX_keeps (rw' := [dC b1 d]) permA ?_
      exact HX_at (k + 1 + 1) ⟨by omega, by omega⟩ ⟨rfl, rfl, trivial⟩ rfl
  obtain rfl : j = lim := by omega
  rcases hend with ⟨h1, rfl⟩ | ⟨h1, hbad, rfl⟩
  · subst h1
    repeat' (first | refine SW ?_ | refine SD ?_ | exact HO_seg rfl rfl | refine S1 ?_ | (refine S2 ?_; intro _) | (refine S3 ?_; intro _ _) | (refine S4 ?_; intro _ _ _) | (refine HO_g 2 rfl ?_; (first | apply HO_and rfl rfl rfl rfl rfl rfl rfl rfl rfl | apply HO_or rfl rfl rfl rfl rfl rfl rfl rfl rfl)) | refine S5 ?_ | (intro hb; try replace hb := simB hb; try exact kill hb))
    ((first | apply HX_ret | apply HX_retn); (repeat (first | exact Res_nil | apply Res_tmp rfl | apply Res_ce rfl rfl rfl)); unfold RetQ; refine ⟨(), trivial, ?_, Keeps.nil⟩)
    rfl
  · obtain ⟨y, hy⟩ : ∃ y, d.routes[j]? = some y := ⟨d.routes[j], List.getElem?_eq_getElem h1⟩
    rw [badAt_split hy] at hbad
    have hmem := List.mem_of_getElem? hy
    have hw := hd.r y hmem
    have hone := rone_t y.id y.a hw.a y.n true
    have hatt := rcheck_t y.at_ true (by have := hw.l.p; omega) (by have := hw.l.c; omega) (fun s hs => by have := hw.l.s s hs; omega)
    dsimp only [nlV, AttS.e] at hone hatt
    cases hoz : okRt d.peers.length y
    · have hX : ¬ (0 ≤ y.r ∧ y.r < d.peers.length ∧ oneN true y.id y.a y.n = true ∧ attOk true y.at_ = true) := fun h => by
        have : okRt d.peers.length y = true := by unfold okRt; rw [decide_eq_true h.1, decide_eq_true h.2.1, h.2.2.1, h.2.2.2]; rfl
        rw [hoz] at this
        cases this
      repeat' (first | refine SW ?_ | refine SD ?_ | (refine HO_k 12 rfl ?_; refine HO_callq rfl rfl rfl rfl (hone) (fun _ _ => rfl) (trivial) rfl rfl sqA ?_) | (refine HO_k 12 rfl ?_; refine HO_callq rfl rfl rfl rfl (hatt) (fun _ _ => rfl) (rt_src 2 rfl hmem) rfl rfl sqA ?_) | (refine HC_cond rfl rfl (fun hb => ?_) (fun hb => by exfalso; first | omega | (refine hX ?_; simp only [Bool.or_eq_false_iff, decide_eq_false_iff_not, Bool.not_eq_false'] at hb; exact ⟨by omega, by omega, by simp [hb], by simp [hb]⟩))) | exact HO_seg rfl rfl | refine S1 ?_ | (refine S2 ?_; intro _) | (refine S3 ?_; intro _ _) | (refine S4 ?_; intro _ _ _) | (refine HO_g 2 rfl ?_; (first | apply HO_and rfl rfl rfl rfl rfl rfl rfl rfl rfl | apply HO_or rfl rfl rfl rfl rfl rfl rfl rfl rfl)) | refine S5 ?_ | (intro hb; try replace hb := simB hb; try exact kill hb))
      ((first | apply HX_ret | apply HX_retn); (repeat (first | exact Res_nil | apply Res_tmp rfl | apply Res_ce rfl rfl rfl)); unfold RetQ; refine ⟨(), trivial, ?_, Keeps.nil⟩)
      rfl
    · rw [hoz, Bool.not_true, Bool.false_or] at hbad
      unfold okRt at hoz
      simp only [Bool.and_eq_true, decide_eq_true_eq] at hoz
      obtain ⟨⟨⟨o1, o2⟩, o3⟩, o4⟩ := hoz
      rw [o3] at hone
      rw [o4] at hatt
      cases j with
      | zero => cases hbad
      | succ k =>
        obtain ⟨x, hx⟩ : ∃ x, d.routes[k]? = some x := ⟨d.routes[k], List.getElem?_eq_getElem (by omega)⟩
        have hls := rless_t x y
        have hge0 : 0 ≤ cmpK x y := by
          rw [ordAt_succ hx] at hbad
          exact of_decide_eq_true hbad
        rw [decide_eq_false (by omega)] at hls
        have hk1 : (((k + 1 : Nat) : Int)) - 1 = (k : Int) := by omega
        repeat' (first | refine SW ?_ | refine SD ?_ | (with_reducible refine HO_rw (congrArg (Value.int .i64) hk1) ?_) | (refine HO_k 12 rfl ?_; refine HO_callq rfl rfl rfl rfl (hone) (fun _ _ => rfl) (trivial) rfl rfl sqA ?_) | (refine HO_k 12 rfl ?_; refine HO_callq rfl rfl rfl rfl (hatt) (fun _ _ => rfl) (rt_src 2 rfl hmem) rfl rfl sqA ?_) | (refine HO_k 12 rfl ?_; refine HO_callq rfl rfl rfl rfl (hls) (fun _ _ => rfl) (trivial) rfl rfl sqA ?_) | exact HO_seg rfl rfl | refine S1 ?_ | (refine S2 ?_; intro _) | (refine S3 ?_; intro _ _) | (refine S4 ?_; intro _ _ _) | (refine HO_g 2 rfl ?_; (first | apply HO_and rfl rfl rfl rfl rfl rfl rfl rfl rfl | apply HO_or rfl rfl rfl rfl rfl rfl rfl rfl rfl)) | refine S5 ?_ | (intro hb; try replace hb := simB hb; try exact kill hb))
        ((first | apply HX_ret | apply HX_retn); (repeat (first | exact Res_nil | apply Res_tmp rfl | apply Res_ce rfl rfl rfl)); unfold RetQ; refine ⟨(), trivial, ?_, Keeps.nil⟩)
        rfl
end Go.Proofs.YtdeeokkkcfkbjaaGreat
