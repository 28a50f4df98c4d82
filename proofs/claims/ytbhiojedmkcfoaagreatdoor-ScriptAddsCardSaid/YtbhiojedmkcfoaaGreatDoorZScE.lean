/- Part of a proof of many texts: what the theorem at its end leans on. -/
import Derived.Test.YtbhiojedmkcfoaaGreatDoorZScC
import Derived.Test.YtbhiojedmkcfoaaGreatDoorZCfK
import Derived.Test.YtbhiojedmkcfoaaGreatDoorZCfA
import Derived.Test.YtbhiojedmkcfoaaGreatDoorZScP
namespace Go.Proofs.YtbhiojedmkcfoaaGreatDoor
set_option linter.unusedVariables false
set_option linter.unusedSimpArgs false
open Go.RowKit
attribute [local irreducible] HC HX HO Tri eP adr
structure ScS where
 c : CfS
 A : Option Addr
 cap : Nat
 l : List DoS
@[reducible] def ScS.e (s : ScS) : List Value := s.c.e ++ [.slice s.A s.l.length s.cap]
def doPs (l : List DoS) : List SL := l.flatMap DoS.ro
theorem do_mem {l : List DoS} {d : DoS} (h : d ∈ l) {e : SL} (he : e ∈ d.ro) : e ∈ doPs l := List.mem_flatMap.2 ⟨d, h, he⟩
@[reducible] def ScS.ro (s : ScS) : List SL := [arr IfQ.e 5 s.c.iA s.c.q.ifs, arr iE 1 s.c.dA s.c.q.deny, arr DoS.e 10 s.A s.l, inn (doPs s.l)]
def ScS.q (s : ScS) : List DoQ := s.l.map (·.q)
def DoW (d : DoQ) : Prop := DoL d ∧ DoR d ∧ ∀ c ∈ d.cl, c.a < 4294967296
def ScL (s : ScS) : Prop := CfL s.c ∧ s.l.length ≤ 1000000 ∧ ∀ d ∈ s.l, DoW d.q
theorem do_src {l : List DoS} {d : DoS} (h : d ∈ l) : AllSrc [inn (doPs l)] d.ro :=
 ⟨.inl ⟨_, .head _, inn_arr (do_mem h (.head _))⟩, .inl ⟨_, .head _, inn_arr (do_mem h (.tail _ (.head _)))⟩, .inl ⟨_, .head _, inn_arr (do_mem h (.tail _ (.tail _ (.head _))))⟩, trivial⟩
theorem sodd_i {l : List DoS} {d : DoS} (h : d ∈ l) (hw : DoW d.q) : Tri Tryz.prog 116 [.agg d.e.toArray] [inn (doPs l)] [] (fun _ : Unit => True) (fun _ => .bool (!oneQ d.q)) (fun _ => []) :=
 Tri_ro (sodd_t d hw.1 hw.2.2 hw.2.1) (do_src h)
theorem rone_i {l : List DoS} {d : DoS} (h : d ∈ l) (hw : DoW d.q) : Tri Tryz.prog 114 [.agg d.e.toArray] [inn (doPs l)] [] (fun _ : Unit => True) (fun _ => .bool (oneQ d.q)) (fun _ => []) :=
 Tri_ro (rone_t d hw.1 hw.2.2) (do_src h)
theorem do_src2 {l l' : List DoS} {d d' : DoS} (h : d ∈ l) (h' : d' ∈ l') : AllSrc [inn (doPs l), inn (doPs l')] (d.ro ++ d'.ro) :=
 ⟨.inl ⟨_, .head _, inn_arr (do_mem h (.head _))⟩, .inl ⟨_, .head _, inn_arr (do_mem h (.tail _ (.head _)))⟩, .inl ⟨_, .head _, inn_arr (do_mem h (.tail _ (.tail _ (.head _))))⟩,
  .inl ⟨_, .tail _ (.head _), inn_arr (do_mem h' (.head _))⟩, .inl ⟨_, .tail _ (.head _), inn_arr (do_mem h' (.tail _ (.head _)))⟩, .inl ⟨_, .tail _ (.head _), inn_arr (do_mem h' (.tail _ (.tail _ (.head _))))⟩, trivial⟩
theorem sdo_i {l l' : List DoS} {d d' : DoS} (h : d ∈ l) (h' : d' ∈ l') (hw : DoW d.q) (hw' : DoW d'.q) : Tri Tryz.prog 112 [.agg d.e.toArray, .agg d'.e.toArray] [inn (doPs l), inn (doPs l')] [] (fun _ : Unit => True) (fun _ => .bool (decide (d.q = d'.q))) (fun _ => []) :=
 Tri_ro (sdo_t d d' hw.1 hw'.1) (do_src2 h h')
theorem rdo_i {l l' : List DoS} {d d' : DoS} (h : d ∈ l) (h' : d' ∈ l') (hw : DoW d.q) (hw' : DoW d'.q) : Tri Tryz.prog 113 [.agg d.e.toArray, .agg d'.e.toArray] [inn (doPs l), inn (doPs l')] [] (fun _ : Unit => True) (fun _ => .bool (decide (d.q = d'.q))) (fun _ => []) :=
 Tri_ro (rdo_t d d' hw.1 hw'.1) (do_src2 h h')
set_option maxHeartbeats 4000000 in
theorem indexD_t (A : Option Addr) (n c : Nat) (l : List DoS) (hn : n = l.length) (hl : l.length ≤ 1000000) (g : Nat) [FnOk Tryz.prog g] (cap : List Value) (roC : List SL) (p : DoS → Bool)
  (hp : ∀ x ∈ l, Tri Tryz.prog g (.agg x.e.toArray :: cap) roC [] (fun _ : Unit => True) (fun _ => .bool (p x)) (fun _ => [])) :
  Tri Tryz.prog 175 [.slice A n c, .func (.func g) #[] cap.toArray] (arr DoS.e 10 A l :: roC) [] (fun _ : Unit => True) (fun _ => .int .i64 (idxF p l)) (fun _ => []) := by
 refine Tri_of (N := Tryz.f175.ntmps) (c := bodyOf Tryz.f175) Tryz.func175 rfl rfl rfl rfl (fun w0 S0 => ?_)
 repeat' (first | refine SW ?_ | refine SD ?_ | exact HO_seg rfl rfl | refine S1 ?_ | (refine S2 ?_; intro _) | (refine S3 ?_; intro _ _) | (refine S4 ?_; intro _ _ _) | (refine HO_g 2 rfl ?_; first | apply HO_a1 rfl | apply HO_o1 rfl) | refine S5 ?_ | (intro hb; try replace hb := simB hb; try exact kill hb))
 refine HC_loop (α := Nat) (fun j => j ≤ l.length ∧ ∀ q, q < j → ∀ b, l[q]? = some b → p b = false) (fun j => [(8, .int .i64 j), (7, .int .i64 n), (0, .slice A n c), (1, .func (.func g) #[] cap.toArray)]) (fun _ => []) (fun j => l.length - j) rfl 0 ⟨Nat.zero_le _, fun q hq => by omega⟩ ⟨rfl, rfl, rfl, rfl, trivial⟩ rfl ?_
 intro j ⟨hj, hno⟩
 rcases Nat.lt_or_ge j l.length with hlt | hge
 ·obtain ⟨a, ha⟩ : ∃ a, l[j]? = some a := ⟨l[j], List.getElem?_eq_getElem hlt⟩
  have hpa := hp a (List.mem_of_getElem? ha)
  repeat' (first | refine SW ?_ | refine SD ?_ | (refine HO_k 12 rfl ?_; refine HO_callq rfl rfl rfl rfl (hpa) (fun _ _ => rfl) (AllSrc.self) rfl rfl sqA ?_) | exact HO_seg rfl rfl | refine S1 ?_ | (refine S2 ?_; intro _) | (refine S3 ?_; intro _ _) | (refine S4 ?_; intro _ _ _) | (refine HO_g 2 rfl ?_; first | apply HO_a1 rfl | apply HO_o1 rfl) | refine S5 ?_ | (intro hb; try replace hb := simB hb; try exact kill hb) | refine HC_cond rfl rfl ?_ ?_)
  ·(refine SR ?_; unfold RetQ; refine ⟨(), trivial, ?_, Keeps.nil⟩)
   exact congrArg (Value.int .i64) (idxF_at ha hb hno).symm
  ·exact HX_at (j + 1) ⟨⟨hlt, fun q hq b hbq => by
    rcases Nat.lt_or_ge q j with h | h
    ·exact hno q h b hbq
    ·obtain rfl : q = j := by omega
     rw [ha] at hbq
     injection hbq with hbq
     exact hbq ▸ hb⟩, by omega⟩ ⟨rfl, rfl, rfl, rfl, trivial⟩ rfl
 ·obtain rfl : j = l.length := by omega
  repeat' (first | refine SW ?_ | refine SD ?_ | exact HO_seg rfl rfl | refine S1 ?_ | (refine S2 ?_; intro _) | (refine S3 ?_; intro _ _) | (refine S4 ?_; intro _ _ _) | (refine HO_g 2 rfl ?_; first | apply HO_a1 rfl | apply HO_o1 rfl) | refine S5 ?_ | (intro hb; try replace hb := simB hb; try exact kill hb))
  (refine SR ?_; unfold RetQ; refine ⟨(), trivial, ?_, Keeps.nil⟩)
  exact congrArg (Value.int .i64) (idxF_no hno).symm
set_option maxHeartbeats 4000000 in
theorem containsD_t (A : Option Addr) (n c : Nat) (l : List DoS) (hn : n = l.length) (hl : l.length ≤ 1000000) (g : Nat) [FnOk Tryz.prog g] (cap : List Value) (roC : List SL) (p : DoS → Bool)
  (hp : ∀ x ∈ l, Tri Tryz.prog g (.agg x.e.toArray :: cap) roC [] (fun _ : Unit => True) (fun _ => .bool (p x)) (fun _ => [])) :
  Tri Tryz.prog 115 [.slice A n c, .func (.func g) #[] cap.toArray] (arr DoS.e 10 A l :: roC) [] (fun _ : Unit => True) (fun _ => .bool (l.any p)) (fun _ => []) := by
 have h1 := indexD_t A n c l hn hl g cap roC p hp
 refine Tri_of (N := Tryz.f115.ntmps) (c := bodyOf Tryz.f115) Tryz.func115 rfl rfl rfl rfl (fun w0 S0 => ?_)
 repeat' (first | refine SW ?_ | (refine HO_k 12 rfl ?_; refine HO_callq rfl rfl rfl rfl (h1) (fun _ _ => rfl) (AllSrc.of fun f hf => ⟨f, List.mem_append.2 (.inl hf), Ent.rfl_⟩) rfl rfl sqA ?_) | exact HO_seg rfl rfl | refine S1 ?_ | (refine S2 ?_; intro _) | (refine S3 ?_; intro _ _) | (refine S4 ?_; intro _ _ _) | (refine HO_g 2 rfl ?_; first | apply HO_a1 rfl | apply HO_o1 rfl) | refine S5 ?_ | (intro hb; try replace hb := simB hb; try exact kill hb))
 (refine SR ?_; unfold RetQ; refine ⟨(), trivial, ?_, Keeps.nil⟩)
 exact congrArg Value.bool (idxF_ge p l)
theorem any_map (l : List DoS) : (l.any fun x => !oneQ x.q) = !(l.map (·.q)).all oneQ := by
 rw [any_all (fun x : DoS => oneQ x.q) l]
 congr 1
 induction l with
 | nil => rfl
 | cons x l ih => simp only [List.all_cons, List.map_cons, ih]
def scB (s : ScS) : Bool := cfOk s.c.q && (decide (s.l.length ≤ 4096) && (s.l.map (·.q)).all oneQ)
set_option maxHeartbeats 8000000 in
theorem scheck_t (s : ScS) (hs : ScL s) : Tri Tryz.prog 46 [.agg s.e.toArray] s.ro [] (fun _ : Unit => True) (fun _ => .int .i64 (if scB s = true then 0 else 270)) (fun _ => []) := by
 obtain ⟨h1, h2, h3⟩ := hs
 have c1 := ccheck_t s.c h1
 have c2 := containsD_t s.A s.l.length s.cap s.l rfl h2 116 [] [inn (doPs s.l)] (fun x => !oneQ x.q) (fun x hx => sodd_i hx (h3 x hx))
 rw [any_map] at c2
 dsimp only [CfS.ro] at c1
 unfold scB
 cases hok : cfOk s.c.q with
 | false =>
  rw [hok] at c1
  dsimp only [CfS.e] at c1
  refine Tri_of (N := Tryz.f46.ntmps) (c := bodyOf Tryz.f46) Tryz.func46 rfl rfl rfl rfl (fun w0 S0 => ?_)
  dsimp only [ScS.e, ScS.ro, CfS.e, lca, lna]
  repeat' (first | refine SW ?_ | ((refine HO_g 2 rfl ?_); (refine HO_skip rfl rfl rfl rfl rdA ?_)) | refine SD ?_ | (refine HO_k 12 rfl ?_; refine HO_callq rfl rfl rfl rfl (c1) (fun _ _ => rfl) (srcsA) rfl rfl sqA ?_) | exact HO_seg rfl rfl | refine S1 ?_ | (refine S2 ?_; intro _) | (refine S3 ?_; intro _ _) | (refine S4 ?_; intro _ _ _) | (refine HO_g 2 rfl ?_; first | apply HO_a1 rfl | apply HO_o1 rfl) | refine S5 ?_ | (intro hb; try replace hb := simB hb; try exact kill hb))
  (refine SR ?_; unfold RetQ; refine ⟨(), trivial, ?_, Keeps.nil⟩)
  rfl
 | true =>
  rw [hok] at c1
  dsimp only [CfS.e] at c1
  by_cases hl : s.l.length ≤ 4096
  ·rw [decide_eq_true hl]
   cases ha : (s.l.map (·.q)).all oneQ with
   | true =>
    rw [ha] at c2
    refine Tri_of (N := Tryz.f46.ntmps) (c := bodyOf Tryz.f46) Tryz.func46 rfl rfl rfl rfl (fun w0 S0 => ?_)
    dsimp only [ScS.e, ScS.ro, CfS.e, lca, lna]
    repeat' (first | refine SW ?_ | refine SD ?_ | (refine HO_k 12 rfl ?_; refine HO_callq rfl rfl rfl rfl (c1) (fun _ _ => rfl) (srcsA) rfl rfl sqA ?_) | (refine HO_k 12 rfl ?_; refine HO_callq rfl rfl rfl rfl (c2) (fun _ _ => rfl) (srcsA) rfl rfl sqA ?_) | exact HO_seg rfl rfl | refine S1 ?_ | (refine S2 ?_; intro _) | (refine S3 ?_; intro _ _) | (refine S4 ?_; intro _ _ _) | (refine HO_g 2 rfl ?_; first | apply HO_a1 rfl | apply HO_o1 rfl) | refine S5 ?_ | (intro hb; try replace hb := simB hb; try exact kill hb))
    (refine SR ?_; unfold RetQ; refine ⟨(), trivial, ?_, Keeps.nil⟩)
    rfl
   | false =>
    rw [ha] at c2
    refine Tri_of (N := Tryz.f46.ntmps) (c := bodyOf Tryz.f46) Tryz.func46 rfl rfl rfl rfl (fun w0 S0 => ?_)
    dsimp only [ScS.e, ScS.ro, CfS.e, lca, lna]
    repeat' (first | refine SW ?_ | refine SD ?_ | (refine HO_k 12 rfl ?_; refine HO_callq rfl rfl rfl rfl (c1) (fun _ _ => rfl) (srcsA) rfl rfl sqA ?_) | (refine HO_k 12 rfl ?_; refine HO_callq rfl rfl rfl rfl (c2) (fun _ _ => rfl) (srcsA) rfl rfl sqA ?_) | exact HO_seg rfl rfl | refine S1 ?_ | (refine S2 ?_; intro _) | (refine S3 ?_; intro _ _) | (refine S4 ?_; intro _ _ _) | (refine HO_g 2 rfl ?_; first | apply HO_a1 rfl | apply HO_o1 rfl) | refine S5 ?_ | (intro hb; try replace hb := simB hb; try exact kill hb))
    (refine SR ?_; unfold RetQ; refine ⟨(), trivial, ?_, Keeps.nil⟩)
    rfl
  ·rw [decide_eq_false hl]
   refine Tri_of (N := Tryz.f46.ntmps) (c := bodyOf Tryz.f46) Tryz.func46 rfl rfl rfl rfl (fun w0 S0 => ?_)
   dsimp only [ScS.e, ScS.ro, CfS.e, lca, lna]
   repeat' (first | refine SW ?_ | ((refine HO_g 2 rfl ?_); (refine HO_skip rfl rfl rfl rfl rdA ?_)) | refine SD ?_ | (refine HO_k 12 rfl ?_; refine HO_callq rfl rfl rfl rfl (c1) (fun _ _ => rfl) (srcsA) rfl rfl sqA ?_) | exact HO_seg rfl rfl | refine S1 ?_ | (refine S2 ?_; intro _) | (refine S3 ?_; intro _ _) | (refine S4 ?_; intro _ _ _) | (refine HO_g 2 rfl ?_; first | apply HO_a1 rfl | apply HO_o1 rfl) | refine S5 ?_ | (intro hb; try replace hb := simB hb; try exact kill hb))
   (refine SR ?_; unfold RetQ; refine ⟨(), trivial, ?_, Keeps.nil⟩)
   rfl
set_option maxHeartbeats 8000000 in
theorem rcheck27_t (s : ScS) (hs : ScL s) : Tri Tryz.prog 45 [.agg s.e.toArray] s.ro [] (fun _ : Unit => True) (fun _ => .bool (scB s)) (fun _ => []) := by
 obtain ⟨h1, h2, h3⟩ := hs
 have c1 := rcheck19_t s.c h1
 dsimp only [CfS.ro] at c1
 unfold scB
 cases hok : cfOk s.c.q with
 | false =>
  rw [hok] at c1
  dsimp only [CfS.e] at c1
  refine Tri_of (N := Tryz.f45.ntmps) (c := bodyOf Tryz.f45) Tryz.func45 rfl rfl rfl rfl (fun w0 S0 => ?_)
  dsimp only [ScS.e, ScS.ro, CfS.e, lca, lna]
  repeat' (first | refine SW ?_ | ((refine HO_g 2 rfl ?_); (refine HO_skip rfl rfl rfl rfl rdA ?_)) | refine SD ?_ | (refine HO_k 12 rfl ?_; refine HO_callq rfl rfl rfl rfl (c1) (fun _ _ => rfl) (srcsA) rfl rfl sqA ?_) | exact HO_seg rfl rfl | refine S1 ?_ | (refine S2 ?_; intro _) | (refine S3 ?_; intro _ _) | (refine S4 ?_; intro _ _ _) | (refine HO_g 2 rfl ?_; first | apply HO_a1 rfl | apply HO_o1 rfl) | refine S5 ?_ | (intro hb; try replace hb := simB hb; try exact kill hb))
  (refine SR ?_; unfold RetQ; refine ⟨(), trivial, ?_, Keeps.nil⟩)
  rfl
 | true =>
  rw [hok] at c1
  dsimp only [CfS.e] at c1
  by_cases hl : s.l.length ≤ 4096
  ·rw [decide_eq_true hl]
   refine Tri_of (N := Tryz.f45.ntmps) (c := bodyOf Tryz.f45) Tryz.func45 rfl rfl rfl rfl (fun w0 S0 => ?_)
   dsimp only [ScS.e, ScS.ro, CfS.e, lca, lna]
   repeat' (first | refine SW ?_ | refine SD ?_ | (refine HO_k 12 rfl ?_; refine HO_callq rfl rfl rfl rfl (c1) (fun _ _ => rfl) (srcsA) rfl rfl sqA ?_) | exact HO_seg rfl rfl | refine S1 ?_ | (refine S2 ?_; intro _) | (refine S3 ?_; intro _ _) | (refine S4 ?_; intro _ _ _) | (refine HO_g 2 rfl ?_; first | apply HO_a1 rfl | apply HO_o1 rfl) | refine S5 ?_ | (intro hb; try replace hb := simB hb; try exact kill hb))
   rename_i bs
   refine HC_loop (α := Nat) (fun j => j ≤ s.l.length ∧ ∀ q, q < j → ∀ x, s.l[q]? = some x → oneQ x.q = true) (fun j => [(3, .int .i64 j), (1, pt bs)]) (fun _ => [cel bs 77 s.e]) (fun j => s.l.length - j) rfl 0 ⟨Nat.zero_le _, fun q hq => by omega⟩ ⟨rfl, rfl, trivial⟩ rfl ?_
   intro j ⟨hj, hall⟩
   rcases Nat.lt_or_ge j s.l.length with hlt | hge
   ·obtain ⟨x, hx⟩ : ∃ x, s.l[j]? = some x := ⟨s.l[j], List.getElem?_eq_getElem hlt⟩
    have hmem := List.mem_of_getElem? hx
    have g1 := rone_i hmem (h3 x hmem)
    cases hc : oneQ x.q with
    | true =>
     rw [hc] at g1
     dsimp only [ScS.e, CfS.e, lca, lna]
     repeat' (first | refine SW ?_ | refine SD ?_ | (refine HO_k 12 rfl ?_; refine HO_callq rfl rfl rfl rfl (g1) (fun _ _ => rfl) (srcsA) rfl rfl sqA ?_) | exact HO_seg rfl rfl | refine S1 ?_ | (refine S2 ?_; intro _) | (refine S3 ?_; intro _ _) | (refine S4 ?_; intro _ _ _) | (refine HO_g 2 rfl ?_; first | apply HO_a1 rfl | apply HO_o1 rfl) | refine S5 ?_ | (intro hb; try replace hb := simB hb; try exact kill hb))
     exact HX_at (j + 1) ⟨⟨hlt, fun q hq y hy => by
      rcases Nat.lt_or_ge q j with h | h
      ·exact hall q h y hy
      ·obtain rfl : q = j := by omega
       rw [hx] at hy
       injection hy with hy
       exact hy ▸ hc⟩, by omega⟩ ⟨rfl, rfl, trivial⟩ rfl
    | false =>
     rw [hc] at g1
     rw [all_no (List.mem_map.2 ⟨x, hmem, rfl⟩) hc]
     dsimp only [ScS.e, CfS.e, lca, lna]
     repeat' (first | refine SW ?_ | refine SD ?_ | (refine HO_k 12 rfl ?_; refine HO_callq rfl rfl rfl rfl (g1) (fun _ _ => rfl) (srcsA) rfl rfl sqA ?_) | exact HO_seg rfl rfl | refine S1 ?_ | (refine S2 ?_; intro _) | (refine S3 ?_; intro _ _) | (refine S4 ?_; intro _ _ _) | (refine HO_g 2 rfl ?_; first | apply HO_a1 rfl | apply HO_o1 rfl) | refine S5 ?_ | (intro hb; try replace hb := simB hb; try exact kill hb))
     (refine SR ?_; unfold RetQ; refine ⟨(), trivial, ?_, Keeps.nil⟩)
     rfl
   obtain rfl : j = s.l.length := by omega
   have hAll : (s.l.map (·.q)).all oneQ = true := by
    rw [List.all_eq_true]
    intro y hy
    obtain ⟨x, hx, rfl⟩ := List.mem_map.1 hy
    obtain ⟨q, hq⟩ := List.getElem?_of_mem hx
    exact hall q (List.getElem?_eq_some_iff.1 hq).1 x hq
   rw [hAll]
   dsimp only [ScS.e, CfS.e, lca, lna]
   repeat' (first | refine SW ?_ | refine SD ?_ | exact HO_seg rfl rfl | refine S1 ?_ | (refine S2 ?_; intro _) | (refine S3 ?_; intro _ _) | (refine S4 ?_; intro _ _ _) | (refine HO_g 2 rfl ?_; first | apply HO_a1 rfl | apply HO_o1 rfl) | refine S5 ?_ | (intro hb; try replace hb := simB hb; try exact kill hb))
   (refine SR ?_; unfold RetQ; refine ⟨(), trivial, ?_, Keeps.nil⟩)
   rfl
  ·rw [decide_eq_false hl]
   refine Tri_of (N := Tryz.f45.ntmps) (c := bodyOf Tryz.f45) Tryz.func45 rfl rfl rfl rfl (fun w0 S0 => ?_)
   dsimp only [ScS.e, ScS.ro, CfS.e, lca, lna]
   repeat' (first | refine SW ?_ | ((refine HO_g 2 rfl ?_); (refine HO_skip rfl rfl rfl rfl rdA ?_)) | refine SD ?_ | (refine HO_k 12 rfl ?_; refine HO_callq rfl rfl rfl rfl (c1) (fun _ _ => rfl) (srcsA) rfl rfl sqA ?_) | exact HO_seg rfl rfl | refine S1 ?_ | (refine S2 ?_; intro _) | (refine S3 ?_; intro _ _) | (refine S4 ?_; intro _ _ _) | (refine HO_g 2 rfl ?_; first | apply HO_a1 rfl | apply HO_o1 rfl) | refine S5 ?_ | (intro hb; try replace hb := simB hb; try exact kill hb))
   (refine SR ?_; unfold RetQ; refine ⟨(), trivial, ?_, Keeps.nil⟩)
   rfl
theorem q_at {l : List DoS} {j : Nat} {x : DoS} (h : l[j]? = some x) : (l.map (·.q))[j]? = some x.q := by rw [List.getElem?_map, h]; rfl
set_option maxHeartbeats 8000000 in
theorem eqfD_t (A : Option Addr) (c : Nat) (l : List DoS) (B : Option Addr) (c' : Nat) (l' : List DoS) (hl : l.length ≤ 1000000) (hl' : l'.length ≤ 1000000) (hw : ∀ d ∈ l, DoW d.q) (hw' : ∀ d ∈ l', DoW d.q) :
  Tri Tryz.prog 111 [.slice A l.length c, .slice B l'.length c', .func (.func 112) #[] #[]] [arr DoS.e 10 A l, arr DoS.e 10 B l', inn (doPs l), inn (doPs l')] [] (fun _ : Unit => True) (fun _ => .bool (decide (l.map (·.q) = l'.map (·.q)))) (fun _ => []) := by
 by_cases hne : l.length = l'.length
 ·refine Tri_of (N := Tryz.f111.ntmps) (c := bodyOf Tryz.f111) Tryz.func111 rfl rfl rfl rfl (fun w0 S0 => ?_)
  repeat' (first | refine SW ?_ | refine SD ?_ | exact HO_seg rfl rfl | refine S1 ?_ | (refine S2 ?_; intro _) | (refine S3 ?_; intro _ _) | (refine S4 ?_; intro _ _ _) | (refine HO_g 2 rfl ?_; first | apply HO_a1 rfl | apply HO_o1 rfl) | refine S5 ?_ | (intro hb; try replace hb := simB hb; try exact kill hb))
  refine HC_loop (α := Nat) (fun j => j ≤ l.length ∧ ∀ q, q < j → (l.map (·.q))[q]? = (l'.map (·.q))[q]?) (fun j => [(17, .int .i64 j), (16, .int .i64 l.length), (15, .slice A l.length c), (1, .slice B l'.length c'), (2, .func (.func 112) #[] #[])]) (fun _ => []) (fun j => l.length - j) rfl 0 ⟨Nat.zero_le _, fun q hq => by omega⟩ ⟨rfl, rfl, rfl, rfl, rfl, trivial⟩ rfl ?_
  intro j ⟨hj, hno⟩
  rcases Nat.lt_or_ge j l.length with hlt | hge
  ·obtain ⟨x, hx⟩ : ∃ x, l[j]? = some x := ⟨l[j], List.getElem?_eq_getElem hlt⟩
   obtain ⟨y, hy⟩ : ∃ y, l'[j]? = some y := ⟨l'[j], List.getElem?_eq_getElem (by omega)⟩
   have hxm := List.mem_of_getElem? hx
   have hym := List.mem_of_getElem? hy
   have g1 := sdo_i hxm hym (hw x hxm) (hw' y hym)
   dsimp only [DoS.e] at g1
   by_cases hxy : x.q = y.q
   ·rw [decide_eq_true hxy] at g1
    repeat' (first | refine SW ?_ | refine SD ?_ | (refine HO_k 12 rfl ?_; refine HO_callq rfl rfl rfl rfl (g1) (fun _ _ => rfl) (srcsA) rfl rfl sqA ?_) | exact HO_seg rfl rfl | refine S1 ?_ | (refine S2 ?_; intro _) | (refine S3 ?_; intro _ _) | (refine S4 ?_; intro _ _ _) | (refine HO_g 2 rfl ?_; first | apply HO_a1 rfl | apply HO_o1 rfl) | refine S5 ?_ | (intro hb; try replace hb := simB hb; try exact kill hb))
    refine HX_keeps (rw' := []) Keeps.nil ?_
    exact HX_at (j + 1) ⟨⟨hlt, fun q hq => by
     rcases Nat.lt_or_ge q j with h | h
     ·exact hno q h
     ·obtain rfl : q = j := by omega
      rw [q_at hx, q_at hy, hxy]⟩, by omega⟩ ⟨rfl, rfl, rfl, rfl, rfl, trivial⟩ rfl
   ·rw [decide_eq_false hxy] at g1
    rw [cdec_false (q_at hx) (q_at hy) hxy]
    repeat' (first | refine SW ?_ | refine SD ?_ | (refine HO_k 12 rfl ?_; refine HO_callq rfl rfl rfl rfl (g1) (fun _ _ => rfl) (srcsA) rfl rfl sqA ?_) | exact HO_seg rfl rfl | refine S1 ?_ | (refine S2 ?_; intro _) | (refine S3 ?_; intro _ _) | (refine S4 ?_; intro _ _ _) | (refine HO_g 2 rfl ?_; first | apply HO_a1 rfl | apply HO_o1 rfl) | refine S5 ?_ | (intro hb; try replace hb := simB hb; try exact kill hb))
    (refine SR ?_; unfold RetQ; refine ⟨(), trivial, ?_, Keeps.nil⟩)
    rfl
  ·obtain rfl : j = l.length := by omega
   rw [decide_eq_true (call_same (by rw [List.length_map, List.length_map]; exact hne) (by rw [List.length_map]; exact hno))]
   repeat' (first | refine SW ?_ | refine SD ?_ | exact HO_seg rfl rfl | refine S1 ?_ | (refine S2 ?_; intro _) | (refine S3 ?_; intro _ _) | (refine S4 ?_; intro _ _ _) | (refine HO_g 2 rfl ?_; first | apply HO_a1 rfl | apply HO_o1 rfl) | refine S5 ?_ | (intro hb; try replace hb := simB hb; try exact kill hb))
   (refine SR ?_; unfold RetQ; refine ⟨(), trivial, ?_, Keeps.nil⟩)
   rfl
 ·rw [decide_eq_false fun h => hne (by have := congrArg List.length h; simpa using this)]
  refine Tri_of (N := Tryz.f111.ntmps) (c := bodyOf Tryz.f111) Tryz.func111 rfl rfl rfl rfl (fun w0 S0 => ?_)
  repeat' (first | refine SW ?_ | refine SD ?_ | exact HO_seg rfl rfl | refine S1 ?_ | (refine S2 ?_; intro _) | (refine S3 ?_; intro _ _) | (refine S4 ?_; intro _ _ _) | (refine HO_g 2 rfl ?_; first | apply HO_a1 rfl | apply HO_o1 rfl) | refine S5 ?_ | (intro hb; try replace hb := simB hb; try exact kill hb))
  (refine SR ?_; unfold RetQ; refine ⟨(), trivial, ?_, Keeps.nil⟩)
  rfl
def scSame (s t : ScS) : Bool := cfSame s.c.q t.c.q && decide (s.q = t.q)
set_option maxHeartbeats 8000000 in
theorem ssame_t (s t : ScS) (hs : ScL s) (ht : ScL t) : Tri Tryz.prog 43 [.agg s.e.toArray, .agg t.e.toArray] (s.ro ++ t.ro) [] (fun _ : Unit => True) (fun _ => .bool (scSame s t)) (fun _ => []) := by
 have c1 := csame_t s.c t.c hs.1 ht.1
 have c2 := eqfD_t s.A s.cap s.l t.A t.cap t.l hs.2.1 ht.2.1 hs.2.2 ht.2.2
 dsimp only [CfS.e] at c1
 unfold scSame ScS.q
 refine Tri_of (N := Tryz.f43.ntmps) (c := bodyOf Tryz.f43) Tryz.func43 rfl rfl rfl rfl (fun w0 S0 => ?_)
 dsimp only [ScS.e, ScS.ro, CfS.e, lca, lna]
 repeat' (first | refine SW ?_ | (refine HO_k 12 rfl ?_; refine HO_callq rfl rfl rfl rfl (c1) (fun _ _ => rfl) (srcsA) rfl rfl sqA ?_) | (refine HO_k 12 rfl ?_; refine HO_callq rfl rfl rfl rfl (c2) (fun _ _ => rfl) (srcsA) rfl rfl sqA ?_) | exact HO_seg rfl rfl | refine S1 ?_ | (refine S2 ?_; intro _) | (refine S3 ?_; intro _ _) | (refine S4 ?_; intro _ _ _) | (refine HO_g 2 rfl ?_; first | apply HO_a1 rfl | apply HO_o1 rfl) | refine S5 ?_ | (intro hb; try replace hb := simB hb; try exact kill hb))
 (refine SR ?_; unfold RetQ; refine ⟨(), trivial, ?_, Keeps.nil⟩)
 rfl
set_option maxHeartbeats 8000000 in
theorem rsame27_t (s t : ScS) (hs : ScL s) (ht : ScL t) : Tri Tryz.prog 44 [.agg s.e.toArray, .agg t.e.toArray] (s.ro ++ t.ro) [] (fun _ : Unit => True) (fun _ => .bool (scSame s t)) (fun _ => []) := by
 have c1 := rsame19_t s.c t.c hs.1 ht.1
 dsimp only [CfS.e] at c1
 unfold scSame ScS.q
 cases hcf : cfSame s.c.q t.c.q with
 | false =>
  rw [hcf] at c1
  refine Tri_of (N := Tryz.f44.ntmps) (c := bodyOf Tryz.f44) Tryz.func44 rfl rfl rfl rfl (fun w0 S0 => ?_)
  dsimp only [ScS.e, ScS.ro, CfS.e, lca, lna]
  repeat' (first | refine SW ?_ | ((refine HO_g 2 rfl ?_); (refine HO_skip rfl rfl rfl rfl rdA ?_)) | refine SD ?_ | (refine HO_k 12 rfl ?_; refine HO_callq rfl rfl rfl rfl (c1) (fun _ _ => rfl) (srcsA) rfl rfl sqA ?_) | exact HO_seg rfl rfl | refine S1 ?_ | (refine S2 ?_; intro _) | (refine S3 ?_; intro _ _) | (refine S4 ?_; intro _ _ _) | (refine HO_g 2 rfl ?_; first | apply HO_a1 rfl | apply HO_o1 rfl) | refine S5 ?_ | (intro hb; try replace hb := simB hb; try exact kill hb))
  (refine SR ?_; unfold RetQ; refine ⟨(), trivial, ?_, Keeps.nil⟩)
  rfl
 | true =>
  rw [hcf] at c1
  obtain ⟨h1, h2, h3⟩ := hs
  obtain ⟨k1, k2, k3⟩ := ht
  by_cases hne : s.l.length = t.l.length
  ·refine Tri_of (N := Tryz.f44.ntmps) (c := bodyOf Tryz.f44) Tryz.func44 rfl rfl rfl rfl (fun w0 S0 => ?_)
   dsimp only [ScS.e, ScS.ro, CfS.e, lca, lna]
   repeat' (first | refine SW ?_ | refine SD ?_ | (refine HO_k 12 rfl ?_; refine HO_callq rfl rfl rfl rfl (c1) (fun _ _ => rfl) (srcsA) rfl rfl sqA ?_) | exact HO_seg rfl rfl | refine S1 ?_ | (refine S2 ?_; intro _) | (refine S3 ?_; intro _ _) | (refine S4 ?_; intro _ _ _) | (refine HO_g 2 rfl ?_; first | apply HO_a1 rfl | apply HO_o1 rfl) | refine S5 ?_ | (intro hb; try replace hb := simB hb; try exact kill hb))
   rename_i bs bt
   refine HC_loop (α := Nat) (fun j => j ≤ s.l.length ∧ ∀ q, q < j → (s.l.map (·.q))[q]? = (t.l.map (·.q))[q]?) (fun j => [(5, .int .i64 j), (2, pt bs), (3, pt bt)]) (fun _ => [cel bt 77 t.e, cel bs 77 s.e]) (fun j => s.l.length - j) rfl 0 ⟨Nat.zero_le _, fun q hq => by omega⟩ ⟨rfl, rfl, rfl, trivial⟩ rfl ?_
   intro j ⟨hj, hno⟩
   rcases Nat.lt_or_ge j s.l.length with hlt | hge
   ·obtain ⟨x, hx⟩ : ∃ x, s.l[j]? = some x := ⟨s.l[j], List.getElem?_eq_getElem hlt⟩
    obtain ⟨y, hy⟩ : ∃ y, t.l[j]? = some y := ⟨t.l[j], List.getElem?_eq_getElem (by omega)⟩
    have hxm := List.mem_of_getElem? hx
    have hym := List.mem_of_getElem? hy
    have g1 := rdo_i hxm hym (h3 x hxm) (k3 y hym)
    by_cases hxy : x.q = y.q
    ·rw [decide_eq_true hxy] at g1
     dsimp only [ScS.e, CfS.e, lca, lna]
     repeat' (first | refine SW ?_ | refine SD ?_ | (refine HO_k 12 rfl ?_; refine HO_callq rfl rfl rfl rfl (g1) (fun _ _ => rfl) (srcsA) rfl rfl sqA ?_) | exact HO_seg rfl rfl | refine S1 ?_ | (refine S2 ?_; intro _) | (refine S3 ?_; intro _ _) | (refine S4 ?_; intro _ _ _) | (refine HO_g 2 rfl ?_; first | apply HO_a1 rfl | apply HO_o1 rfl) | refine S5 ?_ | (intro hb; try replace hb := simB hb; try exact kill hb))
     exact HX_at (j + 1) ⟨⟨hlt, fun q hq => by
      rcases Nat.lt_or_ge q j with h | h
      ·exact hno q h
      ·obtain rfl : q = j := by omega
       rw [q_at hx, q_at hy, hxy]⟩, by omega⟩ ⟨rfl, rfl, rfl, trivial⟩ rfl
    ·rw [decide_eq_false hxy] at g1
     rw [cdec_false (q_at hx) (q_at hy) hxy]
     dsimp only [ScS.e, CfS.e, lca, lna]
     repeat' (first | refine SW ?_ | refine SD ?_ | (refine HO_k 12 rfl ?_; refine HO_callq rfl rfl rfl rfl (g1) (fun _ _ => rfl) (srcsA) rfl rfl sqA ?_) | exact HO_seg rfl rfl | refine S1 ?_ | (refine S2 ?_; intro _) | (refine S3 ?_; intro _ _) | (refine S4 ?_; intro _ _ _) | (refine HO_g 2 rfl ?_; first | apply HO_a1 rfl | apply HO_o1 rfl) | refine S5 ?_ | (intro hb; try replace hb := simB hb; try exact kill hb))
     (refine SR ?_; unfold RetQ; refine ⟨(), trivial, ?_, Keeps.nil⟩)
     rfl
   ·obtain rfl : j = s.l.length := by omega
    rw [decide_eq_true (call_same (by rw [List.length_map, List.length_map]; exact hne) (by rw [List.length_map]; exact hno))]
    dsimp only [ScS.e, CfS.e, lca, lna]
    repeat' (first | refine SW ?_ | refine SD ?_ | exact HO_seg rfl rfl | refine S1 ?_ | (refine S2 ?_; intro _) | (refine S3 ?_; intro _ _) | (refine S4 ?_; intro _ _ _) | (refine HO_g 2 rfl ?_; first | apply HO_a1 rfl | apply HO_o1 rfl) | refine S5 ?_ | (intro hb; try replace hb := simB hb; try exact kill hb))
    (refine SR ?_; unfold RetQ; refine ⟨(), trivial, ?_, Keeps.nil⟩)
    rfl
  ·rw [decide_eq_false fun h => hne (by have := congrArg List.length h; simpa using this)]
   refine Tri_of (N := Tryz.f44.ntmps) (c := bodyOf Tryz.f44) Tryz.func44 rfl rfl rfl rfl (fun w0 S0 => ?_)
   dsimp only [ScS.e, ScS.ro, CfS.e, lca, lna]
   repeat' (first | refine SW ?_ | refine SD ?_ | (refine HO_k 12 rfl ?_; refine HO_callq rfl rfl rfl rfl (c1) (fun _ _ => rfl) (srcsA) rfl rfl sqA ?_) | exact HO_seg rfl rfl | refine S1 ?_ | (refine S2 ?_; intro _) | (refine S3 ?_; intro _ _) | (refine S4 ?_; intro _ _ _) | (refine HO_g 2 rfl ?_; first | apply HO_a1 rfl | apply HO_o1 rfl) | refine S5 ?_ | (intro hb; try replace hb := simB hb; try exact kill hb))
   (refine SR ?_; unfold RetQ; refine ⟨(), trivial, ?_, Keeps.nil⟩)
   rfl
theorem W_one {d : DoQ} (h : oneQ d = true) (ha : AllA d) : DoW d := by
 have o := oneQ_iff.1 h
 obtain ⟨a, h1, h2⟩ := fit1 o.cs
 obtain ⟨b, h3, h4⟩ := fit4 o.cq
 obtain ⟨c, h5, h6⟩ := fit1 o.rs
 obtain ⟨e, h7, h8⟩ := fit4 o.rq
 have d1 := o.data
 have d2 := o.cl
 have d3 := o.rl
 refine ⟨⟨by omega, by omega, by omega⟩, ⟨?_, ?_, ?_, ?_⟩, ha⟩
 all_goals
  unfold i64R
  omega
theorem cfsame_q (q : CfQ) : cfSame q q = true := by simp [cfSame]
end Go.Proofs.YtbhiojedmkcfoaaGreatDoor
