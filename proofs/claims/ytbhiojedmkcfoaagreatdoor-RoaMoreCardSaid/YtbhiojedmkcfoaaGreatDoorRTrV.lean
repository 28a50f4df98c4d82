/- Part of a proof of many texts: what the theorem at its end leans on. -/
import Derived.Test.YtbhiojedmkcfoaaGreatDoorRTrT
import Derived.Test.YtbhiojedmkcfoaaGreatDoorRTrL
namespace Go.Proofs.YtbhiojedmkcfoaaGreatDoor
set_option linter.unusedVariables false
set_option linter.unusedSimpArgs false
open Go.RowKit
def mkA (D : Nat) (Q : Exit → Act → World → Prop) : Exit → Act → World → Prop := fun e b w => Q e { b with defers := b.defers ++ [markD D] } w
def HA (D : Nat) (P : Program) (N : Nat) (w0 : World) (S0 : Foot) (c : Code) (env : Env) (ro rw : List SL) (Q : Exit → Act → World → Prop) : Prop := HQ N w0 S0 env ro rw (fun b w => c.wp P Q { b with defers := b.defers ++ [markD D] } w)
section
variable {D : Nat} {P : Program} {N : Nat} {w0 : World} {S0 : Foot} {c : Code} {env : Env} {ro rw : List SL} {Q Q' : Exit → Act → World → Prop} {K : Act → World → Prop} {ops : Array Oper}
theorem HX_toA {e : Exit} (h : HX N w0 S0 e env ro rw (mkA D Q)) : HX N w0 S0 e env ro rw (mk D Q) := fun a S w ha hf => by
 have := h a S w ha hf
 simp only [mkA, ha.defers, List.nil_append] at this
 exact this
theorem HX_ofA {e : Exit} (h : HX N w0 S0 e env ro rw (mk D Q)) : HX N w0 S0 e env ro rw (mkA D Q) := fun a S w ha hf => by
 have := h a S w ha hf
 simp only [mkA, ha.defers, List.nil_append]
 exact this
theorem upon_markA {o : Oper} {a : Act} {n n' : Act → World → Prop} {x : Result Next} {ds : List Deferred} (hn : ∀ b w, n b w → n' { b with defers := b.defers ++ ds } w) (h : o.upon P a n (Kof K) x) : o.upon P { a with defers := a.defers ++ ds } n' Q x := by
 have hp : ∀ (b : Act) (dst : Option Nat) (v : Value), ({ b with defers := b.defers ++ ds } : Act).put dst v = { (b.put dst v) with defers := (b.put dst v).defers ++ ds } := fun b dst v => by cases dst <;> rfl
 have hq : ∀ (b : Act) (dst : Option Nat) (v : Value) (w : World), n (b.put dst v) w → n' (({ b with defers := b.defers ++ ds } : Act).put dst v) w := fun b dst v w h => by
  rw [hp]
  exact hn _ _ h
 cases x with
 | ok x w' =>
  cases x <;> simp only [Oper.upon] at h ⊢
  all_goals first
   | exact hq _ _ _ _ h
   | exact Calls.mono h fun e w'' he => by
      cases e
      ·exact hq _ _ _ _ he
      ·exact he.elim
      ·obtain ⟨_, _, hx⟩ := he; exact hx.elim
   | exact Rows.mono h fun v w'' he => hq _ _ _ _ he
 | halt x w' => cases x <;> simp only [Oper.upon] at h ⊢ <;> exact h.elim
theorem wpList_markA {ds : List Deferred} (hK : ∀ a w, K a w → Q .normal { a with defers := a.defers ++ ds } w) : ∀ (l : List Oper) (a : Act) (w : World), wpList P ops (Kof K) l a w → wpList P ops Q l { a with defers := a.defers ++ ds } w
 | [], a, w, h => hK a w h
 | o :: l, a, w, h => by
  unfold wpList at h ⊢
  split
  ·rename_i hw
   simp only [hw, if_true] at h
   rcases h with h | ⟨_, _, _, hx⟩
   ·left
    unfold Oper.wp at h ⊢
    have e : ({ a with defers := a.defers ++ ds } : Act).eval = a.eval := by funext x; cases x <;> rfl
    rw [e]
    exact upon_markA (fun b w' => wpList_markA hK l b w') h
   ·exact hx.elim
  ·rename_i hw
   simp only [hw] at h
   have := wpList_markA hK l _ _ h
   have hp : ({ a with defers := a.defers ++ ds } : Act).put o.dst undef = { (a.put o.dst undef) with defers := (a.put o.dst undef).defers ++ ds } := by cases o.dst <;> rfl
   rw [hp]
   exact this
theorem HA_ord {l : List Nat} (hk : isOrd c = true) (hl : nlist (cOps c) = some l) (hs : seqB 0 l = true) (hn : Nat.beq l.length (cOps c).length = true) (h : HO .ord P N w0 S0 (cOps c) l env ro rw (mkA D Q .normal)) : HA D P N w0 S0 c env ro rw Q := by
 cases c <;> try (simp [isOrd] at hk; done)
 rename_i id ops draw
 cases draw <;> try (simp [isOrd] at hk; done)
 intro a S w ha hf
 have h1 := h a S w ha hf
 have h2 := opsAt_all (cOps (.region id ops false)) l 0 (seqB_spec hs) (by simpa using Nat.eq_of_beq_eq_true hn)
 rw [h2] at h1
 simp only [cOps, List.drop_zero, Array.toArray_toList] at h1
 exact wp_region_list (id := id) (wpList_markA (fun _ _ h => h) _ _ _ h1)
theorem HA_seq (hk : isSeq c = true) (h : HA D P N w0 S0 (cL c) env ro rw (Exit.then ((cR c).wp P Q) Q)) : HA D P N w0 S0 c env ro rw Q := by
 cases c <;> simp [isSeq] at hk
 exact fun a S w ha hf => wp_seq (h a S w ha hf)
theorem HA_ret (hk : isRet c = true) (h : HX N w0 S0 .ret env ro rw (mkA D Q)) : HA D P N w0 S0 c env ro rw Q := by
 cases c <;> simp [isRet] at hk
 exact fun a S w ha hf => wp_ret (h a S w ha hf)
theorem HA_skip (hk : isSkip c = true) (h : HX N w0 S0 .normal env ro rw (mkA D Q)) : HA D P N w0 S0 c env ro rw Q := by
 cases c <;> simp [isSkip] at hk
 exact fun a S w ha hf => wp_skip (h a S w ha hf)
theorem HA_condT (hk : isCond c = true) (hv : Env.ev env (cCond c) = some (.bool true)) (h : HA D P N w0 S0 (cT c) env ro rw Q) : HA D P N w0 S0 c env ro rw Q := by
 cases c <;> simp [isCond] at hk
 exact fun a S w ha hw => wp_cond_split (t := true) (by have := ha.ev hv; rename_i x _ _; cases x <;> exact this) (fun _ => h a S w ha hw) (fun h => by cases h)
theorem HA_condF (hk : isCond c = true) (hv : Env.ev env (cCond c) = some (.bool false)) (h : HA D P N w0 S0 (cE c) env ro rw Q) : HA D P N w0 S0 c env ro rw Q := by
 cases c <;> simp [isCond] at hk
 exact fun a S w ha hw => wp_cond_split (t := false) (by have := ha.ev hv; rename_i x _ _; cases x <;> exact this) (fun h => by cases h) (fun _ => h a S w ha hw)
theorem HA_then (h : HA D P N w0 S0 c env ro rw Q) : HX N w0 S0 .normal env ro rw (mkA D (Exit.then (c.wp P Q) Q')) := h
theorem HA_block {i : Nat} (h : HX N w0 S0 .normal env ro rw (mkA D Q)) : HX N w0 S0 .normal env ro rw (mkA D (Exit.inBlock i Q)) := h
theorem HA_rthen {K : Act → World → Prop} (h : HX N w0 S0 .ret env ro rw (mkA D Q)) : HX N w0 S0 .ret env ro rw (mkA D (Exit.then K Q)) := h
theorem HR_condF {r : Option Nat} {m : Nat} (hk : isCond c = true) (hv : Env.ev env (cCond c) = some (.bool false)) (h : HR r m P N w0 S0 (cE c) env ro rw Q) : HR r m P N w0 S0 c env ro rw Q := by
 cases c <;> simp [isCond] at hk
 exact fun a S w ha hw => wpIn_cond_false (ha.ev hv) (h a S w ha hw)
theorem HR_skip {r : Option Nat} {m : Nat} (hk : isSkip c = true) (h : HX N w0 S0 .normal env ro rw Q) : HR r m P N w0 S0 c env ro rw Q := by
 cases c <;> simp [isSkip] at hk
 exact fun a S w ha hf => wpIn_skip (h a S w ha hf)
end
theorem SRc {p q : Prop} (hq : q) (h : q → p := by
 intro hq
 first
 | exact HR_condT rfl rfl hq
 | exact HR_condF rfl rfl hq
 | exact HR_skip rfl hq) : p := h hq
theorem SA {p q : Prop} (hq : q) (h : q → p := by
 intro hq
 first
 | exact HA_then hq
 | exact HA_seq rfl hq
 | exact HA_ord rfl rfl rfl rfl hq
 | exact HA_condT rfl rfl hq
 | exact HA_condF rfl rfl hq
 | exact HA_skip rfl hq
 | exact HA_ret rfl hq
 | exact HA_block hq
 | exact HA_rthen hq
 | exact HA_rblock hq) : p := h hq
theorem Cellish.glbs {g : Nat} {cs : Array Value} : Cellish (glbs g cs) := fun S w h => ⟨⟨h.1, by obtain ⟨T, fz, ho⟩ := h.2; exact ⟨_, ho, rfl⟩⟩, h.2⟩
attribute [local irreducible] HC HX HO Tri eP adr
theorem Keeps.exR {β : Type} {f : β → List SL} (x : β) {r : List SL} : Keeps (f x ++ r) (exS f :: r) := fun S w hs => by
 obtain ⟨A, B, hA, hB, hd, ha, hb⟩ := hs.split
 exact ⟨S, fun _ h => h, A, B, hA, hB, hd, ⟨x, ha⟩, hb⟩
theorem lines_t (s : List UInt8) : Tri Tryz.prog 146 [.string ⟨s.toArray⟩] [] [] (fun _ : Nat => True) (fun b => .func (.func 198) #[] #[pt b]) (fun b => [cel b 9 [.string ⟨s.toArray⟩]]) := by
 refine Tri_of (N := Tryz.f146.ntmps) (c := bodyOf Tryz.f146) Tryz.func146 rfl rfl rfl rfl (fun w0 S0 => ?_)
 repeat' (first | refine SW ?_ | refine SD ?_ | exact HO_seg rfl rfl | refine S1 ?_ | (refine S2 ?_; intro _) | (refine S3 ?_; intro _ _) | (refine S4 ?_; intro _ _ _) | (refine HO_g 2 rfl ?_; first | apply HO_a1 rfl | apply HO_o1 rfl) | refine S5 ?_ | (intro hb; try replace hb := simB hb; try exact kill hb))
 rename_i b1
 (refine SRt ?_; unfold RetQ; refine ⟨b1, trivial, rfl, Keeps.refl⟩)
theorem lines_seq (s : List UInt8) (hs : s.length ≤ 1000000) (b : Nat) (W : World) (h1 : W.heap[b]? = some (.cells [Value.string ⟨s.toArray⟩].toArray 9 (0, 0))) :
  SeqW Fence.wide 2 Tryz.prog 198 #[pt b] b (fun x : List UInt8 => #[.string ⟨x.toArray⟩]) (linB s) W := fun l J hJ hY V hV h0 =>
 lines_in l b s hs J hJ hY V (hV.trans h1) h0
def linQ (x : List UInt8) : RoQ := (lnQ (cutN x)).1
def linsQ (s : List UInt8) : List RoQ := (linB s).map linQ
def paF (b2 b3 b4 : Nat) (pre : List (List UInt8)) (x : OA) : List SL := [cel b4 47 [.slice x.1 (pre.map linQ).length x.2], own idE 73 4 x.1 (pre.map linQ).length x.2 ((pre.map linQ).map RoQ.e), cel b3 30 [.int .i64 0], cel b2 47 [.slice none 0 0]]
theorem paF_cells (b2 b3 b4 : Nat) (pre : List (List UInt8)) (x : OA) : ∀ e ∈ paF b2 b3 b4 pre x, Cellish e := fun e he => by
 simp [paF] at he
 rcases he with rfl | rfl | rfl | rfl
 ·exact Cellish.cel
 ·exact Cellish.own
 ·exact Cellish.cel
 ·exact Cellish.cel
set_option maxHeartbeats 1000000000 in
theorem roparse_t (m : Int) (s : List UInt8) (hs : s.length ≤ 90000) (hn : (linB s).length ≤ 4096) (hl : ∀ x ∈ linB s, endN x = true ∧ (lnQ (cutN x)).2 = true ∧ x.length ≤ 90000 ∧ (lnQ (cutN x)).1.a < 4294967296) :
  Tri Tryz.prog 88 [.string ⟨s.toArray⟩] [maxLen0 m] [] (fun _ : OA => True)
   (fun x => .tuple #[if roaOk (linsQ s) = true then .slice x.1 (linsQ s).length x.2 else .slice none 0 0, .int .i64 (if roaOk (linsQ s) = true then 0 else 330)])
   (fun x => if roaOk (linsQ s) = true then [own idE 73 4 x.1 (linsQ s).length x.2 ((linsQ s).map RoQ.e)] else []) := by
 refine Tri_ofM (N := Tryz.f88.ntmps) (c := bodyOf Tryz.f88) Tryz.func88 rfl rfl rfl rfl (fun w0 S0 => ?_)
 have c1 := lines_t s
 repeat' (first | refine SW ?_ | refine SD ?_ | (refine HO_k 12 rfl ?_; refine HO_call rfl rfl rfl rfl (c1) rfl (trivial) rfl rfl soA ?_; intro b hb; dsimp only [lca, lna]) | exact HO_seg rfl rfl | refine S1 ?_ | (refine S2 ?_; intro _) | (refine S3 ?_; intro _ _) | (refine S4 ?_; intro _ _ _) | (refine HO_g 2 rfl ?_; first | apply HO_a1 rfl | apply HO_o1 rfl) | refine S5 ?_ | (intro hb; try replace hb := simB hb; try exact kill hb))
 rename_i b2 b3 b4
 refine HC_keeps (rw' := [own idE 73 4 none 0 0 [], cel b4 47 [.slice none 0 0], cel b3 30 [.int .i64 0], cel b2 47 [.slice none 0 0], cel b 9 [.string ⟨s.toArray⟩]]) (Keeps.add (fun w => own_nil w) permA) ?_
 refine HC_keeps (rw' := paF b2 b3 b4 [] (none, 0) ++ [cel b 9 [.string ⟨s.toArray⟩]]) (by show Keeps _ [_, _, _, _, _]; exact permA) ?_
 refine HC_keeps (rw' := [exS (paF b2 b3 b4 []), cel b 9 [.string ⟨s.toArray⟩]]) (Keeps.exR (none, 0)) ?_
 refine HC_rangeW (α := List UInt8) (ty := 9) (i := 3) (t := 12) (p := 13) (d := 5) rfl rfl rfl rfl (Go.Proofs.enters_of Tryz.func198 (by kernel_rfl) rfl) (fun x => .string ⟨x.toArray⟩) (linB s) (b := b) (T := 9) (cs := [.string ⟨s.toArray⟩])
  (fun pre => [exS (paF b2 b3 b4 pre)]) rfl (fun W h1 => lines_seq s (by omega) b W h1) ?_ ?_ ?_ ?_
 ·intro e he
  rw [List.mem_singleton.1 he]
  exact Cellish.glbs
 ·intro pre e he
  rw [List.mem_singleton.1 he]
  exact Cellish.exS fun x => paF_cells b2 b3 b4 pre x
 ·intro l pre x w S hpre
  obtain ⟨post, hpost⟩ := hpre
  have hx : x ∈ linB s := by rw [← hpost]; simp
  obtain ⟨h1, h2, h3, h4⟩ := hl x hx
  have hpl : pre.length + 1 ≤ 4096 := by
   have := congrArg List.length hpost
   simp at this
   omega
  have hmap : (pre.map linQ).length = pre.length := by simp
  have hcl : (cutN x).length ≤ 90000 := by have := cutN_len x; omega
  have c2 := cutsuf_t x (by omega)
  have c3 := roline_t m (cutN x) hcl
  rw [h1] at c2
  rw [h2] at c3
  refine HR_ex fun ⟨xA, xc⟩ => ?_
  dsimp only [paF]
  repeat' (first | refine SW ?_ | refine SRc ?_ | refine SD ?_ | (refine HO_k 12 rfl ?_; refine HO_callq rfl rfl rfl rfl (c2) (fun _ _ => rfl) (trivial) rfl rfl sqA ?_) | (refine HO_k 12 rfl ?_; refine HO_callq rfl rfl rfl rfl (c3) (fun _ _ => rfl) (srcsA) rfl rfl sqA ?_) | exact HO_seg rfl rfl | refine S1 ?_ | (refine S2 ?_; intro _) | (refine S3 ?_; intro _ _) | (refine S4 ?_; intro _ _ _) | (refine HO_g 2 rfl ?_; first | apply HO_a1 rfl | apply HO_o1 rfl) | refine SR ?_ | refine S5 ?_ | (intro hb; try replace hb := simB hb; try exact kill hb))
  rename_i A' c'
  have eL : (pre.map linQ).length + 1 = ((pre ++ [x]).map linQ).length := by simp
  have eM : List.map RoQ.e (List.map linQ pre) ++ [[Value.int IntKind.u32 (lnQ (cutN x)).fst.a, Value.int IntKind.i64 (lnQ (cutN x)).fst.n, Value.int IntKind.i64 (lnQ (cutN x)).fst.mx, Value.int IntKind.i64 (lnQ (cutN x)).fst.asn]] = List.map RoQ.e (List.map linQ (pre ++ [x])) := by rw [List.map_append, List.map_append]; rfl
  rw [eL, eM]
  exact HX_keeps (rw' := paF b2 b3 b4 (pre ++ [x]) (A', c')) permA (HX_keeps (Keeps.ex (A', c') Keeps.nil) (HX_endR rfl))
 ·intro D hD
  refine HX_ex fun ⟨xA, xc⟩ => ?_
  have hLen : (linsQ s).length ≤ 4096 := by unfold linsQ; simpa using hn
  have c4 := rocheck_t xA xc (linsQ s) hLen (fun x hx => by
   unfold linsQ at hx
   obtain ⟨y, hy, rfl⟩ := List.mem_map.1 hx
   exact (hl y hy).2.2.2)
  have hro : ∀ e ∈ [maxLen0 m], Cellish e := fun e he => by
   rw [List.mem_singleton.1 he]
   exact Cellish.glbs
  have e0 : paF b2 b3 b4 (linB s) (xA, xc) = [cel b4 47 [.slice xA (linsQ s).length xc], own idE 73 4 xA (linsQ s).length xc ((linsQ s).map RoQ.e), cel b3 30 [.int .i64 0], cel b2 47 [.slice none 0 0]] := rfl
  rw [e0]
  cases hok : roaOk (linsQ s) with
  | true =>
   rw [hok] at c4
   simp only [if_true] at c4 ⊢
   refine HX_toA ?_
   repeat' (first | refine SW ?_ | refine SA ?_ | refine SD ?_ | (refine HO_k 12 rfl ?_; refine HO_callq rfl rfl rfl rfl (c4) (fun _ _ => rfl) (srcsA) rfl rfl sqA ?_) | exact HO_seg rfl rfl | refine S1 ?_ | (refine S2 ?_; intro _) | (refine S3 ?_; intro _ _) | (refine S4 ?_; intro _ _ _) | (refine HO_g 2 rfl ?_; first | apply HO_a1 rfl | apply HO_o1 rfl) | refine S5 ?_ | (intro hb; try replace hb := simB hb; try exact kill hb))
   refine HX_ofA (HX_retD hD (fun e he => by simp at he; simp [he]) hro ?_ (by repeat (first | exact Res_nil | apply Res_tmp rfl | apply Res_ce rfl rfl rfl)) ⟨(xA, xc), trivial, rfl, permA⟩)
   intro e he
   simp only [List.mem_cons, List.not_mem_nil, or_false] at he
   rcases he with rfl | rfl | rfl | rfl
   ·exact Cellish.cel
   ·exact Cellish.own
   ·exact Cellish.cel
   ·exact Cellish.cel
  | false =>
   rw [hok] at c4
   simp only [Bool.false_eq_true, if_false] at c4 ⊢
   refine HX_toA ?_
   repeat' (first | refine SW ?_ | refine SA ?_ | refine SD ?_ | (refine HO_k 12 rfl ?_; refine HO_callq rfl rfl rfl rfl (c4) (fun _ _ => rfl) (srcsA) rfl rfl sqA ?_) | exact HO_seg rfl rfl | refine S1 ?_ | (refine S2 ?_; intro _) | (refine S3 ?_; intro _ _) | (refine S4 ?_; intro _ _ _) | (refine HO_g 2 rfl ?_; first | apply HO_a1 rfl | apply HO_o1 rfl) | refine S5 ?_ | (intro hb; try replace hb := simB hb; try exact kill hb))
   refine HX_ofA (HX_retD hD (fun e he => by simp at he; simp [he]) hro ?_ (by repeat (first | exact Res_nil | apply Res_tmp rfl | apply Res_ce rfl rfl rfl)) ⟨(xA, xc), trivial, rfl, Keeps.nil⟩)
   intro e he
   simp only [List.mem_cons, List.not_mem_nil, or_false] at he
   rcases he with rfl | rfl | rfl | rfl
   ·exact Cellish.cel
   ·exact Cellish.own
   ·exact Cellish.cel
   ·exact Cellish.cel
end Go.Proofs.YtbhiojedmkcfoaaGreatDoor
