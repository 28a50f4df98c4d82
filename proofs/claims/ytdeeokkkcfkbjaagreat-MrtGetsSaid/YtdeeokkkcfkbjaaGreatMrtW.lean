/- mrt.Get; the lives and the count of the laws of dumps -/
import Derived.Test.YtdeeokkkcfkbjaaGreatMrtN
import Derived.Test.YtdeeokkkcfkbjaaGreatMrtY
import Derived.Test.YtdeeokkkcfkbjaaGreatMrtV
import Derived.Test.YtdeeokkkcfkbjaaGreatMrtX
namespace Go.Proofs.YtdeeokkkcfkbjaaGreat
set_option linter.unusedVariables false
set_option linter.unusedSimpArgs false
open Go.RowKit
attribute [local irreducible] HC HX HO Tri eP adr

attribute [local irreducible] routeM routesM peersM

theorem rS_ok {w : Nat} {s : RS} (h : (rS w s).1 = false) : s.1 = false ∧ (rS w s).2.length + w = s.2.length := by
  unfold rS at h ⊢
  split at h
  · rename_i hr
    rw [if_pos hr]
    unfold rok at hr
    rw [Bool.and_eq_true, Bool.not_eq_true', decide_eq_true_eq] at hr
    exact ⟨hr.1, by simp only [List.length_drop]; omega⟩
  · cases h
theorem recM_len {first : Bool} {x x' : MSt} {s s' : RS} (h : recM first x s = some (x', s')) : s'.1 = false ∧ s'.2.length + 12 ≤ s.2.length ∧ x'.n ≤ x.n + 1 ∧ x.n ≤ x'.n := by
  unfold recM at h
  simp only at h
  split at h
  · cases h
  rename_i hc
  have hbad : (rS (rV 4 (rS 2 (rS 2 (rS 4 s)))) (rS 4 (rS 2 (rS 2 (rS 4 s))))).1 = false := by
    cases hb : (rS (rV 4 (rS 2 (rS 2 (rS 4 s)))) (rS 4 (rS 2 (rS 2 (rS 4 s))))).1
    · rfl
    · exact absurd (.inl hb) hc
  obtain ⟨b1, l1⟩ := rS_ok hbad
  obtain ⟨b2, l2⟩ := rS_ok b1
  obtain ⟨b3, l3⟩ := rS_ok b2
  obtain ⟨b4, l4⟩ := rS_ok b3
  obtain ⟨b5, l5⟩ := rS_ok b4
  split at h
  · split at h
    · split at h
      · cases h
      · split at h
        · injection h with h
          injection h with h1 h2
          subst h1 h2
          exact ⟨hbad, by omega, by simp only; omega, by simp only; omega⟩
        · cases h
    · cases h
  · split at h
    · split at h
      · cases h
      · split at h
        · injection h with h
          injection h with h1 h2
          subst h1 h2
          exact ⟨hbad, by omega, by simp only; omega, by simp only; omega⟩
        · cases h
    · cases h
def getL : Nat → Bool → MSt → RS → Option MSt
  | 0, _, _, _ => none
  | f + 1, first, x, s => if first = false ∧ s.2 = [] then some x else match recM first x s with
    | none => none
    | some (x', s') => getL f false x' s'
theorem getL_succ (f : Nat) (first : Bool) (x : MSt) (s : RS) : getL (f + 1) first x s = if first = false ∧ s.2 = [] then some x else match recM first x s with
    | none => none
    | some (x', s') => getL f false x' s' := rfl
theorem getL_fuel : ∀ (f g : Nat) (first : Bool) (x : MSt) (s : RS), s.2.length < f → s.2.length < g → getL f first x s = getL g first x s := by
  intro f
  induction f with
  | zero => intro g first x s h; omega
  | succ f ih =>
    intro g first x s h1 h2
    cases g with
    | zero => omega
    | succ g =>
      rw [getL_succ, getL_succ]
      split
      · rfl
      · cases hm : recM first x s with
        | none => rfl
        | some r =>
          obtain ⟨x', s'⟩ := r
          have := recM_len hm
          exact ih g false x' s' (by omega) (by omega)
def getF (first : Bool) (x : MSt) (s : RS) : Option MSt := getL (s.2.length + 1) first x s
theorem getF_eq (first : Bool) (x : MSt) (s : RS) : getF first x s = if first = false ∧ s.2 = [] then some x else match recM first x s with
    | none => none
    | some (x', s') => getF false x' s' := by
  unfold getF
  rw [getL_succ]
  split
  · rfl
  · cases hm : recM first x s with
    | none => rfl
    | some r =>
      obtain ⟨x', s'⟩ := r
      have := recM_len hm
      exact getL_fuel _ _ _ _ _ (by omega) (by omega)
/-- what any bytes are, as far as they can be read -/
def getM (b : List UInt8) : Option MSt := getF true ⟨0, 0, [], [], 0⟩ (false, b)
theorem ba_loop (l : List UInt8) : ∀ (n i : Nat) (r : List UInt8), l.length - i = n → i ≤ l.length → ByteArray.toList.loop ⟨l.toArray⟩ i r = r.reverse ++ l.drop i := by
  intro n
  induction n with
  | zero =>
    intro i r h hi
    rw [ByteArray.toList.loop, if_neg (by show ¬ i < l.toArray.size; rw [List.size_toArray]; omega), List.drop_of_length_le (by omega), List.append_nil]
  | succ n ih =>
    intro i r h hi
    have hil : i < l.length := by omega
    have hg : ByteArray.get! ⟨l.toArray⟩ i = l[i] := by
      show l.toArray[i]! = l[i]
      rw [getElem!_pos l.toArray i (by rw [List.size_toArray]; exact hil), List.getElem_toArray]
    rw [ByteArray.toList.loop, if_pos (by show i < l.toArray.size; rw [List.size_toArray]; omega), ih _ _ (by omega) (by omega), hg, List.drop_eq_getElem_cons hil, List.reverse_cons, List.append_assoc]
    rfl
theorem ba_list (l : List UInt8) : ByteArray.toList ⟨l.toArray⟩ = l := by
  unfold ByteArray.toList
  rw [ba_loop l _ 0 [] rfl (Nat.zero_le _)]
  rfl
theorem ba_eq (l l' : List UInt8) : (ByteArray.toList ⟨l.toArray⟩ == ByteArray.toList ⟨l'.toArray⟩) = decide (l = l') := by
  rw [ba_list, ba_list, Bool.eq_iff_iff, beq_iff_eq, decide_eq_true_eq]
set_option maxHeartbeats 4000000 in
theorem bequal_t (A A' : Option Addr) (c c' : Nat) (l l' : List UInt8) : Tri Tryz.prog 36 [.slice A l.length c, .slice A' l'.length c'] [arr bE 1 A l, arr bE 1 A' l'] [] (fun _ : Unit => True) (fun _ => .bool (decide (l = l'))) (fun _ => []) := by
  have hstr := ba_eq l l'
  refine Tri_of (N := Tryz.f36.ntmps) (c := bodyOf Tryz.f36) Tryz.func36 rfl rfl rfl rfl (fun w0 S0 => ?_)
  repeat' (first | refine SW ?_ | (refine HO_k 7 rfl ?_; (first | refine HO_b2s (l := l) rfl rfl ⟨_, seeL_ro List.mem_cons_self, arr_raw⟩ rfl rfl rfl rfl ?_ | refine HO_b2s (l := l') rfl rfl ⟨_, seeL_ro (List.mem_cons_of_mem _ List.mem_cons_self), arr_raw⟩ rfl rfl rfl rfl ?_)) | (with_reducible refine HO_rw (congrArg Value.bool hstr) ?_) | exact HO_seg rfl rfl | refine S1 ?_ | (refine S2 ?_; intro _) | (refine S3 ?_; intro _ _) | (refine S4 ?_; intro _ _ _) | (refine HO_g 2 rfl ?_; (first | apply HO_and rfl rfl rfl rfl rfl rfl rfl rfl rfl | apply HO_or rfl rfl rfl rfl rfl rfl rfl rfl rfl)) | refine S5 ?_ | (intro hb; try replace hb := simB hb; try exact kill hb))
  ((first | apply HX_ret | apply HX_retn); (repeat (first | exact Res_nil | apply Res_tmp rfl | apply Res_ce rfl rfl rfl)); unfold RetQ; refine ⟨(), trivial, ?_, Keeps.nil⟩)
  rfl
theorem HC_knowW {P : Program} {N : Nat} {w0 : World} {S0 : Foot} {c : Code} {env : Env} {ro rw : List SL} {Q : Exit → Act → World → Prop} {C : Prop} (hC : ∀ w, RoOk (ro ++ rw) w → C) (h : C → HC P N w0 S0 c env ro rw Q) : HC P N w0 S0 c env ro rw Q := by
  unfold HC at h ⊢
  exact fun a S w ha hf => h (hC w hf.roOk) a S w ha hf
theorem Keeps.pickE {rw rw2 rw' : List SL} {e e' : SL} (k : Nat) (hk : rw[k]? = some e) (hr : eraseO rw k = some rw2) (he : Ent e e') (h : Keeps rw2 rw') : Keeps rw (e' :: rw') := by
  have e := eraseO_eq hr
  subst e
  exact Keeps.pull k hk (Keeps.cons he h)
theorem own_pe {x : OA} {l : List PeS} : Ent (ownP x l) (arr PeS.e 3 x.1 l) := fun S w h => arr_typed l S w (own_wf (WfL.map (enc := PeS.e)) S w h)
/-- a reading that any document may come to -/
structure MW (x : MSt) : Prop where
  p : x.peers.length ≤ 16
  w : ∀ p ∈ x.peers, p.id < 4294967296 ∧ p.ad < 4294967296
  i : x.id < 4294967296
  r : x.routes.length ≤ 16384
  q : ∀ q ∈ x.routes, q.a < 4294967296 ∧ OkP 4 q.p
  n : 0 ≤ x.n
theorem rtA_w (t : Int) (a : Nat) (n : Int) (ha : a < 4294967296) : ∀ (k : Nat) (acc : List RtQ) (s : RS) (l : List RtQ) (s' : RS), rtA k t acc a n s = some (l, s') → acc.length ≤ 16384 → (∀ q ∈ acc, q.a < 4294967296 ∧ OkP 4 q.p) → l.length ≤ 16384 ∧ ∀ q ∈ l, q.a < 4294967296 ∧ OkP 4 q.p := by
  intro k
  induction k with
  | zero =>
    intro acc s l s' h h1 h2
    injection h with h
    injection h with h3 h4
    subst h3
    exact ⟨h1, h2⟩
  | succ k ih =>
    intro acc s l s' h h1 h2
    rw [rtA_succ] at h
    cases hm : routeM t acc.length a n s with
    | none => rw [hm] at h; cases h
    | some r =>
      obtain ⟨q, s1⟩ := r
      rw [hm] at h
      unfold routeM at hm
      simp only at hm
      split at hm
      · rename_i hc
        injection hm with hm
        injection hm with hq hs
        refine ih _ _ _ _ h (by rw [List.length_append, List.length_singleton]; exact hc.2.2) fun x hx => ?_
        rcases List.mem_append.1 hx with hx | hx
        · exact h2 x hx
        · rw [List.mem_singleton] at hx
          subst hx hq
          exact ⟨ha, get_ok (by rw [← hc.1])⟩
      · cases hm
theorem recM_w {first : Bool} {x x' : MSt} {s s' : RS} (h : recM first x s = some (x', s')) (hw : MW x) (hp : first = true → x.peers = []) : MW x' := by
  unfold recM at h
  simp only at h
  split at h
  · cases h
  split at h
  · rename_i hf
    split at h
    · split at h
      · cases h
      · rename_i hm
        split at h
        · injection h with h
          injection h with h1 h2
          subst h1
          obtain ⟨w1, w2, w3⟩ := peersM_len hm
          rw [hp hf] at w1 w3
          exact ⟨by simp only [List.length_nil] at w1; simp only; omega, w3 (fun p hp => by cases hp), w2, hw.r, hw.q, hw.n⟩
        · cases h
    · cases h
  · split at h
    · split at h
      · cases h
      · rename_i hm
        split at h
        · injection h with h
          injection h with h1 h2
          subst h1
          unfold routesM at hm
          simp only at hm
          split at hm
          · cases hm
          · rename_i hpf
            split at hm
            · obtain ⟨w1, w2⟩ := rtA_w _ _ _ (pfG_lt hpf).1 _ _ _ _ _ hm hw.r hw.q
              exact ⟨hw.p, hw.w, hw.i, w1, w2, by have := hw.n; simp only; omega⟩
            · cases hm
        · cases h
    · cases h
attribute [local irreducible] recM

/- the check and the bytes, of the plain data alone -/
def okQ (np : Nat) (x : RtQ) : Bool := decide (0 ≤ x.r) && decide (x.r < np) && oneN true x.id x.a x.n && okP 4 x.p
theorem okRt_q (np : Nat) (x : RtS) : okRt np x = okQ np x.q := by
  unfold okRt okQ RtS.q
  rw [ok_pa]
  rfl
def cmpQ (x y : RtQ) : Int := orF [cmpP x.a x.n y.a y.n, cmpN x.r y.r, cmpN x.id y.id]
def ordQ (l : List RtQ) (i : Nat) (y : RtQ) : Bool := match i with
  | 0 => false
  | k + 1 => match l[k]? with
    | some x => decide (0 ≤ cmpQ x y)
    | none => false
theorem ordAt_q (l : List RtS) (i : Nat) (y : RtS) : ordAt l i y = ordQ (l.map RtS.q) i y.q := by
  cases i with
  | zero => rfl
  | succ k =>
    unfold ordAt ordQ
    simp only [List.getElem?_map]
    cases l[k]? <;> rfl
def badQ (np : Nat) (l : List RtQ) (i : Nat) : Bool := match l[i]? with
  | none => false
  | some y => !okQ np y || ordQ l i y
theorem badAt_q (np : Nat) (l : List RtS) (i : Nat) : badAt np l i = badQ np (l.map RtS.q) i := by
  unfold badAt badQ
  simp only [List.getElem?_map]
  cases l[i]? with
  | none => rfl
  | some y => simp only [Option.map_some, okRt_q, ordAt_q]
def chkRQ (np : Nat) (l : List RtQ) : Bool := !(List.range l.length).any (badQ np l)
theorem chkR_q (np : Nat) (l : List RtS) : chkR np l = chkRQ np (l.map RtS.q) := by
  unfold chkR chkRQ
  rw [List.length_map, show badAt np l = badQ np (l.map RtS.q) from funext (badAt_q np l)]
def chkQ (m : MSt) : Bool := fit4 m.t && decide (m.peers.length ≤ 16) && decide (m.routes.length ≤ 16384) && m.peers.all (fun p => fit4 p.as_) && chkRQ m.peers.length m.routes
/-- the plain data of a dump -/
def DuS.m (d : DuS) : MSt := ⟨d.t, d.id, d.peers, d.routes.map RtS.q, 0⟩
theorem chkM_q (d : DuS) : chkM d = chkQ d.m := by
  unfold chkM chkQ DuS.m
  simp only [List.length_map, chkR_q]
def rtQB (t : Nat) (x : RtQ) : List UInt8 := be 2 x.r.toNat ++ (be 4 t ++ (be 4 x.id.toNat ++ (be 2 (putB 4 x.p).length ++ putB 4 x.p)))
def rtsQ (t n : Nat) (l : List RtQ) : List UInt8 := match l with
  | [] => []
  | x :: r => be 4 n ++ (pfB x.a x.n.toNat ++ (be 2 (x :: r).length ++ (x :: r).flatMap (rtQB t)))
theorem rtsB_q (t n : Nat) (l : List RtS) : rtsB t n l = rtsQ t n (l.map RtS.q) := by
  cases l with
  | nil => rfl
  | cons x r =>
    show _ ++ (_ ++ (be 2 (x :: r).length ++ _)) = _ ++ (_ ++ (be 2 ((x :: r).map RtS.q).length ++ ((x :: r).map RtS.q).flatMap (rtQB t)))
    rw [List.length_map, List.flatMap_map]
    rfl
def sameQ (x y : RtQ) : Bool := decide ((x.a : Int) = (y.a : Int)) && decide (x.n = y.n)
def cutQ (l : List RtQ) : Nat := match l with
  | [] => 0
  | y :: r => ((y :: r).takeWhile fun x => sameQ x y).length
theorem cutN_q (l : List RtS) : cutN l = cutQ (l.map RtS.q) := by
  cases l with
  | nil => rfl
  | cons y r =>
    show _ = (((y :: r).map RtS.q).takeWhile fun x => sameQ x y.q).length
    rw [List.takeWhile_map, List.length_map]
    rfl
def grpQ (t : Nat) : Nat → Nat → List RtQ → List UInt8
  | 0, _, _ => []
  | f + 1, n, l => match l with
    | [] => []
    | y :: r => recB t 8 (rtsQ t n ((y :: r).take (cutQ (y :: r)))) ++ grpQ t f (n + 1) ((y :: r).drop (cutQ (y :: r)))
theorem grpB_q (t : Nat) : ∀ (f n : Nat) (l : List RtS), grpB t f n l = grpQ t f n (l.map RtS.q) := by
  intro f
  induction f with
  | zero => intro n l; rfl
  | succ f ih =>
    intro n l
    cases l with
    | nil => rfl
    | cons y r =>
      show recB t 8 (rtsB t n ((y :: r).take (cutN (y :: r)))) ++ grpB t f (n + 1) ((y :: r).drop (cutN (y :: r))) = recB t 8 (rtsQ t n (((y :: r).map RtS.q).take (cutQ ((y :: r).map RtS.q)))) ++ grpQ t f (n + 1) (((y :: r).map RtS.q).drop (cutQ ((y :: r).map RtS.q)))
      rw [ih, rtsB_q, cutN_q, List.map_take, List.map_drop]
def putQ (m : MSt) : List UInt8 := recB m.t.toNat 1 (peersB m.id m.peers) ++ grpQ m.t.toNat (m.routes.length + 1) 0 m.routes
theorem putD_q (d : DuS) : putD d = putQ d.m := by
  unfold putD putQ grpR DuS.m
  simp only [List.length_map, grpB_q]
/-- what Get makes of bytes -/
def pickD (b : List UInt8) (r : Option MSt) : Option MSt := match r with
  | none => none
  | some m => if chkQ m = true ∧ b = putQ m then some m else none
theorem pickD_some (b : List UInt8) (m : MSt) : pickD b (some m) = if chkQ m = true ∧ b = putQ m then some m else none := rfl
def getD (b : List UInt8) : Option MSt := pickD b (getM b)
theorem chkQ_n (m : MSt) (n : Int) : chkQ { m with n := n } = chkQ m := rfl
theorem putQ_n (m : MSt) (n : Int) : putQ { m with n := n } = putQ m := rfl
/-- the dump in a reading -/
def RdS.d (x : RdS) : DuS := ⟨x.t, x.id, x.pA, x.pc, x.peers, x.rA, x.rc, x.routes⟩
theorem RdS.dm (x : RdS) : x.d.m = { x.m with n := 0 } := rfl
theorem RdS.dw {x : RdS} (h : MW x.m) : DuW x.d := by
  refine ⟨fun y hy => ?_, h.i, h.w, ?_, ?_⟩
  · obtain ⟨ha, hp⟩ := h.q y.q (List.mem_map.2 ⟨y, hy, rfl⟩)
    exact ⟨ha, ⟨by have := hp.n.1; exact Int.le_of_lt this, hp.n.2⟩, lim_paU rfl hp⟩
  · have := h.p
    show x.peers.length ≤ 1000000
    have e : x.m.peers.length = x.peers.length := rfl
    omega
  · have := h.r
    show x.routes.length ≤ 1000000
    have e : x.m.routes.length = x.routes.length := List.length_map ..
    omega
structure GtI where
  y : RdY
  f : Bool
def zRd : RdS := ⟨0, 0, none, 0, [], none, 0, [], 0⟩
theorem zRd_w : MW zRd.m := ⟨by decide, fun p hp => (by cases hp), by decide, by decide, fun p hp => (by cases hp), by decide⟩
set_option maxHeartbeats 64000000 in
set_option maxRecDepth 100000 in
theorem mget_ok (A : Option Addr) (c : Nat) (bs : List UInt8) (hb : bs.length ≤ 900000000) (m : MSt) (h : getD bs = some m) :
    Tri Tryz.prog 10 [.slice A bs.length c] [arr bE 1 A bs] [] (fun y : DuS => (y.t = m.t ∧ y.id = m.id ∧ y.peers = m.peers ∧ y.routes.map RtS.q = m.routes) ∧ y.routes.length ≤ y.rc ∧ DuW y) (fun y => .tuple #[.agg y.e.toArray, .int .i64 0]) (fun y => y.ro) := by
  have hfrom := nfrom_t A bs.length c bs rfl (by omega)
  obtain ⟨res, hres⟩ : ∃ r, getM bs = r := ⟨_, rfl⟩
  have hgd : pickD bs res = some m := by rw [← hres]; exact h
  clear h
  unfold getM at hres
  refine Tri_of (N := Tryz.f10.ntmps) (c := bodyOf Tryz.f10) Tryz.func10 rfl rfl rfl rfl (fun w0 S0 => ?_)
  repeat' (first | refine SW ?_ | refine SD ?_ | (refine HO_k 12 rfl ?_; refine HO_call rfl rfl rfl rfl (hfrom) rfl (srcsA) rfl rfl soA ?_; intro ⟨rb, ⟨rA, rc⟩⟩ hr; dsimp only [rdP, pt, List.cons_append, List.nil_append]) | exact HO_seg rfl rfl | refine S1 ?_ | (refine S2 ?_; intro _) | (refine S3 ?_; intro _ _) | (refine S4 ?_; intro _ _ _) | (refine HO_g 2 rfl ?_; (first | apply HO_and rfl rfl rfl rfl rfl rfl rfl rfl rfl | apply HO_or rfl rfl rfl rfl rfl rfl rfl rfl rfl)) | refine S5 ?_ | (intro hb; try replace hb := simB hb; try exact kill hb))
  rename_i br b
  refine HC_add (e := ownP (none, 0) []) (fun w => own_nil w) (HC_add (e := ownR (none, 0) []) (fun w => own_nil w) (HC_add (e := inn []) inn_nil ?_))
  refine HC_keeps (rw' := rdP rb rA rc false bs ++ (xP b zRd ++ [cel br 26 [.int .i64 0, .int .u32 0, .slice none 0 0, .slice none 0 0]])) permA ?_
  refine HC_loop (α := GtI) (fun z => z.y.s.1 = false ∧ z.y.s.2.length ≤ 900000000 ∧ z.y.s.2.length ≤ z.y.c ∧ MW z.y.x.m ∧ z.y.x.n + z.y.s.2.length ≤ 900000000 ∧ (z.f = true → z.y.x.peers = []) ∧ getF z.f z.y.x.m z.y.s = res)
    (fun z => [(6, .bool z.f), (5, pt rb), (4, pt b), (3, .int .i64 0), (2, pt br), (0, .slice A bs.length c)]) (fun z => rdP rb z.y.A z.y.c z.y.s.1 z.y.s.2 ++ (xP b z.y.x ++ [cel br 26 [.int .i64 0, .int .u32 0, .slice none 0 0, .slice none 0 0]])) (fun z => z.y.s.2.length) rfl
    ⟨⟨zRd, rA, rc, (false, bs)⟩, true⟩ ⟨rfl, hb, hr, zRd_w, by show (0 : Int) + bs.length ≤ _; omega, fun _ => rfl, hres⟩ ⟨rfl, rfl, rfl, rfl, rfl, rfl, trivial⟩ rfl ?_
  clear hres hr
  intro ⟨⟨x, xA, xc, ⟨bad, s⟩⟩, f⟩ ⟨hbad, hs, hc, hw, hn, hp, hinv⟩
  simp only at hbad hs hc hw hn hp hinv
  subst hbad
  have hxr : x.routes.length ≤ 16384 := by have := hw.r; rwa [show x.m.routes.length = x.routes.length from List.length_map ..] at this
  have hxp : x.peers.length ≤ 16 := hw.p
  have hx0 : 0 ≤ x.n := hw.n
  rw [getF_eq] at hinv
  have next : ∀ (y : RdY) (x' : MSt) (s' : RS), recM f x.m (false, s) = some (x', s') → y.s.2.length ≤ y.c → y.s = s' → y.x.m = x' → getF false x' s' = res →
      ((y.s.1 = false ∧ y.s.2.length ≤ 900000000 ∧ y.s.2.length ≤ y.c ∧ MW y.x.m ∧ y.x.n + y.s.2.length ≤ 900000000 ∧ (false = true → y.x.peers = []) ∧ getF false y.x.m y.s = res) ∧ y.s.2.length < s.length) := by
    intro y x' s' hm h1 h2 h3 h4
    subst h2 h3
    obtain ⟨l1, l2, l3, l4⟩ := recM_len hm
    simp only at l2
    exact ⟨⟨l1, by omega, h1, recM_w hm hw hp, by have : y.x.m.n ≤ x.m.n + 1 := l3; have e1 : y.x.m.n = y.x.n := rfl; have e2 : x.m.n = x.n := rfl; omega, fun h => (by cases h), h4⟩, by omega⟩
  cases f
  · by_cases hs0 : s = []
    · rw [if_pos ⟨rfl, hs0⟩] at hinv
      subst hs0 hinv
      refine HC_knowW (C := x.routes.length ≤ x.rc) (fun w h => own_cap 5 rfl h) fun hcap => ?_
      have hW := RdS.dw hw
      refine HC_keeps (rw' := [arr PeS.e 3 x.pA x.peers, arr RtS.e 10 x.rA x.routes, inn (rtPs x.routes), cel b TRd [.int .i64 x.t, .int .u32 x.id, .slice x.pA x.peers.length x.pc, .slice x.rA x.routes.length x.rc, .int .i64 x.n], cel rb TR [.slice xA 0 xc, .bool false], arr bE 1 xA [], cel br 26 [.int .i64 0, .int .u32 0, .slice none 0 0, .slice none 0 0]]) (Keeps.pickE 3 rfl rfl own_pe (Keeps.pickE 3 rfl rfl own_rt permA)) ?_
      rw [pickD_some] at hgd
      split at hgd
      rotate_left
      · cases hgd
      rename_i hcond
      obtain ⟨hck, hbs⟩ := hcond
      injection hgd with hgd
      have hput := mput_t x.d hW hcap (by rw [chkM_q]; exact hck)
      rw [show putD x.d = bs by rw [putD_q]; exact hbs.symm] at hput
      have hbe := fun oA oc => bequal_t A oA c oc bs bs
      rw [decide_eq_true rfl] at hbe
      dsimp only [RdS.d, DuS.ro, DuS.e] at hput
      dsimp only [pt] at *
      repeat' (first | refine SW ?_ | refine SD ?_ | (refine HO_k 12 rfl ?_; refine HO_callq rfl rfl rfl rfl (nleftF_t _ _ _ _) (fun _ _ => rfl) (srcsA) rfl rfl sqA ?_) | (refine HO_k 12 rfl ?_; refine HO_call rfl rfl rfl rfl (hput) rfl (srcsB) rfl rfl soA ?_; intro ⟨oA, oc⟩ _; dsimp only [List.cons_append, List.nil_append]) | (refine HO_k 12 rfl ?_; refine HO_callq rfl rfl rfl rfl (hbe oA oc) (fun _ _ => rfl) (srcsA) rfl rfl sqA ?_) | exact HO_seg rfl rfl | refine S1 ?_ | (refine S2 ?_; intro _) | (refine S3 ?_; intro _ _) | (refine S4 ?_; intro _ _ _) | (refine HO_g 2 rfl ?_; (first | apply HO_and rfl rfl rfl rfl rfl rfl rfl rfl rfl | apply HO_or rfl rfl rfl rfl rfl rfl rfl rfl rfl)) | refine S5 ?_ | (intro hb; try replace hb := simB hb; try exact kill hb))
      ((first | apply HX_ret | apply HX_retn); (repeat (first | exact Res_nil | apply Res_tmp rfl | apply Res_ce rfl rfl rfl)); unfold RetQ; refine ⟨(x.d : DuS), (by subst hgd; exact ⟨⟨rfl, rfl, rfl, rfl⟩, hcap, hW⟩), rfl, permA⟩)
    · rw [if_neg (fun h => hs0 h.2)] at hinv
      have hpos : 0 < s.length := List.length_pos_iff.2 hs0
      have hrr := rrec2_t b rb x xA xc (false, s) hs hc hxr (by omega) ⟨hx0, by omega⟩
      change _ at hrr
      cases hm : recM false x.m (false, s) with
      | none =>
        rw [hm] at hinv
        change none = res at hinv
        subst hinv
        rw [show (⟨x.t, x.id, x.peers, x.routes.map RtS.q, x.n⟩ : MSt) = x.m from rfl, hm] at hrr
        dsimp only [pt, rdP, xP, List.cons_append, List.nil_append, Option.isSome] at hrr ⊢
        cases hgd
      | some r =>
        obtain ⟨x', s'⟩ := r
        rw [hm] at hinv
        change getF false x' s' = res at hinv
        rw [show (⟨x.t, x.id, x.peers, x.routes.map RtS.q, x.n⟩ : MSt) = x.m from rfl, hm] at hrr
        dsimp only [pt, rdP, xP, List.cons_append, List.nil_append, Option.isSome] at hrr ⊢
        repeat' (first | refine SW ?_ | refine SD ?_ | (refine HO_k 12 rfl ?_; refine HO_callq rfl rfl rfl rfl (nleftF_t _ _ _ _) (fun _ _ => rfl) (srcsA) rfl rfl sqA ?_) | (refine HO_k 12 rfl ?_; refine HO_call rfl rfl rfl rfl (hrr) rfl (trivial) rfl rfl soA ?_; intro y hy; dsimp only [rdQ, rdP, xP, pt, List.cons_append, List.nil_append]) | exact HO_seg rfl rfl | refine S1 ?_ | (refine S2 ?_; intro _) | (refine S3 ?_; intro _ _) | (refine S4 ?_; intro _ _ _) | (refine HO_g 2 rfl ?_; (first | apply HO_and rfl rfl rfl rfl rfl rfl rfl rfl rfl | apply HO_or rfl rfl rfl rfl rfl rfl rfl rfl rfl)) | refine S5 ?_ | (intro hb; try replace hb := simB hb; try exact kill hb))
        obtain ⟨w1, w2⟩ := hy
        obtain ⟨w3, w4, w5⟩ := w2 x' s' rfl
        exact HX_at ⟨y, false⟩ (next y x' s' hm w1 w3 w4 hinv) ⟨rfl, rfl, rfl, rfl, rfl, rfl, trivial⟩ rfl
  · rw [if_neg (by intro h; cases h.1)] at hinv
    have hrr := rrec1_t b rb x xA xc (false, s) hs hc hxr (by omega) ⟨hx0, by omega⟩
    cases hm : recM true x.m (false, s) with
    | none =>
      rw [hm] at hinv
      change none = res at hinv
      subst hinv
      rw [show (⟨x.t, x.id, x.peers, x.routes.map RtS.q, x.n⟩ : MSt) = x.m from rfl, hm] at hrr
      dsimp only [pt, rdP, xP, List.cons_append, List.nil_append, Option.isSome] at hrr ⊢
      cases hgd
    | some r =>
      obtain ⟨x', s'⟩ := r
      rw [hm] at hinv
      change getF false x' s' = res at hinv
      rw [show (⟨x.t, x.id, x.peers, x.routes.map RtS.q, x.n⟩ : MSt) = x.m from rfl, hm] at hrr
      dsimp only [pt, rdP, xP, List.cons_append, List.nil_append, Option.isSome] at hrr ⊢
      repeat' (first | refine SW ?_ | refine SD ?_ | (refine HO_k 12 rfl ?_; refine HO_call rfl rfl rfl rfl (hrr) rfl (trivial) rfl rfl soA ?_; intro y hy; dsimp only [rdQ, rdP, xP, pt, List.cons_append, List.nil_append]) | exact HO_seg rfl rfl | refine S1 ?_ | (refine S2 ?_; intro _) | (refine S3 ?_; intro _ _) | (refine S4 ?_; intro _ _ _) | (refine HO_g 2 rfl ?_; (first | apply HO_and rfl rfl rfl rfl rfl rfl rfl rfl rfl | apply HO_or rfl rfl rfl rfl rfl rfl rfl rfl rfl)) | refine S5 ?_ | (intro hb; try replace hb := simB hb; try exact kill hb))
      obtain ⟨w1, w2⟩ := hy
      obtain ⟨w3, w4, w5⟩ := w2 x' s' rfl
      exact HX_at ⟨y, false⟩ (next y x' s' hm w1 w3 w4 hinv) ⟨rfl, rfl, rfl, rfl, rfl, rfl, trivial⟩ rfl
set_option maxHeartbeats 64000000 in
set_option maxRecDepth 100000 in
theorem mget_bad (A : Option Addr) (c : Nat) (bs : List UInt8) (hb : bs.length ≤ 900000000) (h : getD bs = none) :
    Tri Tryz.prog 10 [.slice A bs.length c] [arr bE 1 A bs] [] (fun _ : Unit => True) (fun _ => .tuple #[.agg #[.int .i64 0, .int .u32 0, .slice none 0 0, .slice none 0 0], .int .i64 350]) (fun _ => []) := by
  have hfrom := nfrom_t A bs.length c bs rfl (by omega)
  obtain ⟨res, hres⟩ : ∃ r, getM bs = r := ⟨_, rfl⟩
  have hgd : pickD bs res = none := by rw [← hres]; exact h
  clear h
  unfold getM at hres
  refine Tri_of (N := Tryz.f10.ntmps) (c := bodyOf Tryz.f10) Tryz.func10 rfl rfl rfl rfl (fun w0 S0 => ?_)
  repeat' (first | refine SW ?_ | refine SD ?_ | (refine HO_k 12 rfl ?_; refine HO_call rfl rfl rfl rfl (hfrom) rfl (srcsA) rfl rfl soA ?_; intro ⟨rb, ⟨rA, rc⟩⟩ hr; dsimp only [rdP, pt, List.cons_append, List.nil_append]) | exact HO_seg rfl rfl | refine S1 ?_ | (refine S2 ?_; intro _) | (refine S3 ?_; intro _ _) | (refine S4 ?_; intro _ _ _) | (refine HO_g 2 rfl ?_; (first | apply HO_and rfl rfl rfl rfl rfl rfl rfl rfl rfl | apply HO_or rfl rfl rfl rfl rfl rfl rfl rfl rfl)) | refine S5 ?_ | (intro hb; try replace hb := simB hb; try exact kill hb))
  rename_i br b
  refine HC_add (e := ownP (none, 0) []) (fun w => own_nil w) (HC_add (e := ownR (none, 0) []) (fun w => own_nil w) (HC_add (e := inn []) inn_nil ?_))
  refine HC_keeps (rw' := rdP rb rA rc false bs ++ (xP b zRd ++ [cel br 26 [.int .i64 0, .int .u32 0, .slice none 0 0, .slice none 0 0]])) permA ?_
  refine HC_loop (α := GtI) (fun z => z.y.s.1 = false ∧ z.y.s.2.length ≤ 900000000 ∧ z.y.s.2.length ≤ z.y.c ∧ MW z.y.x.m ∧ z.y.x.n + z.y.s.2.length ≤ 900000000 ∧ (z.f = true → z.y.x.peers = []) ∧ getF z.f z.y.x.m z.y.s = res)
    (fun z => [(6, .bool z.f), (5, pt rb), (4, pt b), (3, .int .i64 0), (2, pt br), (0, .slice A bs.length c)]) (fun z => rdP rb z.y.A z.y.c z.y.s.1 z.y.s.2 ++ (xP b z.y.x ++ [cel br 26 [.int .i64 0, .int .u32 0, .slice none 0 0, .slice none 0 0]])) (fun z => z.y.s.2.length) rfl
    ⟨⟨zRd, rA, rc, (false, bs)⟩, true⟩ ⟨rfl, hb, hr, zRd_w, by show (0 : Int) + bs.length ≤ _; omega, fun _ => rfl, hres⟩ ⟨rfl, rfl, rfl, rfl, rfl, rfl, trivial⟩ rfl ?_
  clear hres hr
  intro ⟨⟨x, xA, xc, ⟨bad, s⟩⟩, f⟩ ⟨hbad, hs, hc, hw, hn, hp, hinv⟩
  simp only at hbad hs hc hw hn hp hinv
  subst hbad
  have hxr : x.routes.length ≤ 16384 := by have := hw.r; rwa [show x.m.routes.length = x.routes.length from List.length_map ..] at this
  have hxp : x.peers.length ≤ 16 := hw.p
  have hx0 : 0 ≤ x.n := hw.n
  rw [getF_eq] at hinv
  have next : ∀ (y : RdY) (x' : MSt) (s' : RS), recM f x.m (false, s) = some (x', s') → y.s.2.length ≤ y.c → y.s = s' → y.x.m = x' → getF false x' s' = res →
      ((y.s.1 = false ∧ y.s.2.length ≤ 900000000 ∧ y.s.2.length ≤ y.c ∧ MW y.x.m ∧ y.x.n + y.s.2.length ≤ 900000000 ∧ (false = true → y.x.peers = []) ∧ getF false y.x.m y.s = res) ∧ y.s.2.length < s.length) := by
    intro y x' s' hm h1 h2 h3 h4
    subst h2 h3
    obtain ⟨l1, l2, l3, l4⟩ := recM_len hm
    simp only at l2
    exact ⟨⟨l1, by omega, h1, recM_w hm hw hp, by have : y.x.m.n ≤ x.m.n + 1 := l3; have e1 : y.x.m.n = y.x.n := rfl; have e2 : x.m.n = x.n := rfl; omega, fun h => (by cases h), h4⟩, by omega⟩
  cases f
  · by_cases hs0 : s = []
    · rw [if_pos ⟨rfl, hs0⟩] at hinv
      subst hs0 hinv
      refine HC_knowW (C := x.routes.length ≤ x.rc) (fun w h => own_cap 5 rfl h) fun hcap => ?_
      have hW := RdS.dw hw
      refine HC_keeps (rw' := [arr PeS.e 3 x.pA x.peers, arr RtS.e 10 x.rA x.routes, inn (rtPs x.routes), cel b TRd [.int .i64 x.t, .int .u32 x.id, .slice x.pA x.peers.length x.pc, .slice x.rA x.routes.length x.rc, .int .i64 x.n], cel rb TR [.slice xA 0 xc, .bool false], arr bE 1 xA [], cel br 26 [.int .i64 0, .int .u32 0, .slice none 0 0, .slice none 0 0]]) (Keeps.pickE 3 rfl rfl own_pe (Keeps.pickE 3 rfl rfl own_rt permA)) ?_
      rw [pickD_some] at hgd
      split at hgd
      · cases hgd
      rename_i hcond
      cases hck : chkQ x.m with
      | false =>
        have hput := mput_bad x.d hW (by rw [chkM_q]; exact hck)
        dsimp only [RdS.d, DuS.ro, DuS.e] at hput
        dsimp only [pt] at *
        repeat' (first | refine SW ?_ | refine SD ?_ | (refine HO_k 12 rfl ?_; refine HO_callq rfl rfl rfl rfl (nleftF_t _ _ _ _) (fun _ _ => rfl) (srcsA) rfl rfl sqA ?_) | (refine HO_k 12 rfl ?_; refine HO_callq rfl rfl rfl rfl (hput) (fun _ _ => rfl) (srcsB) rfl rfl sqA ?_) | exact HO_seg rfl rfl | refine S1 ?_ | (refine S2 ?_; intro _) | (refine S3 ?_; intro _ _) | (refine S4 ?_; intro _ _ _) | (refine HO_g 2 rfl ?_; (first | apply HO_and rfl rfl rfl rfl rfl rfl rfl rfl rfl | apply HO_or rfl rfl rfl rfl rfl rfl rfl rfl rfl)) | refine S5 ?_ | (intro hb; try replace hb := simB hb; try exact kill hb))
        ((first | apply HX_ret | apply HX_retn); (repeat (first | exact Res_nil | apply Res_tmp rfl | apply Res_ce rfl rfl rfl)); unfold RetQ; refine ⟨(), trivial, ?_, Keeps.nil⟩)
        rfl
      | true =>
        have hput := mput_t x.d hW hcap (by rw [chkM_q]; exact hck)
        have hbe := fun oA oc => bequal_t A oA c oc bs (putD x.d)
        rw [show decide (bs = putD x.d) = false from decide_eq_false (fun e => hcond ⟨hck, by rw [e, putD_q]; rfl⟩)] at hbe
        obtain ⟨pb, hpb⟩ : ∃ p, putD x.d = p := ⟨_, rfl⟩
        rw [hpb] at hput hbe
        dsimp only [RdS.d, DuS.ro, DuS.e] at hput
        dsimp only [pt] at *
        repeat' (first | refine SW ?_ | refine SD ?_ | (refine HO_k 12 rfl ?_; refine HO_callq rfl rfl rfl rfl (nleftF_t _ _ _ _) (fun _ _ => rfl) (srcsA) rfl rfl sqA ?_) | (refine HO_k 12 rfl ?_; refine HO_call rfl rfl rfl rfl (hput) rfl (srcsB) rfl rfl soA ?_; intro ⟨oA, oc⟩ _; dsimp only [List.cons_append, List.nil_append]) | (refine HO_k 12 rfl ?_; refine HO_callq rfl rfl rfl rfl (hbe oA oc) (fun _ _ => rfl) (srcsA) rfl rfl sqA ?_) | exact HO_seg rfl rfl | refine S1 ?_ | (refine S2 ?_; intro _) | (refine S3 ?_; intro _ _) | (refine S4 ?_; intro _ _ _) | (refine HO_g 2 rfl ?_; (first | apply HO_and rfl rfl rfl rfl rfl rfl rfl rfl rfl | apply HO_or rfl rfl rfl rfl rfl rfl rfl rfl rfl)) | refine S5 ?_ | (intro hb; try replace hb := simB hb; try exact kill hb))
        ((first | apply HX_ret | apply HX_retn); (repeat (first | exact Res_nil | apply Res_tmp rfl | apply Res_ce rfl rfl rfl)); unfold RetQ; refine ⟨(), trivial, ?_, Keeps.nil⟩)
        rfl
    · rw [if_neg (fun h => hs0 h.2)] at hinv
      have hpos : 0 < s.length := List.length_pos_iff.2 hs0
      have hrr := rrec2_t b rb x xA xc (false, s) hs hc hxr (by omega) ⟨hx0, by omega⟩
      change _ at hrr
      cases hm : recM false x.m (false, s) with
      | none =>
        rw [hm] at hinv
        change none = res at hinv
        subst hinv
        rw [show (⟨x.t, x.id, x.peers, x.routes.map RtS.q, x.n⟩ : MSt) = x.m from rfl, hm] at hrr
        dsimp only [pt, rdP, xP, List.cons_append, List.nil_append, Option.isSome] at hrr ⊢
        repeat' (first | refine SW ?_ | refine SD ?_ | (refine HO_k 12 rfl ?_; refine HO_callq rfl rfl rfl rfl (nleftF_t _ _ _ _) (fun _ _ => rfl) (srcsA) rfl rfl sqA ?_) | (refine HO_k 12 rfl ?_; refine HO_call rfl rfl rfl rfl (hrr) rfl (trivial) rfl rfl soA ?_; intro y hy; dsimp only [rdQ, rdP, xP, pt, List.cons_append, List.nil_append]) | exact HO_seg rfl rfl | refine S1 ?_ | (refine S2 ?_; intro _) | (refine S3 ?_; intro _ _) | (refine S4 ?_; intro _ _ _) | (refine HO_g 2 rfl ?_; (first | apply HO_and rfl rfl rfl rfl rfl rfl rfl rfl rfl | apply HO_or rfl rfl rfl rfl rfl rfl rfl rfl rfl)) | refine S5 ?_ | (intro hb; try replace hb := simB hb; try exact kill hb))
        ((first | apply HX_ret | apply HX_retn); (repeat (first | exact Res_nil | apply Res_tmp rfl | apply Res_ce rfl rfl rfl)); unfold RetQ; refine ⟨(), trivial, ?_, Keeps.nil⟩)
        rfl
      | some r =>
        obtain ⟨x', s'⟩ := r
        rw [hm] at hinv
        change getF false x' s' = res at hinv
        rw [show (⟨x.t, x.id, x.peers, x.routes.map RtS.q, x.n⟩ : MSt) = x.m from rfl, hm] at hrr
        dsimp only [pt, rdP, xP, List.cons_append, List.nil_append, Option.isSome] at hrr ⊢
        repeat' (first | refine SW ?_ | refine SD ?_ | (refine HO_k 12 rfl ?_; refine HO_callq rfl rfl rfl rfl (nleftF_t _ _ _ _) (fun _ _ => rfl) (srcsA) rfl rfl sqA ?_) | (refine HO_k 12 rfl ?_; refine HO_call rfl rfl rfl rfl (hrr) rfl (trivial) rfl rfl soA ?_; intro y hy; dsimp only [rdQ, rdP, xP, pt, List.cons_append, List.nil_append]) | exact HO_seg rfl rfl | refine S1 ?_ | (refine S2 ?_; intro _) | (refine S3 ?_; intro _ _) | (refine S4 ?_; intro _ _ _) | (refine HO_g 2 rfl ?_; (first | apply HO_and rfl rfl rfl rfl rfl rfl rfl rfl rfl | apply HO_or rfl rfl rfl rfl rfl rfl rfl rfl rfl)) | refine S5 ?_ | (intro hb; try replace hb := simB hb; try exact kill hb))
        obtain ⟨w1, w2⟩ := hy
        obtain ⟨w3, w4, w5⟩ := w2 x' s' rfl
        exact HX_at ⟨y, false⟩ (next y x' s' hm w1 w3 w4 hinv) ⟨rfl, rfl, rfl, rfl, rfl, rfl, trivial⟩ rfl
  · rw [if_neg (by intro h; cases h.1)] at hinv
    have hrr := rrec1_t b rb x xA xc (false, s) hs hc hxr (by omega) ⟨hx0, by omega⟩
    cases hm : recM true x.m (false, s) with
    | none =>
      rw [hm] at hinv
      change none = res at hinv
      subst hinv
      rw [show (⟨x.t, x.id, x.peers, x.routes.map RtS.q, x.n⟩ : MSt) = x.m from rfl, hm] at hrr
      dsimp only [pt, rdP, xP, List.cons_append, List.nil_append, Option.isSome] at hrr ⊢
      repeat' (first | refine SW ?_ | refine SD ?_ | (refine HO_k 12 rfl ?_; refine HO_call rfl rfl rfl rfl (hrr) rfl (trivial) rfl rfl soA ?_; intro y hy; dsimp only [rdQ, rdP, xP, pt, List.cons_append, List.nil_append]) | exact HO_seg rfl rfl | refine S1 ?_ | (refine S2 ?_; intro _) | (refine S3 ?_; intro _ _) | (refine S4 ?_; intro _ _ _) | (refine HO_g 2 rfl ?_; (first | apply HO_and rfl rfl rfl rfl rfl rfl rfl rfl rfl | apply HO_or rfl rfl rfl rfl rfl rfl rfl rfl rfl)) | refine S5 ?_ | (intro hb; try replace hb := simB hb; try exact kill hb))
      ((first | apply HX_ret | apply HX_retn); (repeat (first | exact Res_nil | apply Res_tmp rfl | apply Res_ce rfl rfl rfl)); unfold RetQ; refine ⟨(), trivial, ?_, Keeps.nil⟩)
      rfl
    | some r =>
      obtain ⟨x', s'⟩ := r
      rw [hm] at hinv
      change getF false x' s' = res at hinv
      rw [show (⟨x.t, x.id, x.peers, x.routes.map RtS.q, x.n⟩ : MSt) = x.m from rfl, hm] at hrr
      dsimp only [pt, rdP, xP, List.cons_append, List.nil_append, Option.isSome] at hrr ⊢
      repeat' (first | refine SW ?_ | refine SD ?_ | (refine HO_k 12 rfl ?_; refine HO_call rfl rfl rfl rfl (hrr) rfl (trivial) rfl rfl soA ?_; intro y hy; dsimp only [rdQ, rdP, xP, pt, List.cons_append, List.nil_append]) | exact HO_seg rfl rfl | refine S1 ?_ | (refine S2 ?_; intro _) | (refine S3 ?_; intro _ _) | (refine S4 ?_; intro _ _ _) | (refine HO_g 2 rfl ?_; (first | apply HO_and rfl rfl rfl rfl rfl rfl rfl rfl rfl | apply HO_or rfl rfl rfl rfl rfl rfl rfl rfl rfl)) | refine S5 ?_ | (intro hb; try replace hb := simB hb; try exact kill hb))
      obtain ⟨w1, w2⟩ := hy
      obtain ⟨w3, w4, w5⟩ := w2 x' s' rfl
      exact HX_at ⟨y, false⟩ (next y x' s' hm w1 w3 w4 hinv) ⟨rfl, rfl, rfl, rfl, rfl, rfl, trivial⟩ rfl
def lSg (n : Int) (b1 : Nat) : SegS := ⟨false, some ⟨b1, 0, none⟩, 1, [n]⟩
def lAt (n : Int) (nx : Nat) (b1 b2 : Nat) : AttS := ⟨0, some ⟨b2, 0, none⟩, 1, [lSg n b1], nx, -1, -1, none, 0, []⟩
theorem own_i1 {T : Nat} {A : Option Addr} {n : Int} : Ent (own idE T 1 A 1 1 [[.int .i64 n]]) (arr iE 1 A [n]) := fun S w h => arr_typed [n] S w (own_wf (WfL.map (enc := iE)) S w h)
theorem own_s1 {T : Nat} {A : Option Addr} {s : SegS} : Ent (own idE T 2 A 1 1 [s.e]) (arr SegS.e 2 A [s]) := fun S w h => arr_typed [s] S w (own_wf (WfL.map (enc := SegS.e) (l := [s])) S w h)
set_option maxHeartbeats 4000000 in
theorem said14_t (n : Int) (nx : Nat) : Tri Tryz.prog 16 [.int .i64 n, .int .u32 nx] [] [] (fun _ : Nat × Nat => True) (fun x => .agg (lAt n nx x.1 x.2).e.toArray)
    (fun x => [arr iE 1 (some ⟨x.1, 0, none⟩) [n], arr SegS.e 2 (some ⟨x.2, 0, none⟩) [lSg n x.1]]) := by
  refine Tri_of (N := Tryz.f16.ntmps) (c := bodyOf Tryz.f16) Tryz.func16 rfl rfl rfl rfl (fun w0 S0 => ?_)
  repeat' (first | refine SW ?_ | refine SD ?_ | exact HO_seg rfl rfl | refine S1 ?_ | (refine S2 ?_; intro _) | (refine S3 ?_; intro _ _) | (refine S4 ?_; intro _ _ _) | (refine HO_g 2 rfl ?_; (first | apply HO_and rfl rfl rfl rfl rfl rfl rfl rfl rfl | apply HO_or rfl rfl rfl rfl rfl rfl rfl rfl rfl)) | refine S5 ?_ | (intro hb; try replace hb := simB hb; try exact kill hb))
  rename_i b4 b1 b2
  ((first | apply HX_ret | apply HX_retn); (repeat (first | exact Res_nil | apply Res_tmp rfl | apply Res_ce rfl rfl rfl)); unfold RetQ; refine ⟨(b1, b2), trivial, rfl, (by first | exact Keeps.pickE 1 rfl rfl own_i1 (Keeps.pickE 0 rfl rfl (own_s1 (s := lSg n b1)) Keeps.nil) | exact Keeps.pickE 2 rfl rfl own_i1 (Keeps.pickE 0 rfl rfl (own_s1 (s := lSg n b1)) Keeps.nil) | exact Keeps.pickE 2 rfl rfl own_i1 (Keeps.pickE 1 rfl rfl (own_s1 (s := lSg n b1)) Keeps.nil) | exact Keeps.pickE 0 rfl rfl own_i1 (Keeps.pickE 0 rfl rfl (own_s1 (s := lSg n b1)) Keeps.nil))⟩)
def tenN (n : Nat) : Nat := 167772160 + 65536 * n
set_option maxHeartbeats 4000000 in
theorem ten17a_t : Tri Tryz.prog 15 [.int .i64 1] [] [] (fun _ : Unit => True) (fun _ => pfV 167837696 16) (fun _ => []) := by
  refine Tri_of (N := Tryz.f15.ntmps) (c := bodyOf Tryz.f15) Tryz.func15 rfl rfl rfl rfl (fun w0 S0 => ?_)
  repeat' (first | refine SW ?_ | refine SD ?_ | exact HO_seg rfl rfl | refine S1 ?_ | (refine S2 ?_; intro _) | (refine S3 ?_; intro _ _) | (refine S4 ?_; intro _ _ _) | (refine HO_g 2 rfl ?_; (first | apply HO_and rfl rfl rfl rfl rfl rfl rfl rfl rfl | apply HO_or rfl rfl rfl rfl rfl rfl rfl rfl rfl)) | refine S5 ?_ | (intro hb; try replace hb := simB hb; try exact kill hb))
  ((first | apply HX_ret | apply HX_retn); (repeat (first | exact Res_nil | apply Res_tmp rfl | apply Res_ce rfl rfl rfl)); unfold RetQ; refine ⟨(), trivial, ?_, Keeps.nil⟩)
  rfl
set_option maxHeartbeats 4000000 in
theorem ten17b_t : Tri Tryz.prog 15 [.int .i64 2] [] [] (fun _ : Unit => True) (fun _ => pfV 167903232 16) (fun _ => []) := by
  refine Tri_of (N := Tryz.f15.ntmps) (c := bodyOf Tryz.f15) Tryz.func15 rfl rfl rfl rfl (fun w0 S0 => ?_)
  repeat' (first | refine SW ?_ | refine SD ?_ | exact HO_seg rfl rfl | refine S1 ?_ | (refine S2 ?_; intro _) | (refine S3 ?_; intro _ _) | (refine S4 ?_; intro _ _ _) | (refine HO_g 2 rfl ?_; (first | apply HO_and rfl rfl rfl rfl rfl rfl rfl rfl rfl | apply HO_or rfl rfl rfl rfl rfl rfl rfl rfl rfl)) | refine S5 ?_ | (intro hb; try replace hb := simB hb; try exact kill hb))
  ((first | apply HX_ret | apply HX_retn); (repeat (first | exact Res_nil | apply Res_tmp rfl | apply Res_ce rfl rfl rfl)); unfold RetQ; refine ⟨(), trivial, ?_, Keeps.nil⟩)
  rfl
def lP : PeS := ⟨1, 2, 3⟩
def lR1 (r : Int) (b1 b2 : Nat) : RtS := ⟨r, 167837696, 16, 0, lAt 5 6 b1 b2⟩
def lR2 (b3 b4 : Nat) : RtS := ⟨0, 167903232, 16, 4, lAt 5 6 b3 b4⟩
def lD (r : Int) (bp br b1 b2 b3 b4 : Nat) : DuS := ⟨7, 9, some ⟨bp, 0, none⟩, 1, [lP], some ⟨br, 0, none⟩, 2, [lR1 r b1 b2, lR2 b3 b4]⟩
def lM (r : Int) : MSt := (lD r 0 0 0 0 0 0).m
theorem lD_m (r : Int) (bp br b1 b2 b3 b4 : Nat) : (lD r bp br b1 b2 b3 b4).m = lM r := rfl
def lBs : List UInt8 := putQ (lM 0)
theorem lD_w (r : Int) (bp br b1 b2 b3 b4 : Nat) : DuW (lD r bp br b1 b2 b3 b4) := by
  have hl : ∀ b1 b2, Lim (lAt 5 6 b1 b2) := fun b1 b2 => ⟨by show 1 ≤ 1000; decide, by show 0 ≤ 1000; decide, fun s hs => by
    rw [show s = lSg 5 b1 from List.mem_singleton.1 hs]
    show 1 ≤ 1000
    decide⟩
  refine ⟨fun x hx => ?_, by show 9 < 4294967296; decide, fun p hp => ?_, by show 1 ≤ 1000000; decide, by show 2 ≤ 1000000; decide⟩
  · rcases List.mem_cons.1 hx with rfl | hx
    · exact ⟨by show 167837696 < 4294967296; decide, by show (0 : Int) ≤ 6 ∧ (6 : Int) ≤ 4294967295; decide, hl b1 b2⟩
    · rw [List.mem_singleton.1 hx]
      exact ⟨by show 167903232 < 4294967296; decide, by show (0 : Int) ≤ 6 ∧ (6 : Int) ≤ 4294967295; decide, hl b3 b4⟩
  · rw [show p = lP from List.mem_singleton.1 hp]
    decide
theorem lM0_ok : chkQ (lM 0) = true := by decide +kernel
theorem lM1_no : chkQ (lM 1) = false := by decide +kernel
theorem lBs_len : lBs.length = 139 := by decide +kernel
theorem lGet : getD lBs = some { lM 0 with n := 2 } := by kernel_rfl
theorem lGet2 : getD (lBs.drop 1) = none := by kernel_rfl
theorem lCnt : cntR 0 lBs = some 3 := by kernel_rfl
def zDu : DuS := ⟨0, 0, none, 0, [], none, 0, []⟩
theorem zDu_w : DuW zDu := ⟨fun x hx => (by cases hx), by decide, fun x hx => (by cases hx), by decide, by decide⟩
theorem zDu_ok : chkM zDu = true := by decide +kernel
theorem zDu_len : (putD zDu).length = 20 := by decide +kernel
def SrcOkM (src : List SL) (e : SL) : Prop := (∃ e0 ∈ src, Ent e0 e) ∨ ∃ L, e = inn L ∧ ∀ f ∈ L, ∃ e0 ∈ src, Ent e0 f
theorem Tri_srcM {P : Program} {g : Nat} {args : List Value} {ro src rw : List SL} {α : Type} {φ : α → Prop} {val : α → Value} {es : α → List SL}
    (h : Tri P g args ro rw φ val es) (hs : ∀ e ∈ ro, SrcOkM src e) : Tri P g args src rw φ val es := by
  unfold Tri at h ⊢
  exact fun w S hf => (h w S ⟨hf.fr, hf.lt, hf.sub, hf.star, fun f hm => by
    rcases hs f hm with ⟨e0, he0, hent⟩ | ⟨L, rfl, hL⟩
    · obtain ⟨F, hF, hp⟩ := hf.ros e0 he0
      exact ⟨F, hF, hent _ _ hp⟩
    · exact ⟨fun b => b < w.heap.size ∧ ¬ S b, fun b hb => hb, fun e he => by
        obtain ⟨e0, he0, hent⟩ := hL e he
        obtain ⟨F, hF, hp⟩ := hf.ros e0 he0
        exact ⟨F, hF, hent _ _ hp⟩⟩⟩).mono fun _ w' ⟨x, T, hx, he', hfx⟩ => ⟨x, T, hx, he', hfx.fr, hfx.lt, hfx.sub, hfx.star, fun f hm => by
    obtain ⟨F, hF, hp⟩ := hf.ros f hm
    exact ⟨F, fun b hb => ⟨Nat.lt_of_lt_of_le (hF b hb).1 hfx.fr.size, fun hT => (hfx.sub b hT).elim (hF b hb).2 (fun hge => by have := (hF b hb).1; omega)⟩, f.st F w w' (fun b hb => hfx.fr.block b (hF b hb).1 (hF b hb).2) hp⟩⟩
/-- the pieces of the law's dump, one by one -/
@[reducible] def lRo (r : Int) (bp br b1 b2 b3 b4 : Nat) : List SL := [arr PeS.e 3 (some ⟨bp, 0, none⟩) [lP], arr RtS.e 10 (some ⟨br, 0, none⟩) [lR1 r b1 b2, lR2 b3 b4], arr iE 1 (some ⟨b1, 0, none⟩) [5], arr SegS.e 2 (some ⟨b2, 0, none⟩) [lSg 5 b1], arr iE 1 (some ⟨b3, 0, none⟩) [5], arr SegS.e 2 (some ⟨b4, 0, none⟩) [lSg 5 b3], arr iE 1 none []]
theorem lRo_ok (r : Int) (bp br b1 b2 b3 b4 : Nat) : ∀ e ∈ (lD r bp br b1 b2 b3 b4).ro, SrcOkM (lRo r bp br b1 b2 b3 b4) e := by
  intro e he
  rcases List.mem_cons.1 he with rfl | he
  · exact .inl ⟨_, List.mem_cons_self, Ent.rfl_⟩
  rcases List.mem_cons.1 he with rfl | he
  · exact .inl ⟨_, List.mem_cons_of_mem _ List.mem_cons_self, Ent.rfl_⟩
  rw [List.mem_singleton] at he
  refine .inr ⟨_, he, fun f hf => ⟨f, ?_, Ent.rfl_⟩⟩
  change f ∈ [arr iE 1 (some ⟨b1, 0, none⟩) [5], arr SegS.e 2 (some ⟨b2, 0, none⟩) [lSg 5 b1], arr iE 1 none [], arr iE 1 (some ⟨b3, 0, none⟩) [5], arr SegS.e 2 (some ⟨b4, 0, none⟩) [lSg 5 b3], arr iE 1 none []] at hf
  simp only [List.mem_cons, List.not_mem_nil, or_false] at hf ⊢
  rcases hf with h | h | h | h | h | h <;> simp [h]
theorem lput_t (bp br b1 b2 b3 b4 : Nat) : Tri Tryz.prog 7 [.agg (lD 0 bp br b1 b2 b3 b4).e.toArray] (lRo 0 bp br b1 b2 b3 b4) [] (fun _ : OA => True) (fun x => .tuple #[.slice x.1 lBs.length x.2, .int .i64 0]) (fun x => [ownB x lBs]) := by
  have := mput_t (lD 0 bp br b1 b2 b3 b4) (lD_w 0 bp br b1 b2 b3 b4) (Nat.le_refl 2) (by rw [chkM_q]; exact lM0_ok)
  rw [putD_q] at this
  exact Tri_srcM this (lRo_ok 0 bp br b1 b2 b3 b4)
theorem lchk35_t (bp br b1 b2 b3 b4 : Nat) : Tri Tryz.prog 9 [.agg (lD 1 bp br b1 b2 b3 b4).e.toArray] (lRo 1 bp br b1 b2 b3 b4) [] (fun _ : Unit => True) (fun _ => .int .i64 350) (fun _ => []) := by
  have := mcheck_t (lD 1 bp br b1 b2 b3 b4) (lD_w 1 bp br b1 b2 b3 b4)
  rw [chkM_q, show chkQ (lD 1 bp br b1 b2 b3 b4).m = false from lM1_no] at this
  exact Tri_srcM this (lRo_ok 1 bp br b1 b2 b3 b4)
theorem lzero_t : Tri Tryz.prog 7 [.agg #[.int .i64 0, .int .u32 0, .slice none 0 0, .slice none 0 0]] [] [] (fun _ : OA => True) (fun x => .tuple #[.slice x.1 20 x.2, .int .i64 0]) (fun x => [ownB x (putD zDu)]) := by
  have := mput_t zDu zDu_w (Nat.le_refl 0) zDu_ok
  rw [zDu_len] at this
  exact Tri_ro this (AllSrc.free (fun w => arr_nil _ w) (AllSrc.free (fun w => arr_nil _ w) (AllSrc.free inn_nil trivial)))
theorem lget35_t (A : Option Addr) (c : Nat) : Tri Tryz.prog 10 [.slice A lBs.length c] [arr bE 1 A lBs] [] (fun y : DuS => y.peers = [lP] ∧ ∃ r1 r2 : RtS, y.routes = [r1, r2] ∧ r2.id = 4) (fun y => .tuple #[.agg y.e.toArray, .int .i64 0]) (fun y => y.ro) := by
  refine Tri_weak (mget_ok A c lBs (by rw [lBs_len]; decide) _ lGet) fun y hy => ⟨y, ⟨hy.1.2.2.1, ?_⟩, rfl, Keeps.refl⟩
  have h := hy.1.2.2.2
  change y.routes.map RtS.q = [(lR1 0 0 0).q, (lR2 0 0).q] at h
  obtain ⟨t, id, pA, pc, ps, rA, rc, rs⟩ := y
  simp only at h ⊢
  cases rs with
  | nil => cases h
  | cons r1 rs =>
    cases rs with
    | nil => injection h with h1 h; cases h
    | cons r2 rs =>
      cases rs with
      | cons r3 rs => injection h with h1 h; injection h with h1 h; cases h
      | nil =>
        refine ⟨r1, r2, rfl, ?_⟩
        injection h with h1 h
        injection h with h2 h
        have := congrArg RtQ.id h2
        exact this
theorem lget36_t (A : Option Addr) (c : Nat) : Tri Tryz.prog 10 [.slice A (lBs.drop 1).length c] [arr bE 1 A (lBs.drop 1)] [] (fun _ : Unit => True) (fun _ => .tuple #[.agg #[.int .i64 0, .int .u32 0, .slice none 0 0, .slice none 0 0], .int .i64 350]) (fun _ => []) :=
  mget_bad A c (lBs.drop 1) (by rw [List.length_drop, lBs_len]; decide) lGet2
theorem lrec_t (A : Option Addr) (c : Nat) : Tri Tryz.prog 17 [.slice A lBs.length c] [arr bE 1 A lBs] [] (fun _ : Unit => True) (fun _ => .tuple #[.int .i64 3, .bool true]) (fun _ => []) := by
  have := mrecs_t A c lBs (by rw [lBs_len]; decide)
  rw [lCnt] at this
  exact this
theorem Tri_post {P : Program} {g : Nat} {args : List Value} {ro rw : List SL} {α : Type} {φ ψ : α → Prop} {val : α → Value} {es : α → List SL}
    (h : Tri P g args ro rw φ val es) (hC : ∀ x w, φ x → RoOk (ro ++ es x) w → ψ x) : Tri P g args ro rw (fun x => φ x ∧ ψ x) val es := by
  unfold Tri at h ⊢
  exact fun w S hf => (h w S hf).mono fun _ w' ⟨x, T, hx, he, hfx⟩ => ⟨x, T, ⟨hx, hC x w' hx hfx.roOk⟩, he, hfx⟩
theorem lput35_t (bp br b1 b2 b3 b4 : Nat) : Tri Tryz.prog 7 [.agg (lD 0 bp br b1 b2 b3 b4).e.toArray] (lRo 0 bp br b1 b2 b3 b4) [] (fun x : OA => True ∧ 139 ≤ x.2) (fun x => .tuple #[.slice x.1 139 x.2, .int .i64 0]) (fun x => [ownB x lBs]) := by
  have := Tri_post (ψ := fun x : OA => 139 ≤ x.2) (lput_t bp br b1 b2 b3 b4) fun x w _ h => by
    have := own_cap 7 rfl h
    rwa [lBs_len] at this
  rw [lBs_len] at this
  exact this
theorem lget35b_t (A : Option Addr) (c : Nat) : Tri Tryz.prog 10 [.slice A 139 c] [arr bE 1 A lBs] [] (fun y : DuS => y.peers = [lP] ∧ ∃ r1 r2 : RtS, y.routes = [r1, r2] ∧ r2.id = 4) (fun y => .tuple #[.agg y.e.toArray, .int .i64 0]) (fun y => y.ro) := by
  have := lget35_t A c
  rw [lBs_len] at this
  exact this
theorem lget36b_t (A : Option Addr) (c : Nat) : Tri Tryz.prog 10 [.slice A 138 c] [arr bE 1 A (lBs.drop 1)] [] (fun _ : Unit => True) (fun _ => .tuple #[.agg #[.int .i64 0, .int .u32 0, .slice none 0 0, .slice none 0 0], .int .i64 350]) (fun _ => []) := by
  have := lget36_t A c
  rw [List.length_drop, lBs_len] at this
  exact this
theorem lrec35_t (A : Option Addr) (c : Nat) : Tri Tryz.prog 17 [.slice A 139 c] [arr bE 1 A lBs] [] (fun _ : Unit => True) (fun _ => .tuple #[.int .i64 3, .bool true]) (fun _ => []) := by
  have := lrec_t A c
  rw [lBs_len] at this
  exact this
set_option maxHeartbeats 64000000 in
set_option maxRecDepth 100000 in
theorem mlives_t : Tri Tryz.prog 6 [] [] [] (fun _ : Unit => True) (fun _ => .bool true) (fun _ => []) := by
  refine Tri_of (N := Tryz.f6.ntmps) (c := bodyOf Tryz.f6) Tryz.func6 rfl rfl rfl rfl (fun w0 S0 => ?_)
  repeat' (first | refine SW ?_ | refine SD ?_ | (refine HO_k 12 rfl ?_; refine HO_callq rfl rfl rfl rfl (ten17a_t) (fun _ _ => rfl) (trivial) rfl rfl sqA ?_) | (refine HO_k 12 rfl ?_; refine HO_callq rfl rfl rfl rfl (ten17b_t) (fun _ _ => rfl) (trivial) rfl rfl sqA ?_) | (refine HO_k 12 rfl ?_; refine HO_call rfl rfl rfl rfl (said14_t 5 6) rfl (trivial) rfl rfl soA ?_; intro q hq; dsimp only [List.cons_append, List.nil_append]) | (refine HO_k 12 rfl ?_; refine HO_call rfl rfl rfl rfl (lput35_t _ _ _ _ _ _) rfl (srcsB) rfl rfl soA ?_; intro ⟨x1, c1⟩ h1; have h2 : 139 ≤ c1 := h1.2; dsimp only [List.cons_append, List.nil_append]) | (refine HO_k 12 rfl ?_; refine HO_call rfl rfl rfl rfl (lget35b_t x1 c1) rfl (srcsB) rfl rfl soA ?_; intro ⟨gt, gi, gpA, gpc, gps, grA, grc, grs⟩ hg; dsimp only at hg; obtain ⟨rfl, r1, ⟨xr, xa, xn, xi, xt⟩, rfl, hxi⟩ := hg; dsimp only at hxi; subst hxi; dsimp only [DuS.ro, DuS.e, List.cons_append, List.nil_append]) | (refine HO_k 12 rfl ?_; refine HO_callq rfl rfl rfl rfl (lrec35_t x1 c1) (fun _ _ => rfl) (srcsB) rfl rfl sqA ?_) | (refine HO_k 12 rfl ?_; refine HO_call rfl rfl rfl rfl (lzero_t) rfl (trivial) rfl rfl soA ?_; intro ⟨x2, c2⟩ h3; dsimp only [List.cons_append, List.nil_append]) | (refine HO_k 12 rfl ?_; refine HO_callq rfl rfl rfl rfl (lget36b_t (cutA x1 1 c1 1) (c1 - 1)) (fun _ _ => rfl) (AllSrc.via 5 rfl (fun S w h => arr_drop c1 1 (fun hm => by omega) S w (own_byte S w h)) trivial) rfl rfl sqA ?_) | (refine HO_k 12 rfl ?_; refine HO_callq rfl rfl rfl rfl (lchk35_t _ _ _ _ _ _) (fun _ _ => rfl) (srcsB) rfl rfl sqA ?_) | exact HO_seg rfl rfl | refine S1 ?_ | (refine S2 ?_; intro _) | (refine S3 ?_; intro _ _) | (refine S4 ?_; intro _ _ _) | (refine HO_g 2 rfl ?_; (first | apply HO_and rfl rfl rfl rfl rfl rfl rfl rfl rfl | apply HO_or rfl rfl rfl rfl rfl rfl rfl rfl rfl)) | refine S5 ?_ | (intro hb; try replace hb := simB hb; try exact kill hb))
  ((first | apply HX_ret | apply HX_retn); (repeat (first | exact Res_nil | apply Res_tmp rfl | apply Res_ce rfl rfl rfl)); unfold RetQ; refine ⟨(), trivial, ?_, Keeps.nil⟩)
  rfl
theorem cntR_rec (n t k : Nat) (body rest : List UInt8) (hb : body.length < 4294967296) : cntR n (recB t k body ++ rest) = cntR (n + 1) rest := by
  have hl : (recB t k body ++ rest).length = body.length + 12 + rest.length := by rw [List.length_append, recB_len]
  have hg : lenG (recB t k body ++ rest) = body.length := by
    have h8 : (recB t k body ++ rest).drop 8 = be 4 body.length ++ (body ++ rest) := by
      have e : recB t k body ++ rest = (be 4 t ++ (be 2 13 ++ be 2 k)) ++ (be 4 body.length ++ (body ++ rest)) := by
        unfold recB
        simp only [List.append_assoc]
      rw [e]
      exact List.drop_left' (by simp only [List.length_append, be_length])
    unfold lenG
    rw [h8]
    have := ge_nb 4 (by decide) (n := (body.length : Int)) (by unfold fitsB; simp only [Bool.and_eq_true, decide_eq_true_eq]; omega) (body ++ rest)
    rw [Int.toNat_natCast] at this
    omega
  have hne : recB t k body ++ rest ≠ [] := by
    intro h
    rw [h] at hl
    simp only [List.length_nil] at hl
    omega
  rw [cntR_cons _ _ hne, hg, if_pos ⟨by omega, by omega⟩]
  congr 1
  exact List.drop_left' (by rw [recB_len]; omega)
/-- how often a prefix begins -/
def gsN : Option RtS → List RtS → Nat
  | _, [] => 0
  | none, y :: r => 1 + gsN (some y) r
  | some x, y :: r => (if sameP y x = true then 0 else 1) + gsN (some y) r
theorem sameP_iff {x y : RtS} : sameP x y = true ↔ x.a = y.a ∧ x.n = y.n := by
  unfold sameP
  rw [Bool.and_eq_true, decide_eq_true_eq, decide_eq_true_eq]
  omega
theorem gsN_drop (y : RtS) : ∀ (l : List RtS) (p : RtS), sameP p y = true → gsN (some p) l = gsN none (l.dropWhile fun x => sameP x y) := by
  intro l
  induction l with
  | nil => intro p _; rfl
  | cons x l ih =>
    intro p hp
    have hp := sameP_iff.1 hp
    cases hx : sameP x y with
    | true =>
      rw [show ((x :: l).dropWhile fun x => sameP x y) = l.dropWhile (fun x => sameP x y) by simp only [List.dropWhile_cons, hx, if_true], ← ih x hx]
      have hx := sameP_iff.1 hx
      show (if sameP x p = true then 0 else 1) + _ = _
      rw [if_pos (sameP_iff.2 ⟨by omega, by omega⟩), Nat.zero_add]
    | false =>
      rw [show ((x :: l).dropWhile fun x => sameP x y) = x :: l by simp only [List.dropWhile_cons, hx, Bool.false_eq_true, if_false]]
      show (if sameP x p = true then 0 else 1) + _ = 1 + _
      rw [if_neg (fun h => ?_)]
      have h := sameP_iff.1 h
      rw [sameP_iff.2 ⟨by omega, by omega⟩] at hx
      cases hx
theorem gsN_cut (y : RtS) (r : List RtS) : gsN none (y :: r) = 1 + gsN none ((y :: r).drop (cutN (y :: r))) := by
  have e : (y :: r).drop (cutN (y :: r)) = (y :: r).dropWhile fun x => sameP x y := by
    conv => lhs; arg 2; rw [← List.takeWhile_append_dropWhile (p := fun x => sameP x y) (l := y :: r)]
    exact List.drop_left
  rw [e, show ((y :: r).dropWhile fun x => sameP x y) = r.dropWhile (fun x => sameP x y) by simp only [List.dropWhile_cons, sameP_self y, if_true], ← gsN_drop y r y (sameP_self y)]
  rfl
theorem cntR_grp (t : Nat) : ∀ (f : Nat) (l : List RtS) (k n : Nat), l.length < f → (grpR t k l).length < 4294967296 → cntR n (grpR t k l) = some (n + gsN none l) := by
  intro f
  induction f with
  | zero => intro l k n h; omega
  | succ f ih =>
    intro l k n h hl
    cases l with
    | nil => rfl
    | cons y r =>
      rw [grpR_cons] at hl ⊢
      rw [List.length_append, recB_len] at hl
      have hp := cutN_pos y r
      rw [cntR_rec _ _ _ _ _ (by omega), ih _ _ _ (by rw [List.length_drop]; simp only [List.length_cons] at h ⊢; omega) (by omega), gsN_cut]
      congr 1
      omega
theorem cntR_put {d : DuS} (hd : DuW d) (h : chkM d = true) : cntR 0 (putD d) = some (1 + gsN none d.routes) := by
  have hl := putD_len hd h
  have hr := hd.rl
  unfold putD at hl ⊢
  rw [List.length_append, recB_len] at hl
  rw [cntR_rec _ _ _ _ _ (by omega), cntR_grp _ _ _ _ _ (Nat.lt_succ_self _) (by omega), Nat.zero_add]
theorem gsN_le : ∀ (l : List RtS) (p : Option RtS), gsN p l ≤ l.length := by
  intro l
  induction l with
  | nil => intro p; cases p <;> exact Nat.le_refl 0
  | cons y r ih =>
    intro p
    have := ih (some y)
    cases p with
    | none => show 1 + _ ≤ r.length + 1; omega
    | some x =>
      show (if sameP y x = true then 0 else 1) + _ ≤ r.length + 1
      split <;> omega
/-- what is asked of a dump that comes from outside -/
structure DuV (d : DuS) : Prop where
  r : ∀ x ∈ d.routes, x.a < 4294967296 ∧ 0 ≤ x.at_.nxt ∧ x.at_.nxt ≤ 4294967295
  i : d.id < 4294967296
  p : ∀ x ∈ d.peers, x.id < 4294967296 ∧ x.ad < 4294967296
  c : d.routes.length ≤ d.rc
theorem DuV.w {d : DuS} (h : DuV d) (hb : bigM d = false) : DuW d ∧ d.routes.length ≤ 100 := by
  unfold bigM at hb
  simp only [Bool.or_eq_false_iff, decide_eq_false_iff_not] at hb
  obtain ⟨⟨h1, h2⟩, h3⟩ := hb
  refine ⟨⟨fun x hx => ⟨(h.r x hx).1, (h.r x hx).2, ?_⟩, h.i, h.p, by omega, by omega⟩, by omega⟩
  have := List.any_eq_false.1 h3 x hx
  obtain ⟨p1, p2, p3⟩ := large_lim (a := x.at_) (by simpa using this)
  exact ⟨by omega, by omega, fun s hs => by have := p3 s hs; omega⟩
end Go.Proofs.YtdeeokkkcfkbjaaGreat
