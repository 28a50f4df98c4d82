/- Updates: what each function computes. -/
import Derived.Test.YtdeeokkkcfkbjaaGreatAttQ
import Derived.Test.YtdeeokkkcfkbjaaGreatAttY
import Derived.Test.YtdeeokkkcfkbjaaGreatAdr
import Derived.Test.YtdeeokkkcfkbjaaGreatAttT
import Derived.Test.YtdeeokkkcfkbjaaGreatAttRA
import Derived.Test.YtdeeokkkcfkbjaaGreatAttE
import Derived.ArgAppend
namespace Go.Proofs.YtdeeokkkcfkbjaaGreat
set_option linter.unusedVariables false
set_option linter.unusedSimpArgs false
open Go.RowKit
attribute [local irreducible] HC HX HO Tri eP adr

theorem Tri_capU {P : Program} {g : Nat} {args : List Value} {ro rw : List SL} {φ : OA → Prop} {val : OA → Value} {l : List UInt8} (h : Tri P g args ro rw φ val (fun x => [ownB x l])) :
    Tri P g args ro rw (fun x => l.length ≤ x.2) val (fun x => [ownB x l]) := by
  unfold Tri at h ⊢
  exact fun w S hf => (h w S hf).mono fun e w' ⟨x, T, hx, he, hfx⟩ => ⟨x, T, own_cap ro.length (by rw [List.getElem?_append_right (Nat.le_refl _), Nat.sub_self]; rfl) hfx.roOk, he, hfx⟩
theorem attB_geU (f k : Nat) (d : List UInt8) : 3 + d.length ≤ (attB f k d).length := by
  unfold attB
  split <;> simp [be_length] <;> omega
theorem putB_geU (w : Nat) (p : PA) : 14 ≤ (putB w p).length := by
  unfold putB
  simp only [List.length_append]
  have h1 := attB_geU 64 1 [UInt8.ofNat p.org.toNat]
  have h2 := attB_geU 64 2 (pathB w p.path)
  have h3 := attB_geU 64 3 (be 4 p.nxt.toNat)
  rw [be_length] at h3
  simp only [List.length_cons, List.length_nil] at h1
  omega
theorem putB_leU (w : Nat) (h4 : w ≤ 4) (p : PA) (h : OkP w p) : (putB w p).length ≤ 5000 := by
  have h1 := attB_len 64 1 [UInt8.ofNat p.org.toNat]
  have h2 := attB_len 64 2 (pathB w p.path)
  have h3 := attB_len 64 3 (be 4 p.nxt.toNat)
  have h2' := pathB_len w h4 p.path h.s
  have hl := h.l
  have hc := h.c
  have h5 : (medB p.med).length ≤ 8 := by
    unfold medB
    have := attB_len 128 4 (be 4 p.med.toNat)
    rw [be_length] at this
    split
    · exact this
    · simp
  have h6 : (prefB p.pref).length ≤ 8 := by
    unfold prefB
    have := attB_len 64 5 (be 4 p.pref.toNat)
    rw [be_length] at this
    split
    · exact this
    · simp
  have h7 : (commB p.comms).length ≤ 132 := by
    unfold commB
    have := attB_len 192 8 (nb 4 p.comms)
    rw [nb_length] at this
    split
    · omega
    · simp
  rw [be_length] at h3
  simp only [List.length_cons, List.length_nil] at h1
  unfold putB
  simp only [List.length_append]
  omega
theorem az_paU : az.pa = pz := rfl
theorem lim_paU {a : AttS} {w : Nat} {p : PA} (h : a.pa = p) (hp : OkP w p) : Lim a := by
  subst h
  have h1 := hp.l
  have h2 := hp.c
  simp only [AttS.pa, spl_len] at h1 h2
  refine ⟨by omega, by omega, fun s hs => ?_⟩
  have := hp.s (s.set, s.ns) (List.mem_map.2 ⟨s, hs, rfl⟩)
  simp only [okSeg, Bool.and_eq_true, decide_eq_true_eq] at this
  omega
theorem getG_casesU (w : Nat) (d : List UInt8) : getG w d = (pz, 3) ∨ getG w d = (pz, 2) ∨ ∃ p, getG w d = (p, 1) ∧ OkP w p := by
  have e := getG_eq w d
  cases h : allR w ⟨p0, 0⟩ d with
  | none =>
    rw [h] at e
    exact .inl e
  | some s =>
    rw [h] at e
    by_cases hm : mustB s.seen = true
    · have e2 : getG w d = (s.a, 1) := by rw [e]; exact if_pos hm
      exact .inr (.inr ⟨s.a, e2, get_ok e2⟩)
    · exact .inr (.inl (by rw [e]; exact if_neg hm))
theorem lim_pzU {c : AttS} (hc : c.pa = pz) : Lim c := by
  have h1 := congrArg (fun p : PA => p.path.length) hc
  have h2 := congrArg (fun p : PA => p.comms.length) hc
  simp only [AttS.pa, spl_len, pz, List.length_nil] at h1 h2
  exact ⟨by omega, by omega, fun s hs => by rw [List.eq_nil_of_length_eq_zero h1] at hs; cases hs⟩
theorem same_paU {p : PA} (hl : ∀ c : AttS, c.pa = p → Lim c) (a c : AttS) (ha : a.pa = p) (hc : c.pa = p) :
    Tri Tryz.prog 70 [.agg a.e.toArray, .agg c.e.toArray] (a.ro ++ c.ro) [] (fun _ : Unit => True) (fun _ => .bool true) (fun _ => []) := by
  have := rsame_t a c (hl a ha) (hl c hc)
  rw [ha, hc, sameB_refl] at this
  exact this
theorem HO_holdOU {P : Program} {N : Nat} {w0 : World} {S0 : Foot} {ops : List Oper} {env : Env} {ro rw rw' : List SL} {K : Act → World → Prop} {ro0 : List SL} {l : List Nat} (k : Nat) {e : SL} (hk : rw[k]? = some e) (hr : eraseO rw k = some rw') (h : HO (.lex ro0) P N w0 S0 ops l env (e :: ro) rw' K) : HO (.lex ro0) P N w0 S0 ops l env ro rw K := by
  have e := eraseO_eq hr
  subst e
  exact HO_hold hk h
structure UpS where
  gA : Option Addr
  gc : Nat
  gone : List Nl
  rA : Option Addr
  rc : Nat
  routes : List Nl
  a : AttS
  soft : Bool
/-- an update's cells -/
def UpS.e (u : UpS) : List Value := [.slice u.gA u.gone.length u.gc, .slice u.rA u.routes.length u.rc, .int .i64 u.a.org, .slice u.a.pA u.a.path.length u.a.pc, .int .u32 u.a.nxt, .int .i64 u.a.med, .int .i64 u.a.pref, .slice u.a.cA u.a.comms.length u.a.cc, .bool u.soft]
@[reducible] def UpS.ro (u : UpS) : List SL := [arr Nl.e 3 u.gA u.gone, arr Nl.e 3 u.rA u.routes, inn (segPs u.a.path), arr SegS.e 2 u.a.pA u.a.path, arr iE 1 u.a.cA u.a.comms]
/-- what is asked of what is handed over -/
structure UpW (u : UpS) : Prop where
  g : NlsOk u.gone
  r : NlsOk u.routes
  n : 0 ≤ u.a.nxt ∧ u.a.nxt ≤ 4294967295
  l : Lim u.a
  gl : u.gone.length ≤ 1000000
  rl : u.routes.length ≤ 1000000
/-- may what is said be? -/
def saidOk (four : Bool) (u : UpS) : Bool := if u.routes.length = 0 then sameB u.a.pa pz else attOk four u.a
def saidB (four : Bool) (u : UpS) : List UInt8 := if u.routes.length = 0 then [] else putB (szF four) u.a.pa
def upPre (four paths : Bool) (u : UpS) : Bool := !u.soft && allX paths u.gone && allX paths u.routes && saidOk four u
/-- an update's bytes -/
def upB (four paths : Bool) (u : UpS) : List UInt8 := bodyB (nlsB paths u.gone) (saidB four u) (nlsB paths u.routes)
/-- may an update be put? -/
def upOk (four paths : Bool) (u : UpS) : Bool := upPre four paths u && decide ((upB four paths u).length ≤ 4077)

/-- the bytes of what is said; none where it may not be -/
def saidC (four : Bool) (u : UpS) : List UInt8 := if saidOk four u = true then saidB four u else []
theorem own_none0 (rw : List SL) : Keeps rw [ownB (none, 0) []] := Keeps.add (fun w => own_nil w) Keeps.nil
/-- nlri.Put, whatever it is handed -/
def nlsC (paths : Bool) (l : List Nl) : List UInt8 := if allX paths l = true then nlsB paths l else []
theorem Tri_gain {P : Program} {g : Nat} {args : List Value} {ro : List SL} {val : Value} {e : SL} (x : OA) (he : ∀ w, e.p (fun _ => False) w) {φ : OA → Prop} {val' : OA → Value} {es : OA → List SL} (h : Tri P g args ro [] (fun _ : Unit => True) (fun _ => val) (fun _ => []))
    (h1 : φ x) (h2 : val = val' x) (h3 : es x = [e]) : Tri P g args ro [] φ val' es := by
  unfold Tri at h ⊢
  exact fun w S hf => (h w S hf).mono fun e' w' ⟨y, T, hy, hv, hfx⟩ => by
    obtain ⟨T', hT'⟩ := hfx.keeps (rw' := es x) (by rw [h3]; exact Keeps.add he Keeps.nil)
    exact ⟨x, T', h1, by rw [← h2]; exact hv, hT'⟩
theorem allX_spec {paths : Bool} {l : List Nl} (h : allX paths l = true) : (∀ x ∈ l, oneX paths x = true) ∧ l.length ≤ 1024 := by
  unfold allX at h
  rw [Bool.and_eq_true, List.all_eq_true, decide_eq_true_eq] at h
  exact h
theorem nlsC_le (paths : Bool) (l : List Nl) : (nlsC paths l).length ≤ 9216 := by
  unfold nlsC
  split
  · rename_i h
    have h1 := nlsB_le paths l
    have h2 := (allX_spec h).2
    omega
  · simp
theorem saidC_le (four : Bool) (u : UpS) (hu : UpW u) : (saidC four u).length ≤ 5000 := by
  unfold saidC
  split
  · rename_i h
    unfold saidB
    unfold saidOk at h
    split
    · simp
    · rename_i h0
      rw [if_neg h0] at h
      exact putB_leU (szF four) (szF_bd four).2 u.a.pa (okP_of hu.n (by rw [← ok_pa]; exact h))
  · simp
theorem body_eq {four paths : Bool} {u : UpS} (h : upPre four paths u = true) : pcB (nlsC paths u.gone) ++ (pcB (saidC four u) ++ nlsC paths u.routes) = upB four paths u := by
  unfold upPre at h
  simp only [Bool.and_eq_true] at h
  unfold upB bodyB nlsC saidC
  rw [if_pos h.1.1.2, if_pos h.1.2, if_pos h.2]
theorem pre_parts {four paths : Bool} {u : UpS} (h : upPre four paths u = true) : u.soft = false ∧ allX paths u.gone = true ∧ allX paths u.routes = true ∧ saidOk four u = true := by
  unfold upPre at h
  simp only [Bool.and_eq_true, Bool.not_eq_true'] at h
  exact ⟨h.1.1.1, h.1.1.2, h.1.2, h.2⟩
def bigU (u : UpS) : Bool := decide (1100 < u.gone.length) || decide (1100 < u.routes.length) || largeB u.a
theorem be2 (n : Nat) : be 2 n = [UInt8.ofNat (n / 256), UInt8.ofNat n] := by simp [be]
theorem up_parts (four paths : Bool) (u : UpS) (p2 : allX paths u.gone = true) (p3 : allX paths u.routes = true) (p4 : saidOk four u = true) : nlsC paths u.gone = nlsB paths u.gone ∧ nlsC paths u.routes = nlsB paths u.routes ∧ saidC four u = saidB four u := by
  unfold nlsC saidC
  rw [p2, p3, p4]
  exact ⟨rfl, rfl, rfl⟩
theorem arr_cells {sz : Nat} {ad : Addr} {l : List (List Value)} {F : Foot} {w : World} (h : (arr idE sz (some ad) l).p F w) (hl : ∀ x ∈ l, x.length = sz) (hsz : 0 < sz) : ∀ j u, (l.flatMap idE)[j]? = some u → w.cell? (ad.add j) = some u := fun q u hq => by
  have hlen : (l.flatMap idE).length = l.length * sz := flatMap_len (enc := idE) l hl
  have hqlt := (List.getElem?_eq_some_iff.1 hq).1
  rw [hlen] at hqlt
  obtain ⟨ad', hA, _, hc⟩ := h (by intro e; subst e; simp at hqlt)
  injection hA with hA
  subst hA
  have hqd : q / sz < l.length := Nat.div_lt_of_lt_mul (by rw [Nat.mul_comm]; exact hqlt)
  have hx1 : l[q / sz]? = some l[q / sz] := List.getElem?_eq_getElem hqd
  have hkm : q % sz < (idE l[q / sz]).length := by rw [show (idE l[q / sz]).length = sz from hl _ (List.getElem_mem _)]; exact Nat.mod_lt _ hsz
  have h2 := flatMap_at (enc := idE) l hl _ _ hx1 (q % sz) _ (List.getElem?_eq_getElem hkm)
  have h3 := hc _ _ hx1 (q % sz) _ (List.getElem?_eq_getElem hkm)
  have hqe : q / sz * sz + q % sz = q := by rw [Nat.mul_comm]; exact Nat.div_add_mod q sz
  rw [hqe] at h2 h3
  rw [hq] at h2
  injection h2 with h2
  rw [h3, ← h2]
/-- append onto a slice without room that is only read -/
theorem HO_appf {m : Md} {P : Program} {N : Nat} {w0 : World} {S0 : Foot} {ops : List Oper} {i : Nat} {lq : List Nat} {env : Env} {ro rw : List SL} {K : Act → World → Prop} {d : Nat} {ty : TypeId} {pos : String} {aft : Array Edge} {g : Option (Nat × Bool)}
    {T e sz by_ n n2 c2 : Nat} (k1 k2 : Nat) {A A2 : Option Addr} {l l2 : List (List Value)} {x y : Operand} {z : Value} {s1 s2 : SL} [hT : TySlice P T e] [hI : TyInfo P e sz by_] [hZ : TyZero P e z]
    (ho : ops[i]? = some ⟨some d, .call { callee := .builtin .append, args := #[x, y], argTypes := #[T, T] }, ty, pos, aft, g⟩) (hx : Env.ev env x = some (.slice A n n)) (hy : Env.ev env y = some (.slice A2 n2 c2))
    (hk1 : (ro ++ rw)[k1]? = some s1) (hs1 : Ent s1 (arr idE sz A l)) (hk2 : (ro ++ rw)[k2]? = some s2) (hs2 : Ent s2 (arr idE sz A2 l2)) (hn : n = l.length) (hn2 : n2 = l2.length) (hw1 : WfL sz l) (hw2 : WfL sz l2) (hpos : 0 < n2)
    (hzs : Nat.beq z.cells.size sz = true) (hsz : Nat.blt 0 sz = true) (hb : (n + n2) * by_ ≤ 140737488355328) (hb2 : n + n2 ≤ 9223372036854775807)
    (hw : wantE ops env g = some true) (hN : Nat.blt d N = true) (hs : soleB m ops i lq = true)
    (h : ∀ A' c', HO (nmM m) P N w0 S0 ops lq ((d, .slice A' (n + n2) c') :: env) ro (own idE e sz A' (n + n2) c' (l ++ l2) :: rw) K) : HO m P N w0 S0 ops (i :: lq) env ro rw K := by
  refine HO_act_ex (α := Option Addr × Nat) (φ := fun _ => True) (v := fun p => .slice p.1 (n + n2) p.2) (rw' := fun p => own idE e sz p.1 (n + n2) p.2 (l ++ l2) :: rw) ho hw rfl hN hs (fun w1 S1 a S w ha hf => ?_) (fun p _ => h p.1 p.2)
  obtain ⟨F1, _, hp1⟩ := hf.see (List.mem_of_getElem? hk1)
  obtain ⟨F2, hF2, hp2⟩ := hf.see (List.mem_of_getElem? hk2)
  have hr1 := hs1 _ _ hp1
  have hr2 := hs2 _ _ hp2
  have hzs := Nat.eq_of_beq_eq_true hzs
  have hsz : 0 < sz := by simpa [Nat.blt_eq] using hsz
  have hI := hI.h
  have hz := hZ.h
  cases hin : P.info? e with
  | none => simp [hin] at hI
  | some inf =>
    simp [hin] at hI hz
    have hl1 : ∀ x ∈ l, x.length = sz := fun x hx => (hw1 x hx).1
    have hl2 : ∀ x ∈ l2, x.length = sz := fun x hx => (hw2 x hx).1
    have hlen1 : (l.flatMap idE).length = n * sz := by rw [flatMap_len (enc := idE) l hl1, hn]
    have hlen2 : (l2.flatMap idE).length = n2 * sz := by rw [flatMap_len (enc := idE) l2 hl2, hn2]
    obtain ⟨ad2, hA2, hSad, _⟩ := hr2 (by intro e; subst e; simp at hn2; omega)
    subst hA2
    have hc2 := arr_cells hr2 hl2 hsz
    have hone : ∀ u ∈ l2.flatMap idE, u.oneCell' = true := by
      intro u hu
      obtain ⟨y, hyl, hy⟩ := List.mem_flatMap.1 hu
      exact List.all_eq_true.1 (hw2 y hyl).2 u hy
    obtain ⟨v', w', hrun, how, hg⟩ : ∃ v' w', (Builtin.append_ #[T, T] ty #[.slice A n n, .slice (some ad2) n2 c2]).run P w = .ok v' w' ∧ w'.ownsRow w.heap.size e sz v' (n + n2) (l.flatMap idE ++ l2.flatMap idE) ∧ w.grownBy w' none := by
      cases A with
      | some ad => exact run_append_arg_grows (P := P) w T ty e inf z sz by_ hT.h hin hz hI.1 hI.2 hzs hsz ad n n (l.flatMap idE) hlen1 (arr_cells hr1 hl1 hsz) ad2 n2 c2 (l2.flatMap idE) hlen2 hc2 (by omega) (by unfold maxLen; omega) hb
      | none =>
        have hl0 : l = [] := by
          cases l with
          | nil => rfl
          | cons x l =>
            obtain ⟨ad, h1, _⟩ := hr1 (by simp)
            cases h1
        subst hl0
        have hn0 : n = 0 := by simpa using hn
        subst hn0
        obtain ⟨v', w', hrun, how, hg, _⟩ := run_append_any (P := P) w w.heap.size T ty e inf z sz by_ hT.h hin hz hI.1 hI.2 hzs hsz (.slice none 0 0) 0 [] ⟨by simp, .inl ⟨rfl, rfl⟩⟩ w.heap.size (some ad2) n2 c2 (l2.flatMap idE) ⟨hlen2, fun _ => ⟨ad2, rfl, hF2 _ hSad, hc2⟩⟩ hone (by unfold maxLen; omega) hb (Nat.le_refl _)
        exact ⟨v', w', hrun, by simpa using how, hg⟩
    obtain ⟨hlen, how2⟩ := how
    rcases how2 with ⟨_, hn0⟩ | ⟨gb, cap, cur, hv, hgb, hh, hnc, hcm, hcs, htk⟩
    · omega
    subst hv
    have hlt : gb < w'.heap.size := by
      rcases Nat.lt_or_ge gb w'.heap.size with h' | h'
      · exact h'
      · rw [Array.getElem?_eq_none h'] at hh; cases hh
    obtain ⟨T', hf'⟩ := hf.new (w' := w') ⟨hg.os, hg.tape, hg.output, hg.size, fun b hb' => hg.block b hb' (by simp)⟩ [own idE e sz (some ⟨gb, 0, none⟩) (n + n2) cap (l ++ l2)] (fun b => b = gb) (fun b hb' => by subst hb'; exact ⟨hgb, hlt⟩)
      ⟨fun b => b = gb, fun _ => False, fun _ h => h, fun _ h => h.elim, fun _ _ h => h, ⟨by rw [List.length_append, ← hn, ← hn2], ⟨by rw [List.flatMap_append]; exact hlen, .inr ⟨gb, cap, cur, rfl, Nat.zero_le _, hh, hnc, hcm, hcs, by rw [List.flatMap_append]; exact htk⟩⟩, fun ad hA => by injection hA with hA; rw [← hA]⟩, trivial⟩
    refine ⟨(some ⟨gb, 0, none⟩, cap), T', w', trivial, ?_, by simpa using hf'⟩
    simp [execOp, resolve, invoke, builtin, Sem.run_bind, ha.ev hx, ha.ev hy, hrun]
theorem Tri_pre1 {P : Program} {g : Nat} {args : List Value} {ro : List SL} {e e' : SL} {α : Type} {φ : α → Prop} {val : α → Value} {es : α → List SL} (he : Ent e e') (h : Tri P g args ro [e'] φ val es) : Tri P g args ro [e] φ val es := by
  unfold Tri at h ⊢
  exact fun w S hf => h w S ⟨hf.fr, hf.lt, hf.sub, by
    obtain ⟨A, B, h1, h2, h3, h4, h5⟩ := hf.star
    exact ⟨A, B, h1, h2, h3, he _ _ h4, h5⟩, hf.ros⟩

/-- no update -/
def uz : UpS := ⟨none, 0, [], none, 0, [], az, false⟩
theorem cutU_none {b : List UInt8} (h : cutU b = none) : b.length < 2 ∨ (2 ≤ b.length ∧ (b.drop 2).length < ge (b.take 2)) ∨
    (2 ≤ b.length ∧ ge (b.take 2) ≤ (b.drop 2).length ∧ ((b.drop 2).drop (ge (b.take 2))).length < 2) ∨
    (2 ≤ b.length ∧ ge (b.take 2) ≤ (b.drop 2).length ∧ 2 ≤ ((b.drop 2).drop (ge (b.take 2))).length ∧ (((b.drop 2).drop (ge (b.take 2))).drop 2).length < ge (((b.drop 2).drop (ge (b.take 2))).take 2)) := by
  unfold cutU at h
  by_cases c1 : b.length < 2
  · exact .inl c1
  rw [if_neg c1] at h
  simp only at h
  by_cases c2 : (b.drop 2).length < ge (b.take 2)
  · exact .inr (.inl ⟨by omega, c2⟩)
  rw [if_neg c2] at h
  by_cases c3 : ((b.drop 2).drop (ge (b.take 2))).length < 2
  · exact .inr (.inr (.inl ⟨by omega, by omega, c3⟩))
  rw [if_neg c3] at h
  by_cases c4 : (((b.drop 2).drop (ge (b.take 2))).drop 2).length < ge (((b.drop 2).drop (ge (b.take 2))).take 2)
  · exact .inr (.inr (.inr ⟨by omega, by omega, by omega, c4⟩))
  · rw [if_neg c4] at h
    cases h
structure CutU (b g s c : List UInt8) (n1 n2 : Nat) (d1 d2 d3 : List UInt8) : Prop where
  h1 : 2 ≤ b.length
  e1 : ge (b.take 2) = n1
  e2 : b.drop 2 = d1
  h2 : n1 ≤ d1.length
  e3 : d1.take n1 = g
  e4 : d1.drop n1 = d2
  h3 : 2 ≤ d2.length
  e5 : ge (d2.take 2) = n2
  e6 : d2.drop 2 = d3
  h4 : n2 ≤ d3.length
  e7 : d3.take n2 = s
  e8 : d3.drop n2 = c
theorem cutU_some {b g s c : List UInt8} (h : cutU b = some (g, s, c)) : ∃ n1 n2 d1 d2 d3, CutU b g s c n1 n2 d1 d2 d3 := by
  unfold cutU at h
  split at h
  · cases h
  simp only at h
  split at h
  · cases h
  split at h
  · cases h
  split at h
  · cases h
  injection h with h
  injection h with a1 h
  injection h with a2 a3
  exact ⟨_, _, _, _, _, ⟨by omega, rfl, rfl, by omega, a1, rfl, by omega, rfl, rfl, by omega, a2, a3⟩⟩
theorem Keeps.comp {a b c : List SL} (h1 : Keeps a b) (h2 : Keeps b c) : Keeps a c := fun S w h =>
  let ⟨T, h3, h4⟩ := h1 S w h
  let ⟨U, h5, h6⟩ := h2 T w h4
  ⟨U, fun b hb => h3 b (h5 b hb), h6⟩
theorem Tri_capN {P : Program} {g : Nat} {args : List Value} {ro rw : List SL} {φ : OA → Prop} {val : OA → Value} {l : List Nl} (h : Tri P g args ro rw φ val (fun x => [ownN x l])) :
    Tri P g args ro rw (fun x => l.length ≤ x.2) val (fun x => [ownN x l]) := by
  unfold Tri at h ⊢
  exact fun w S hf => (h w S hf).mono fun e w' ⟨x, T, hx, he, hfx⟩ => ⟨x, T, own_cap ro.length (by rw [List.getElem?_append_right (Nat.le_refl _), Nat.sub_self]; rfl) hfx.roOk, he, hfx⟩
theorem own_nl {x : OA} {l : List Nl} : Ent (ownN x l) (arr Nl.e 3 x.1 l) := fun S w h => arr_typed l S w (own_wf (WfL.map (enc := Nl.e)) S w h)
theorem own_nl0 (w : World) : (ownN (none, 0) []).p (fun _ => False) w := own_nil w
theorem az_keeps0 {rw : List SL} : Keeps rw [inn (segPs az.path), arr SegS.e 2 az.pA az.path, arr iE 1 az.cA az.comms] := az_keeps
theorem putB_le2 (w : Nat) (h4 : w ≤ 4) (p : PA) (h : OkP w p) : (putB w p).length ≤ 2300 := by
  have h1 := attB_len 64 1 [UInt8.ofNat p.org.toNat]
  have h2 := attB_len 64 2 (pathB w p.path)
  have h3 := attB_len 64 3 (be 4 p.nxt.toNat)
  have h2' := pathB_len w h4 p.path h.s
  have hl := h.l
  have hc := h.c
  have h5 : (medB p.med).length ≤ 8 := by
    unfold medB
    have := attB_len 128 4 (be 4 p.med.toNat)
    rw [be_length] at this
    split
    · exact this
    · simp
  have h6 : (prefB p.pref).length ≤ 8 := by
    unfold prefB
    have := attB_len 64 5 (be 4 p.pref.toNat)
    rw [be_length] at this
    split
    · exact this
    · simp
  have h7 : (commB p.comms).length ≤ 132 := by
    unfold commB
    have := attB_len 192 8 (nb 4 p.comms)
    rw [nb_length] at this
    split
    · omega
    · simp
  rw [be_length] at h3
  simp only [List.length_cons, List.length_nil] at h1
  unfold putB
  simp only [List.length_append]
  omega
/-- as many as there is room for -/
def fitN (room s t : Nat) : Nat := min (min (room / s) 1024) t
theorem fit_stop {room s t j q : Nat} (hs : 0 < s) (hq : q + j * s = room) (hj : j ≤ 1024) (ht : j ≤ t) (h : q < s ∨ 1024 ≤ j ∨ t ≤ j) : fitN room s t = j := by
  unfold fitN
  have h1 : j ≤ room / s := (Nat.le_div_iff_mul_le hs).2 (by omega)
  rcases h with h | h | h
  · have h2 : room / s < j + 1 := (Nat.div_lt_iff_lt_mul hs).2 (by rw [Nat.add_mul]; omega)
    omega
  · omega
  · omega
theorem nlB_pos (paths : Bool) (x : Nl) : 0 < (nlB paths x).length := by
  unfold nlB pfB
  simp only [List.length_append, List.length_cons]
  omega
end Go.Proofs.YtdeeokkkcfkbjaaGreat
