/- The laws MrtPuts and MrtGets walked; what they are handed -/
import Derived.Test.YtdeeokkkcfkbjaaGreatMrtV
import Derived.Test.YtdeeokkkcfkbjaaGreatAttT
import Derived.Test.YtdeeokkkcfkbjaaGreatMrtW
import Derived.Test.YtdeeokkkcfkbjaaGreatMrtRq
import Derived.Test.YtdeeokkkcfkbjaaGreatAttY
import Derived.Test.YtdeeokkkcfkbjaaGreatRow
namespace Go.Proofs.YtdeeokkkcfkbjaaGreat
set_option linter.unusedVariables false
set_option linter.unusedSimpArgs false
open Go.RowKit
attribute [local irreducible] HC HX HO Tri eP adr

def nest3B (P : Program) (T U : Nat) : Bool := !(P.stoodInHeld T) && !(P.eqGuardType P.depth T) && match P.underlying T with
  | some (.struct fs) => match fs.toList with
    | [f0, f1, f2] => (f0.name != "_") && Nat.beq f0.offset 0 && tyOneB P f0.type && (kindB P f0.type == some 0) && (f1.name != "_") && Nat.beq f1.offset 1 && Nat.beq f1.type U && (f2.name != "_") && Nat.beq f2.offset 3 && tyOneB P f2.type && (kindB P f2.type == some 0)
    | _ => false
  | _ => false
theorem nestKey : nest3B Tryz.prog 45 43 = true := by decide +kernel
theorem pfx_part4 {P : Program} (w : World) {U : Nat} (hA : tyAggB P U 2 = true) (x y z u : Value) : (part U #[x, y, z, u] 1).run P w = .ok (.agg #[y, z]) w := by
  simp [part, Sem.run_bind, isAgg_agg w hA, size_agg w hA]
theorem nest3_eq {P : Program} {T U : Nat} (w : World) (hT : nest3B P T U = true) (hU : flatTyB P U = some [0, 0]) (hA : tyAggB P U 2 = true) (k0 k1 k2 k3 : IntKind) (i a n j : Int) :
    (Op.equalIn 10000 T (.agg #[.int k0 i, .int k1 a, .int k2 n, .int k3 j]) (.agg #[.int k0 i, .int k1 a, .int k2 n, .int k3 j])).run P w = .ok true w := by
  unfold nest3B at hT
  simp only [Bool.and_eq_true, Bool.not_eq_true'] at hT
  obtain ⟨⟨hb1, hb2⟩, hT⟩ := hT
  cases hu : P.underlying T with
  | none => simp [hu] at hT
  | some D =>
    cases D <;> simp only [hu] at hT <;> try (cases hT; done)
    rename_i fs
    have hfo : P.fieldsOf T = fs := by simp [Program.fieldsOf, hu]
    rw [show (10000 : Nat) = 9999 + 1 from rfl, run_equalIn_struct w 9999 T _ _ (by rw [hfo]; exact hu) hb1, hfo]
    cases hl : fs.toList with
    | nil => simp [hl] at hT
    | cons f0 r =>
      cases r with
      | nil => simp [hl] at hT
      | cons f1 r2 =>
        cases r2 with
        | nil => simp [hl] at hT
        | cons f2 r3 =>
          cases r3 with
          | cons f3 r4 => simp [hl] at hT
          | nil =>
            simp only [hl, Bool.and_eq_true, bne_iff_ne, beq_iff_eq] at hT
            obtain ⟨⟨⟨⟨⟨⟨⟨⟨⟨⟨h1, h2⟩, h3⟩, h4⟩, h5⟩, h6⟩, h7⟩, h8⟩, h9⟩, h10⟩, h11⟩ := hT
            have h2 := Nat.eq_of_beq_eq_true h2
            have h6 := Nat.eq_of_beq_eq_true h6
            have h7 : f1.type = U := Nat.eq_of_beq_eq_true h7
            have h9 := Nat.eq_of_beq_eq_true h9
            have e0 : (Op.equalIn 9999 f0.type (.int k0 i) (.int k0 i)).run P w = .ok true w := eq1_run (d := 9998) w h4 (by simp [eq1]; cases k0 <;> rfl)
            have e1 : (Op.equalIn 9999 U (.agg #[.int k1 a, .int k2 n]) (.agg #[.int k1 a, .int k2 n])).run P w = .ok true w := flat_eq (d := 9997) w hU k1 k2 a n
            have e2 : (Op.equalIn 9999 f2.type (.int k3 j) (.int k3 j)).run P w = .ok true w := eq1_run (d := 9998) w h11 (by simp [eq1]; cases k3 <;> rfl)
            have p0 : (part f0.type #[.int k0 i, .int k1 a, .int k2 n, .int k3 j] f0.offset).run P w = .ok (.int k0 i) w := part_run w h3 (by rw [h2]; rfl)
            have p1 : (part f1.type #[.int k0 i, .int k1 a, .int k2 n, .int k3 j] f1.offset).run P w = .ok (.agg #[.int k1 a, .int k2 n]) w := by rw [h6, h7]; exact pfx_part4 w hA _ _ _ _
            have p2 : (part f2.type #[.int k0 i, .int k1 a, .int k2 n, .int k3 j] f2.offset).run P w = .ok (.int k3 j) w := part_run w h10 (by rw [h9]; rfl)
            rw [← h7] at e1
            simp [Op.eqFields, h1, h5, h8, Sem.run_bind, p0, p1, p2, e0, e1, e2]
theorem HO_nneK {m : Md} {P : Program} {N : Nat} {w0 : World} {S0 : Foot} {ops : List Oper} {i : Nat} {lq : List Nat} {env : Env} {ro rw : List SL} {K : Act → World → Prop} {d : Nat} {ty : TypeId} {pos : String} {aft : Array Edge} {g : Option (Nat × Bool)}
    {T U V : Nat} {x y : Operand} {k0 k1 k2 k3 : IntKind} {p q r s : Int} (hT : nest3B P T V = true) (hU : flatTyB P V = some [0, 0]) (hA : tyAggB P V 2 = true) (ho : ops[i]? = some ⟨some d, .binOp .neq T x y U, ty, pos, aft, g⟩)
    (hx : Env.ev env x = some (.agg #[.int k0 p, .int k1 q, .int k2 r, .int k3 s])) (hy : Env.ev env y = some (.agg #[.int k0 p, .int k1 q, .int k2 r, .int k3 s])) (hw : wantE ops env g = some true) (hN : Nat.blt d N = true) (hr : rdyB m ops i lq = true)
    (h : HO m P N w0 S0 ops lq ((d, .bool false) :: env) ro rw K) : HO m P N w0 S0 ops (i :: lq) env ro rw K := by
  refine HO_val ho hw rfl hN hr (fun a w ha hf => ?_) h
  have hb : P.eqGuardType P.depth T = false := by
    unfold nest3B at hT
    simp only [Bool.and_eq_true, Bool.not_eq_true'] at hT
    exact hT.1.2
  simp only [execOp, Sem.run_bind, ha.ev hx, ha.ev hy]
  rw [run_eqGuard_agg w .neq T x y _ _ hb, Result.andThen_ok, run_neq_struct, nest3_eq w hT hU hA]
  simp
theorem AllSrc.app {src : List SL} : ∀ {l l' : List SL}, AllSrc src l → AllSrc src l' → AllSrc src (l ++ l')
  | [], _, _, h => h
  | _ :: _, _, h, h' => ⟨h.1, AllSrc.app h.2 h'⟩
theorem map_q {l l' : List RtS} (h : l.map RtS.q = l'.map RtS.q) {j : Nat} {x y : RtS} (hx : l[j]? = some x) (hy : l'[j]? = some y) : x.q = y.q := by
  have h1 : (l.map RtS.q)[j]? = some x.q := by rw [List.getElem?_map, hx]; rfl
  have h2 : (l'.map RtS.q)[j]? = some y.q := by rw [List.getElem?_map, hy]; rfl
  rw [h, h2] at h1
  injection h1 with h1
  exact h1.symm
theorem sameB_self (p : PA) : sameB p p = true := sameB_true ⟨rfl, rfl, rfl, rfl, rfl, rfl⟩
set_option maxHeartbeats 16000000 in
set_option maxRecDepth 100000 in
theorem rsroutes_t (A A' : Option Addr) (c c' : Nat) (l l' : List RtS) (h : l.map RtS.q = l'.map RtS.q) (h1 : l.length ≤ 1000000) (hl : ∀ x ∈ l, Lim x.at_) (hl' : ∀ x ∈ l', Lim x.at_) :
    Tri Tryz.prog 42 [.slice A l.length c, .slice A' l'.length c'] [arr RtS.e 10 A l, arr RtS.e 10 A' l', inn (rtPs l), inn (rtPs l')] [] (fun _ : Unit => True) (fun _ => .bool true) (fun _ => []) := by
  have hlen : l.length = l'.length := by have := congrArg List.length h; rwa [List.length_map, List.length_map] at this
  refine Tri_of (N := Tryz.f42.ntmps) (c := bodyOf Tryz.f42) Tryz.func42 rfl rfl rfl rfl (fun w0 S0 => ?_)
  repeat' (first | refine SW ?_ | refine SD ?_ | exact HO_seg rfl rfl | refine S1 ?_ | (refine S2 ?_; intro _) | (refine S3 ?_; intro _ _) | (refine S4 ?_; intro _ _ _) | (refine HO_g 2 rfl ?_; (first | apply HO_and rfl rfl rfl rfl rfl rfl rfl rfl rfl | apply HO_or rfl rfl rfl rfl rfl rfl rfl rfl rfl)) | refine S5 ?_ | (intro hb; try replace hb := simB hb; try exact kill hb))
  refine HC_loop (α := Nat) (fun j => j ≤ l.length) (fun j => [(5, .int .i64 j), (0, .slice A l.length c), (1, .slice A' l'.length c')]) (fun _ => []) (fun j => l.length - j) rfl 0 (Nat.zero_le _) ⟨rfl, rfl, rfl, trivial⟩ rfl ?_
  intro j hj
  rcases Nat.lt_or_ge j l.length with hlt | hge
  · obtain ⟨x, hx⟩ : ∃ x, l[j]? = some x := ⟨l[j], List.getElem?_eq_getElem hlt⟩
    have hlt' : j < l'.length := by omega
    obtain ⟨y, hy⟩ : ∃ y, l'[j]? = some y := ⟨l'[j], List.getElem?_eq_getElem hlt'⟩
    have hq := map_q h hx hy
    have hxm := List.mem_of_getElem? hx
    have hym := List.mem_of_getElem? hy
    have hs := rsame_t x.at_ y.at_ (hl x hxm) (hl' y hym)
    have hpa : x.at_.pa = y.at_.pa := congrArg RtQ.p hq
    rw [hpa, sameB_self] at hs
    have q1 : x.r = y.r := congrArg RtQ.r hq
    have q2 : x.a = y.a := congrArg RtQ.a hq
    have q3 : x.n = y.n := congrArg RtQ.n hq
    have q4 : x.id = y.id := congrArg RtQ.id hq
    have sx := rt_src (src := [arr RtS.e 10 A l, arr RtS.e 10 A' l', inn (rtPs l), inn (rtPs l')]) 2 rfl hxm
    have sy := rt_src (src := [arr RtS.e 10 A l, arr RtS.e 10 A' l', inn (rtPs l), inn (rtPs l')]) 3 rfl hym
    obtain ⟨xr, xa, xn, xi, xat⟩ := x
    obtain ⟨yr, ya, yn, yi, yat⟩ := y
    simp only at q1 q2 q3 q4
    subst q1 q2 q3 q4
    repeat' (first | refine SW ?_ | refine SD ?_ | (refine HO_k 0 rfl ?_; refine HO_nneK nestKey flat65 agg65 rfl rfl rfl rfl rfl rdA ?_) | (refine HO_k 12 rfl ?_; refine HO_callq rfl rfl rfl rfl (hs) (fun _ _ => rfl) ((AllSrc.app sx sy)) rfl rfl sqA ?_) | exact HO_seg rfl rfl | refine S1 ?_ | (refine S2 ?_; intro _) | (refine S3 ?_; intro _ _) | (refine S4 ?_; intro _ _ _) | (refine HO_g 2 rfl ?_; (first | apply HO_and rfl rfl rfl rfl rfl rfl rfl rfl rfl | apply HO_or rfl rfl rfl rfl rfl rfl rfl rfl rfl)) | refine S5 ?_ | (intro hb; try replace hb := simB hb; try exact kill hb))
    exact HX_at (j + 1) ⟨hlt, by omega⟩ ⟨rfl, rfl, rfl, trivial⟩ rfl
  · obtain rfl : j = l.length := by omega
    repeat' (first | refine SW ?_ | refine SD ?_ | exact HO_seg rfl rfl | refine S1 ?_ | (refine S2 ?_; intro _) | (refine S3 ?_; intro _ _) | (refine S4 ?_; intro _ _ _) | (refine HO_g 2 rfl ?_; (first | apply HO_and rfl rfl rfl rfl rfl rfl rfl rfl rfl | apply HO_or rfl rfl rfl rfl rfl rfl rfl rfl rfl)) | refine S5 ?_ | (intro hb; try replace hb := simB hb; try exact kill hb))
    ((first | apply HX_ret | apply HX_retn); (repeat (first | exact Res_nil | apply Res_tmp rfl | apply Res_ce rfl rfl rfl)); unfold RetQ; refine ⟨(), trivial, ?_, Keeps.nil⟩)
    rfl
set_option maxHeartbeats 16000000 in
set_option maxRecDepth 100000 in
theorem rdsame_t (d d' : DuS) (e1 : d.t = d'.t) (e2 : d.id = d'.id) (e3 : d.peers = d'.peers) (e4 : d.routes.map RtS.q = d'.routes.map RtS.q) (hp : d.peers.length ≤ 1000000) (h1 : d.routes.length ≤ 1000000) (hl : ∀ x ∈ d.routes, Lim x.at_) (hl' : ∀ x ∈ d'.routes, Lim x.at_) :
    Tri Tryz.prog 12 [.agg d.e.toArray, .agg d'.e.toArray] (d.ro ++ d'.ro) [] (fun _ : Unit => True) (fun _ => .bool true) (fun _ => []) := by
  have hs := rsroutes_t d.rA d'.rA d.rc d'.rc d.routes d'.routes e4 h1 hl hl'
  obtain ⟨t, id, pA, pc, ps, rA, rc, rs⟩ := d
  obtain ⟨t', id', pA', pc', ps', rA', rc', rs'⟩ := d'
  simp only at e1 e2 e3
  subst e1 e2 e3
  simp only at hp hs
  refine Tri_of (N := Tryz.f12.ntmps) (c := bodyOf Tryz.f12) Tryz.func12 rfl rfl rfl rfl (fun w0 S0 => ?_)
  dsimp only [DuS.ro, DuS.e, List.cons_append, List.nil_append]
  repeat' (first | refine SW ?_ | refine SD ?_ | exact HO_seg rfl rfl | refine S1 ?_ | (refine S2 ?_; intro _) | (refine S3 ?_; intro _ _) | (refine S4 ?_; intro _ _ _) | (refine HO_g 2 rfl ?_; (first | apply HO_and rfl rfl rfl rfl rfl rfl rfl rfl rfl | apply HO_or rfl rfl rfl rfl rfl rfl rfl rfl rfl)) | refine S5 ?_ | (intro hb; try replace hb := simB hb; try exact kill hb))
  rename_i b1 b2
  refine HC_loop (α := Nat) (fun j => j ≤ ps.length) (fun j => [(5, .int .i64 j), (2, pt b1), (3, pt b2)]) (fun _ => [cel b2 26 [.int .i64 t, .int .u32 id, .slice pA' ps.length pc', .slice rA' rs'.length rc'], cel b1 26 [.int .i64 t, .int .u32 id, .slice pA ps.length pc, .slice rA rs.length rc]]) (fun j => ps.length - j) rfl 0 (Nat.zero_le _) ⟨rfl, rfl, rfl, trivial⟩ rfl ?_
  intro j hj
  dsimp only [pt]
  rcases Nat.lt_or_ge j ps.length with hlt | hge
  · obtain ⟨x, hx⟩ : ∃ x, ps[j]? = some x := ⟨ps[j], List.getElem?_eq_getElem hlt⟩
    repeat' (first | refine SW ?_ | refine SD ?_ | exact HO_seg rfl rfl | refine S1 ?_ | (refine S2 ?_; intro _) | (refine S3 ?_; intro _ _) | (refine S4 ?_; intro _ _ _) | (refine HO_g 2 rfl ?_; (first | apply HO_and rfl rfl rfl rfl rfl rfl rfl rfl rfl | apply HO_or rfl rfl rfl rfl rfl rfl rfl rfl rfl)) | refine S5 ?_ | (intro hb; try replace hb := simB hb; try exact kill hb))
    refine HC_cond rfl rfl (fun hb => ?_) (fun hb => ?_)
    · simp at hb
    · repeat' (first | refine SW ?_ | refine SD ?_ | exact HO_seg rfl rfl | refine S1 ?_ | (refine S2 ?_; intro _) | (refine S3 ?_; intro _ _) | (refine S4 ?_; intro _ _ _) | (refine HO_g 2 rfl ?_; (first | apply HO_and rfl rfl rfl rfl rfl rfl rfl rfl rfl | apply HO_or rfl rfl rfl rfl rfl rfl rfl rfl rfl)) | refine S5 ?_ | (intro hb; try replace hb := simB hb; try exact kill hb))
      exact HX_at (j + 1) ⟨hlt, by omega⟩ ⟨rfl, rfl, rfl, trivial⟩ rfl
  · obtain rfl : j = ps.length := by omega
    repeat' (first | refine SW ?_ | refine SD ?_ | (refine HO_k 12 rfl ?_; refine HO_callq rfl rfl rfl rfl (hs) (fun _ _ => rfl) ((AllSrc.at_ 1 rfl (AllSrc.at_ 4 rfl (AllSrc.at_ 2 rfl (AllSrc.at_ 5 rfl trivial))))) rfl rfl sqA ?_) | exact HO_seg rfl rfl | refine S1 ?_ | (refine S2 ?_; intro _) | (refine S3 ?_; intro _ _) | (refine S4 ?_; intro _ _ _) | (refine HO_g 2 rfl ?_; (first | apply HO_and rfl rfl rfl rfl rfl rfl rfl rfl rfl | apply HO_or rfl rfl rfl rfl rfl rfl rfl rfl rfl)) | refine S5 ?_ | (intro hb; try replace hb := simB hb; try exact kill hb))
    ((first | apply HX_ret | apply HX_retn); (repeat (first | exact Res_nil | apply Res_tmp rfl | apply Res_ce rfl rfl rfl)); unfold RetQ; refine ⟨(), trivial, ?_, Keeps.nil⟩)
    rfl
theorem rok_ap {w : Nat} {l r : List UInt8} (h : l.length = w) : rok w (false, l ++ r) = true := by
  unfold rok
  rw [Bool.and_eq_true, decide_eq_true_eq, List.length_append]
  exact ⟨rfl, by omega⟩
theorem rS_ap {w : Nat} {l r : List UInt8} (h : l.length = w) : rS w (false, l ++ r) = (false, r) := by
  unfold rS
  rw [if_pos (rok_ap h)]
  show (false, (l ++ r).drop w) = _
  rw [List.drop_left' h]
theorem rB_ap {w : Nat} {l r : List UInt8} (h : l.length = w) : rB w (false, l ++ r) = l := by
  unfold rB
  rw [if_pos (rok_ap h)]
  exact List.take_left' h
theorem rV_be {w v : Nat} {r : List UInt8} (hw : w ≤ 4) (hv : v < 256 ^ w) : rV w (false, be w v ++ r) = v := by
  unfold rV
  rw [if_pos (rok_ap (be_length w v))]
  have := ge_nb w hw (n := (v : Int)) (by unfold fitsB; simp only [Bool.and_eq_true, decide_eq_true_eq]; omega) r
  rw [Int.toNat_natCast] at this
  show ge ((be w v ++ r).take w) = v
  omega
theorem rS_be {w v : Nat} {r : List UInt8} : rS w (false, be w v ++ r) = (false, r) := rS_ap (be_length w v)
theorem peL_put : ∀ (ps acc : List PeS) (r : List UInt8), (∀ p ∈ ps, (p.id < 4294967296 ∧ p.ad < 4294967296) ∧ fit4 p.as_ = true) → peL ps.length acc (false, ps.flatMap peB ++ r) = some (acc ++ ps, (false, r)) := by
  intro ps
  induction ps with
  | nil => intro acc r _; show some (acc, (false, r)) = _; rw [List.append_nil]
  | cons p ps ih =>
    intro acc r h
    obtain ⟨⟨h1, h2⟩, h3⟩ := h p List.mem_cons_self
    have h3 := fit4_iff.1 h3
    have e : (p :: ps).flatMap peB ++ r = be 1 2 ++ (be 4 p.id ++ (be 4 p.ad ++ (be 4 p.as_.toNat ++ (ps.flatMap peB ++ r)))) := by
      rw [List.flatMap_cons]
      unfold peB
      simp only [List.append_assoc]
    rw [e]
    show (if rV 1 _ = 2 then _ else _) = _
    rw [rV_be (by decide) (by decide), if_pos rfl, rS_be, rV_be (by decide) (by omega), rS_be, rV_be (by decide) (by omega), rS_be, rV_be (by decide) (by omega), rS_be, ih _ _ fun x hx => h x (List.mem_cons_of_mem _ hx)]
    have e2 : (⟨p.id, p.ad, ((p.as_.toNat : Nat) : Int)⟩ : PeS) = p := by
      obtain ⟨i, a, n⟩ := p
      simp only at h3 ⊢
      congr 1
      omega
    rw [e2, List.append_assoc]
    rfl
theorem peersM_put {id : Nat} {ps acc : List PeS} (hi : id < 4294967296) (hl : ps.length ≤ 16) (h : ∀ p ∈ ps, (p.id < 4294967296 ∧ p.ad < 4294967296) ∧ fit4 p.as_ = true) : peersM acc (false, peersB id ps) = some (id, acc ++ ps, (false, [])) := by
  unfold peersM peersB
  rw [rS_be, rV_be (by decide) (by first | omega | decide), rS_be, rV_be (by decide) (by first | omega | decide), rS_be, if_neg (by omega), rV_be (by decide) (by first | omega | decide)]
  have := peL_put ps acc [] h
  rw [List.append_nil] at this
  rw [this]
theorem routeM_put {t m a : Nat} {n : Int} {x : RtS} {r : List UInt8} (hx : RtOk x) (ha : x.a = a) (hn : x.n = n) (ht : t < 4294967296) (hm : m + 1 ≤ 16384) : routeM t m a n (false, rtB t x ++ r) = some (x.q, (false, r)) := by
  have hle := hx.le
  have hok : OkP 4 x.at_.pa := okP_of (w := 4) hx.w.n (by have := hx.o; rw [ok_pa] at this; exact this)
  have hr := hx.r
  have hi := hx.i
  have e : rtB t x ++ r = be 2 x.r.toNat ++ (be 4 t ++ (be 4 x.id.toNat ++ (be 2 (putB 4 x.at_.pa).length ++ (putB 4 x.at_.pa ++ r)))) := by
    unfold rtB
    simp only [List.append_assoc]
  rw [e]
  unfold routeM
  simp only
  rw [rS_be, rS_be, rS_be, rV_be (w := 2) (by decide) (by omega), rV_be (w := 4) (by decide) (by omega), rV_be (w := 4) (by decide) (by omega), rV_be (w := 2) (by decide) (by omega), rS_be, rB_ap rfl, rS_ap rfl, get_put 4 (by decide) _ hok, if_pos ⟨rfl, rfl, hm⟩]
  subst ha hn
  unfold RtS.q
  congr 3 <;> omega
theorem rtA_put {t a : Nat} {n : Int} (ht : t < 4294967296) : ∀ (l : List RtS) (acc : List RtQ) (r : List UInt8), (∀ x ∈ l, RtOk x ∧ x.a = a ∧ x.n = n) → acc.length + l.length ≤ 16384 → rtA l.length t acc a n (false, l.flatMap (rtB t) ++ r) = some (acc ++ l.map RtS.q, (false, r)) := by
  intro l
  induction l with
  | nil => intro acc r _ _; show some (acc, (false, r)) = _; rw [List.map_nil, List.append_nil]
  | cons x l ih =>
    intro acc r h hl
    simp only [List.length_cons] at hl
    obtain ⟨h1, h2, h3⟩ := h x List.mem_cons_self
    rw [List.length_cons, rtA_succ, List.flatMap_cons, List.append_assoc, routeM_put h1 h2 h3 ht (by omega)]
    show rtA _ _ _ _ _ _ = _
    rw [ih _ _ (fun y hy => h y (List.mem_cons_of_mem _ hy)) (by rw [List.length_append, List.length_singleton]; omega), List.append_assoc]
    rfl
theorem rS_1 {k : Nat} {r : List UInt8} : rS 1 (false, UInt8.ofNat k :: r) = (false, r) := rS_ap (l := [UInt8.ofNat k]) rfl
theorem rV_1 {k : Nat} {r : List UInt8} (hk : k ≤ 32) : rV 1 (false, UInt8.ofNat k :: r) = k := by
  have := rV_be (w := 1) (v := k) (r := r) (by decide) (by omega)
  rw [show be 1 k = [UInt8.ofNat k] by simp [be]] at this
  exact this
theorem routesM_put {t k : Nat} {y : RtS} {l : List RtS} {acc : List RtQ} (ht : t < 4294967296) (hk : k < 4294967296) (h : ∀ x ∈ y :: l, RtOk x ∧ x.a = y.a ∧ x.n = y.n) (hl : acc.length + (y :: l).length ≤ 16384) :
    routesM t k acc (false, rtsB t k (y :: l)) = some (acc ++ (y :: l).map RtS.q, (false, [])) := by
  obtain ⟨hy, -, -⟩ := h y List.mem_cons_self
  have hp := hy.p
  have ha := hy.w.a
  obtain ⟨n0, n1⟩ := okX_len hp
  obtain ⟨nn, hnn⟩ : ∃ nn : Nat, y.n = nn := ⟨y.n.toNat, by omega⟩
  rw [hnn] at hp n1
  have hg := (pfG_pfB y.a nn ha hp []).1
  rw [List.append_nil] at hg
  have hpl : ((be 4 y.a).take ((nn + 7) / 8)).length = (nn + 7) / 8 := by rw [List.length_take, be_length]; omega
  have e : rtsB t k (y :: l) = be 4 k ++ (UInt8.ofNat nn :: ((be 4 y.a).take ((nn + 7) / 8) ++ (be 2 (y :: l).length ++ ((y :: l).flatMap (rtB t) ++ [])))) := by
    unfold rtsB pfB
    simp only [hnn, Int.toNat_natCast, List.append_nil, List.cons_append]
  rw [e]
  unfold routesM
  simp only
  rw [rS_be, rS_1, rV_1 (by omega), rV_be (by decide) (by omega), rS_ap hpl, rB_ap hpl]
  unfold pfB at hg
  rw [hg]
  simp only
  simp only [List.length_cons] at hl
  have hlen : (y :: l).length < 65536 := by simp only [List.length_cons]; omega
  rw [rV_be (w := 2) (by decide) (by omega), rS_be, if_pos ⟨trivial, by simp⟩]
  exact rtA_put ht (y :: l) acc [] (fun x hx => by obtain ⟨h1, h2, h3⟩ := h x hx; exact ⟨h1, h2, by rw [h3, hnn]⟩) (by simp only [List.length_cons]; omega)
theorem recB_parts {t kind : Nat} {body rest : List UInt8} : recB t kind body ++ rest = be 4 t ++ (be 2 13 ++ (be 2 kind ++ (be 4 body.length ++ (body ++ rest)))) := by
  unfold recB
  simp only [List.append_assoc]
theorem recM_first {t id : Nat} {ps : List PeS} {rest : List UInt8} {x : MSt} (ht : t < 4294967296) (hi : id < 4294967296) (hx : x.peers = []) (hl : ps.length ≤ 16) (h : ∀ p ∈ ps, (p.id < 4294967296 ∧ p.ad < 4294967296) ∧ fit4 p.as_ = true) :
    recM true x (false, recB t 1 (peersB id ps) ++ rest) = some (⟨t, id, ps, x.routes, x.n⟩, (false, rest)) := by
  have hb : (peersB id ps).length < 4294967296 := by rw [peersB_len]; omega
  rw [recB_parts]
  unfold recM
  simp only
  rw [rS_be, rS_be, rS_be, rS_be, rV_be (w := 4) (by decide) (by omega), rV_be (w := 2) (by decide) (by decide), rV_be (w := 2) (by decide) (by decide), rV_be (w := 4) (by decide) (by omega), rS_ap rfl, rB_ap rfl, if_neg (by simp), if_pos trivial, if_pos rfl, peersM_put hi hl h]
  simp [hx]
theorem recM_next {t k : Nat} {y : RtS} {l : List RtS} {rest : List UInt8} {x : MSt} (ht : t < 4294967296) (hk : k < 4294967296) (hxt : x.t = t) (hxn : x.n = k) (h : ∀ x ∈ y :: l, RtOk x ∧ x.a = y.a ∧ x.n = y.n) (hl : x.routes.length + (y :: l).length ≤ 16384) (hb : (rtsB t k (y :: l)).length < 4294967296) :
    recM false x (false, recB t 8 (rtsB t k (y :: l)) ++ rest) = some (⟨t, x.id, x.peers, x.routes ++ (y :: l).map RtS.q, x.n + 1⟩, (false, rest)) := by
  rw [recB_parts]
  unfold recM
  simp only
  rw [rS_be, rS_be, rS_be, rS_be, rV_be (w := 4) (by decide) (by omega), rV_be (w := 2) (by decide) (by decide), rV_be (w := 2) (by decide) (by decide), rV_be (w := 4) (by decide) (by omega), rS_ap rfl, rB_ap rfl, if_neg (by simp [hxt]), if_neg (by simp), if_pos rfl, hxn, routesM_put ht hk h hl]
  simp
theorem cut_same (y : RtS) (r : List RtS) : ∃ l, (y :: r).take (cutN (y :: r)) = y :: l ∧ ∀ x ∈ y :: l, x ∈ y :: r ∧ x.a = y.a ∧ x.n = y.n := by
  have e : (y :: r).take (cutN (y :: r)) = (y :: r).takeWhile fun x => sameP x y := by
    conv => lhs; arg 2; rw [← List.takeWhile_append_dropWhile (p := fun x => sameP x y) (l := y :: r)]
    exact List.take_left
  rw [e]
  refine ⟨r.takeWhile fun x => sameP x y, ?_, ?_⟩
  · simp only [List.takeWhile_cons, sameP_self y, if_true]
  · intro x hx
    have hx : x ∈ (y :: r).takeWhile fun x => sameP x y := by
      simp only [List.takeWhile_cons, sameP_self y, if_true]
      exact hx
    have h1 := (List.takeWhile_sublist _).subset hx
    have h2 : sameP x y = true := by
      have := List.all_takeWhile (p := fun x => sameP x y) (l := y :: r)
      exact List.all_eq_true.1 this x hx
    unfold sameP at h2
    rw [Bool.and_eq_true, decide_eq_true_eq, decide_eq_true_eq] at h2
    exact ⟨h1, by omega, h2.2⟩
theorem getF_put {t : Nat} (ht : t < 4294967296) : ∀ (f : Nat) (l : List RtS) (k : Nat) (x : MSt), l.length < f → (∀ y ∈ l, RtOk y) → k + l.length ≤ 16384 → x.routes.length + l.length ≤ 16384 → (grpR t k l).length < 4294967296 → x.t = t → x.n = k →
    ∃ n, getF false x (false, grpR t k l) = some ⟨t, x.id, x.peers, x.routes ++ l.map RtS.q, n⟩ := by
  intro f
  induction f with
  | zero => intro l k x h; omega
  | succ f ih =>
    intro l k x h ho hk hr hb hxt hxn
    cases l with
    | nil =>
      refine ⟨x.n, ?_⟩
      rw [getF_eq, grpR_nil, if_pos ⟨rfl, rfl⟩, List.map_nil, List.append_nil, ← hxt]
    | cons y r =>
      obtain ⟨l, hl, hsame⟩ := cut_same y r
      have hlen : (y :: l).length + ((y :: r).drop (cutN (y :: r))).length = (y :: r).length := by
        rw [← hl, ← List.length_append, List.take_append_drop]
      rw [grpR_cons, hl] at hb ⊢
      rw [List.length_append, recB_len] at hb
      obtain ⟨rest, hrest⟩ : ∃ q, (y :: r).drop (cutN (y :: r)) = q := ⟨_, rfl⟩
      rw [hrest] at hlen hb ⊢
      have hm := recM_next (rest := grpR t (k + 1) rest) (x := x) ht (show k < 4294967296 by omega) hxt hxn (fun z hz => ⟨ho z (hsame z hz).1, (hsame z hz).2⟩) (by omega) (by omega)
      have hne : recB t 8 (rtsB t k (y :: l)) ++ grpR t (k + 1) rest ≠ [] := by
        intro he
        have := congrArg List.length he
        rw [List.length_append, recB_len] at this
        simp only [List.length_nil] at this
        omega
      simp only [List.length_cons] at hlen h hr hk
      obtain ⟨n, hn⟩ := ih rest (k + 1) ⟨t, x.id, x.peers, x.routes ++ (y :: l).map RtS.q, x.n + 1⟩ (by omega) (fun z hz => ho z (by rw [← hrest] at hz; exact List.mem_of_mem_drop hz)) (by omega) (by simp only [List.length_append, List.length_map, List.length_cons]; omega) (by omega) rfl (by simp only; omega)
      refine ⟨n, ?_⟩
      rw [getF_eq, if_neg (fun he => hne he.2), hm]
      simp only at hn ⊢
      rw [hn, List.append_assoc, ← List.map_append, ← hrest, ← hl, List.take_append_drop]
/-- what was put is parsed to what was put -/
theorem getM_put {d : DuS} (hd : DuW d) (h : chkM d = true) : ∃ n, getM (putD d) = some { d.m with n := n } := by
  obtain ⟨p1, p2, p3, p4, p5⟩ := ok_of hd h
  have hpl := putD_len hd h
  have ht := fit4_iff.1 p1
  have et : d.t = ((d.t.toNat : Nat) : Int) := by omega
  have hps : ∀ p ∈ d.peers, (p.id < 4294967296 ∧ p.ad < 4294967296) ∧ fit4 p.as_ = true := fun p hp => ⟨hd.p p hp, p4 p hp⟩
  unfold putD at hpl ⊢
  rw [List.length_append, recB_len] at hpl
  obtain ⟨n, hn⟩ := getF_put (t := d.t.toNat) (by omega) (d.routes.length + 1) d.routes 0 ⟨d.t.toNat, d.id, d.peers, [], 0⟩ (by omega) p5 (by omega) (by simp only [List.length_nil]; omega) (by omega) rfl rfl
  refine ⟨n, ?_⟩
  unfold getM
  rw [getF_eq, if_neg (by intro h; cases h.1), recM_first (by omega) hd.i rfl p2 hps]
  simp only at hn ⊢
  rw [hn, List.nil_append, ← et]
  rfl
/-- what was put is got -/
theorem getD_put {d : DuS} (hd : DuW d) (h : chkM d = true) : ∃ m, getD (putD d) = some m ∧ m.t = d.t ∧ m.id = d.id ∧ m.peers = d.peers ∧ m.routes = d.routes.map RtS.q := by
  obtain ⟨n, hn⟩ := getM_put hd h
  refine ⟨{ d.m with n := n }, ?_, rfl, rfl, rfl, rfl⟩
  unfold getD
  rw [hn, pickD_some, chkQ_n, putQ_n, ← chkM_q, ← putD_q, if_pos ⟨h, rfl⟩]
theorem dsame_t (d d' : DuS) (hW : DuW d) (hW' : DuW d') (h : d.t = d'.t ∧ d.id = d'.id ∧ d.peers = d'.peers ∧ d.routes.map RtS.q = d'.routes.map RtS.q) :
    Tri Tryz.prog 12 [.agg d.e.toArray, .agg d'.e.toArray] (d.ro ++ d'.ro) [] (fun _ : Unit => True) (fun _ => .bool true) (fun _ => []) :=
  rdsame_t d d' h.1 h.2.1 h.2.2.1 h.2.2.2 hW.pl hW.rl (fun x hx => (hW.r x hx).l) (fun x hx => (hW'.r x hx).l)
theorem getD_spec {b : List UInt8} {m : MSt} (h : getD b = some m) : chkQ m = true ∧ b = putQ m := by
  unfold getD at h
  cases hm : getM b with
  | none => rw [hm] at h; cases h
  | some x =>
    rw [hm, pickD_some] at h
    split at h
    · rename_i hc
      injection h with h
      subst h
      exact hc
    · cases h
set_option maxHeartbeats 64000000 in
set_option maxRecDepth 100000 in
theorem mputs_t (d : DuS) (hv : DuV d) : Tri Tryz.prog 3 [.agg d.e.toArray] d.ro [] (fun _ : Unit => True) (fun _ => .bool true) (fun _ => []) := by
  have hla := rlargeM_t d
  cases hbig : bigM d
  rotate_left
  · rw [hbig] at hla
    refine Tri_of (N := Tryz.f3.ntmps) (c := bodyOf Tryz.f3) Tryz.func3 rfl rfl rfl rfl (fun w0 S0 => ?_)
    dsimp only [DuS.ro, DuS.e] at hla ⊢
    repeat' (first | refine SW ?_ | refine SD ?_ | (refine HO_k 12 rfl ?_; refine HO_callq rfl rfl rfl rfl (hla) (fun _ _ => rfl) (srcsA) rfl rfl sqA ?_) | (refine HO_k 12 rfl ?_; refine HO_callq rfl rfl rfl rfl (mlives_t) (fun _ _ => rfl) (trivial) rfl rfl sqA ?_) | exact HO_seg rfl rfl | refine S1 ?_ | (refine S2 ?_; intro _) | (refine S3 ?_; intro _ _) | (refine S4 ?_; intro _ _ _) | (refine HO_g 2 rfl ?_; (first | apply HO_and rfl rfl rfl rfl rfl rfl rfl rfl rfl | apply HO_or rfl rfl rfl rfl rfl rfl rfl rfl rfl)) | refine S5 ?_ | (intro hb; try replace hb := simB hb; try exact kill hb))
    ((first | apply HX_ret | apply HX_retn); (repeat (first | exact Res_nil | apply Res_tmp rfl | apply Res_ce rfl rfl rfl)); unfold RetQ; refine ⟨(), trivial, ?_, Keeps.nil⟩)
    rfl
  rw [hbig] at hla
  obtain ⟨hW, hn⟩ := hv.w hbig
  have hck := rcheckM_t d hW
  have hmc := mcheck_t d hW
  cases hk : chkM d
  · rw [hk] at hck hmc
    have hput := mput_bad d hW hk
    refine Tri_of (N := Tryz.f3.ntmps) (c := bodyOf Tryz.f3) Tryz.func3 rfl rfl rfl rfl (fun w0 S0 => ?_)
    dsimp only [DuS.ro, DuS.e] at hla hck hmc hput ⊢
    repeat' (first | refine SW ?_ | ((refine HO_g 2 rfl ?_); (refine HO_skip rfl rfl rfl rfl rdA ?_)) | refine SD ?_ | (refine HO_k 12 rfl ?_; refine HO_callq rfl rfl rfl rfl (hla) (fun _ _ => rfl) (srcsA) rfl rfl sqA ?_) | (refine HO_k 12 rfl ?_; refine HO_callq rfl rfl rfl rfl (hck) (fun _ _ => rfl) (srcsA) rfl rfl sqA ?_) | (refine HO_k 12 rfl ?_; refine HO_callq rfl rfl rfl rfl (hmc) (fun _ _ => rfl) (srcsA) rfl rfl sqA ?_) | (refine HO_k 12 rfl ?_; refine HO_callq rfl rfl rfl rfl (mlives_t) (fun _ _ => rfl) (trivial) rfl rfl sqA ?_) | (refine HO_k 12 rfl ?_; refine HO_callq rfl rfl rfl rfl (hput) (fun _ _ => rfl) (srcsA) rfl rfl sqA ?_) | exact HO_seg rfl rfl | refine S1 ?_ | (refine S2 ?_; intro _) | (refine S3 ?_; intro _ _) | (refine S4 ?_; intro _ _ _) | (refine HO_g 2 rfl ?_; (first | apply HO_and rfl rfl rfl rfl rfl rfl rfl rfl rfl | apply HO_or rfl rfl rfl rfl rfl rfl rfl rfl rfl)) | refine S5 ?_ | (intro hb; try replace hb := simB hb; try exact kill hb))
    ((first | apply HX_ret | apply HX_retn); (repeat (first | exact Res_nil | apply Res_tmp rfl | apply Res_ce rfl rfl rfl)); unfold RetQ; refine ⟨(), trivial, ?_, Keeps.nil⟩)
    rfl
  rw [hk] at hck hmc
  have hput := mput_t d hW hv.c hk
  have hrp := rput35_t d hW hk
  have hle := putD_len hW hk
  obtain ⟨m, hg, g1, g2, g3, g4⟩ := getD_put hW hk
  obtain ⟨bs, hbs⟩ : ∃ bs, putD d = bs := ⟨_, rfl⟩
  rw [hbs] at hput hrp hle hg
  have hget := fun A c => mget_ok A c bs (by omega) m hg
  have hsm : ∀ y : DuS, ((y.t = m.t ∧ y.id = m.id ∧ y.peers = m.peers ∧ y.routes.map RtS.q = m.routes) ∧ y.routes.length ≤ y.rc ∧ DuW y) → Tri Tryz.prog 12 [.agg y.e.toArray, .agg d.e.toArray] (y.ro ++ d.ro) [] (fun _ : Unit => True) (fun _ => .bool true) (fun _ => []) :=
    fun y hy => dsame_t y d hy.2.2 hW ⟨hy.1.1.trans g1, hy.1.2.1.trans g2, hy.1.2.2.1.trans g3, hy.1.2.2.2.trans g4⟩
  have hstr : (ByteArray.toList ⟨bs.toArray⟩ == ByteArray.toList ⟨bs.toArray⟩) = true := beq_self_eq_true _
  refine Tri_of (N := Tryz.f3.ntmps) (c := bodyOf Tryz.f3) Tryz.func3 rfl rfl rfl rfl (fun w0 S0 => ?_)
  dsimp only [DuS.ro, DuS.e, List.cons_append, List.nil_append] at hla hck hmc hput hrp hget hsm ⊢
  repeat' (first | refine SW ?_ | ((refine HO_g 2 rfl ?_); (refine HO_skip rfl rfl rfl rfl rdA ?_)) | refine SD ?_ | refine HC_lex rfl rfl (by decide +kernel) rfl rfl ?_ | (with_reducible refine HO_rw (congrArg Value.bool hstr) ?_) | (refine HO_k 12 rfl ?_; refine HO_callq rfl rfl rfl rfl (hla) (fun _ _ => rfl) (srcsA) rfl rfl sqA ?_) | (refine HO_k 12 rfl ?_; refine HO_callq rfl rfl rfl rfl (hck) (fun _ _ => rfl) (srcsA) rfl rfl sqA ?_) | (refine HO_k 12 rfl ?_; refine HO_callq rfl rfl rfl rfl (hmc) (fun _ _ => rfl) (srcsA) rfl rfl sqA ?_) | (refine HO_k 12 rfl ?_; refine HO_callq rfl rfl rfl rfl (mlives_t) (fun _ _ => rfl) (trivial) rfl rfl sqA ?_) | (refine HO_k 12 rfl ?_; refine HO_call rfl rfl rfl rfl (hput) rfl (srcsA) rfl rfl soA ?_; intro ⟨x1, c1⟩ g1; dsimp only [List.cons_append, List.nil_append]) | (refine HO_k 12 rfl ?_; refine HO_call rfl rfl rfl rfl (hget x1 c1) rfl (srcsA) rfl rfl soA ?_; intro y hy; dsimp only [DuS.ro, DuS.e, List.cons_append, List.nil_append]) | (refine HO_k 12 rfl ?_; refine HO_call rfl rfl rfl rfl (hrp) rfl (srcsA) rfl rfl soA ?_; intro ⟨x2, c2⟩ g2; dsimp only [List.cons_append, List.nil_append]) | (refine HO_k 12 rfl ?_; refine HO_callq rfl rfl rfl rfl (hsm y hy) (fun _ _ => rfl) (srcsA) rfl rfl sqA ?_) | (refine HO_k 7 rfl ?_; (first | (refine HO_holdOM 0 rfl rfl ?_; refine HO_b2sr (l := bs) 0 rfl rfl rfl rfl rfl rfl rfl rdA ?_) | (refine HO_holdOM 1 rfl rfl ?_; refine HO_b2sr (l := bs) 0 rfl rfl rfl rfl rfl rfl rfl rdA ?_) | (refine HO_holdOM 2 rfl rfl ?_; refine HO_b2sr (l := bs) 0 rfl rfl rfl rfl rfl rfl rfl rdA ?_) | (refine HO_holdOM 3 rfl rfl ?_; refine HO_b2sr (l := bs) 0 rfl rfl rfl rfl rfl rfl rfl rdA ?_) | (refine HO_holdOM 4 rfl rfl ?_; refine HO_b2sr (l := bs) 0 rfl rfl rfl rfl rfl rfl rfl rdA ?_) | (refine HO_holdOM 5 rfl rfl ?_; refine HO_b2sr (l := bs) 0 rfl rfl rfl rfl rfl rfl rfl rdA ?_) | (refine HO_holdOM 6 rfl rfl ?_; refine HO_b2sr (l := bs) 0 rfl rfl rfl rfl rfl rfl rfl rdA ?_) | (refine HO_holdOM 7 rfl rfl ?_; refine HO_b2sr (l := bs) 0 rfl rfl rfl rfl rfl rfl rfl rdA ?_) | (refine HO_holdOM 8 rfl rfl ?_; refine HO_b2sr (l := bs) 0 rfl rfl rfl rfl rfl rfl rfl rdA ?_) | (refine HO_holdOM 9 rfl rfl ?_; refine HO_b2sr (l := bs) 0 rfl rfl rfl rfl rfl rfl rfl rdA ?_) | (refine HO_holdOM 10 rfl rfl ?_; refine HO_b2sr (l := bs) 0 rfl rfl rfl rfl rfl rfl rfl rdA ?_) | (refine HO_holdOM 11 rfl rfl ?_; refine HO_b2sr (l := bs) 0 rfl rfl rfl rfl rfl rfl rfl rdA ?_) | (refine HO_holdOM 12 rfl rfl ?_; refine HO_b2sr (l := bs) 0 rfl rfl rfl rfl rfl rfl rfl rdA ?_) | (refine HO_holdOM 13 rfl rfl ?_; refine HO_b2sr (l := bs) 0 rfl rfl rfl rfl rfl rfl rfl rdA ?_))) | exact HO_seg rfl rfl | refine S1 ?_ | (refine S2 ?_; intro _) | (refine S3 ?_; intro _ _) | (refine S4 ?_; intro _ _ _) | (refine HO_g 2 rfl ?_; (first | apply HO_and rfl rfl rfl rfl rfl rfl rfl rfl rfl | apply HO_or rfl rfl rfl rfl rfl rfl rfl rfl rfl)) | refine S5 ?_ | (intro hb; try replace hb := simB hb; try exact kill hb))
  ((first | apply HX_ret | apply HX_retn); (repeat (first | exact Res_nil | apply Res_tmp rfl | apply Res_ce rfl rfl rfl)); unfold RetQ; refine ⟨(), trivial, ?_, Keeps.nil⟩)
  rfl
set_option maxHeartbeats 64000000 in
set_option maxRecDepth 100000 in
theorem mgets_t (A : Option Addr) (c : Nat) (bs : List UInt8) : Tri Tryz.prog 4 [.slice A bs.length c] [arr bE 1 A bs] [] (fun _ : Unit => True) (fun _ => .bool true) (fun _ => []) := by
  by_cases h1 : 3000 < bs.length
  · refine Tri_of (N := Tryz.f4.ntmps) (c := bodyOf Tryz.f4) Tryz.func4 rfl rfl rfl rfl (fun w0 S0 => ?_)
    repeat' (first | refine SW ?_ | refine SD ?_ | (refine HO_k 12 rfl ?_; refine HO_callq rfl rfl rfl rfl (mlives_t) (fun _ _ => rfl) (trivial) rfl rfl sqA ?_) | exact HO_seg rfl rfl | refine S1 ?_ | (refine S2 ?_; intro _) | (refine S3 ?_; intro _ _) | (refine S4 ?_; intro _ _ _) | (refine HO_g 2 rfl ?_; (first | apply HO_and rfl rfl rfl rfl rfl rfl rfl rfl rfl | apply HO_or rfl rfl rfl rfl rfl rfl rfl rfl rfl)) | refine S5 ?_ | (intro hb; try replace hb := simB hb; try exact kill hb))
    ((first | apply HX_ret | apply HX_retn); (repeat (first | exact Res_nil | apply Res_tmp rfl | apply Res_ce rfl rfl rfl)); unfold RetQ; refine ⟨(), trivial, ?_, Keeps.nil⟩)
    rfl
  have hq := qget_t A c bs (by omega)
  cases hg : getD bs with
  | none =>
    rw [hg] at hq
    have hget := mget_bad A c bs (by omega) hg
    have hsm := dsame_t zDu zDu zDu_w zDu_w ⟨rfl, rfl, rfl, rfl⟩
    refine Tri_of (N := Tryz.f4.ntmps) (c := bodyOf Tryz.f4) Tryz.func4 rfl rfl rfl rfl (fun w0 S0 => ?_)
    dsimp only [zDu, DuS.ro, DuS.e, List.cons_append, List.nil_append, List.length_nil] at hsm ⊢
    repeat' (first | refine SW ?_ | ((refine HO_g 2 rfl ?_); (refine HO_skip rfl rfl rfl rfl rdA ?_)) | refine SD ?_ | (refine HO_k 12 rfl ?_; refine HO_callq rfl rfl rfl rfl (hget) (fun _ _ => rfl) (srcsA) rfl rfl sqA ?_) | (refine HO_k 12 rfl ?_; refine HO_call rfl rfl rfl rfl (hq) rfl (srcsA) rfl rfl soA ?_; intro y hy; have hy : y = zDu := hy; subst hy; dsimp only [zDu, DuS.ro, DuS.e, List.length_nil, Option.isSome, List.cons_append, List.nil_append]) | (refine HO_k 12 rfl ?_; refine HO_callq rfl rfl rfl rfl (mlives_t) (fun _ _ => rfl) (trivial) rfl rfl sqA ?_) | (refine HO_k 12 rfl ?_; refine HO_callq rfl rfl rfl rfl (hsm) (fun _ _ => rfl) (srcsB) rfl rfl sqA ?_) | (refine HO_k 12 rfl ?_; refine HO_call rfl rfl rfl rfl (lzero_t) rfl (trivial) rfl rfl soA ?_; intro ⟨x1, c1⟩ g1; dsimp only [List.cons_append, List.nil_append]) | exact HO_seg rfl rfl | refine S1 ?_ | (refine S2 ?_; intro _) | (refine S3 ?_; intro _ _) | (refine S4 ?_; intro _ _ _) | (refine HO_g 2 rfl ?_; (first | apply HO_and rfl rfl rfl rfl rfl rfl rfl rfl rfl | apply HO_or rfl rfl rfl rfl rfl rfl rfl rfl rfl)) | refine S5 ?_ | (intro hb; try replace hb := simB hb; try exact kill hb))
    ((first | apply HX_ret | apply HX_retn); (repeat (first | exact Res_nil | apply Res_tmp rfl | apply Res_ce rfl rfl rfl)); unfold RetQ; refine ⟨(), trivial, ?_, Keeps.nil⟩)
    rfl
  | some m =>
    rw [hg] at hq
    have hget := mget_ok A c bs (by omega) m hg
    obtain ⟨hck, hpq⟩ := getD_spec hg
    have hput : ∀ y : DuS, ((y.t = m.t ∧ y.id = m.id ∧ y.peers = m.peers ∧ y.routes.map RtS.q = m.routes) ∧ y.routes.length ≤ y.rc ∧ DuW y) → Tri Tryz.prog 7 [.agg y.e.toArray] y.ro [] (fun _ : OA => True) (fun x => .tuple #[.slice x.1 bs.length x.2, .int .i64 0]) (fun x => [ownB x bs]) := fun y hy => by
      obtain ⟨⟨h1, h2, h3, h4⟩, h5, h6⟩ := hy
      have hm : y.m = { m with n := 0 } := by
        show (⟨y.t, y.id, y.peers, y.routes.map RtS.q, 0⟩ : MSt) = _
        rw [h1, h2, h3, h4]
      have := mput_t y h6 h5 (by rw [chkM_q, hm]; exact hck)
      rw [show putD y = bs by rw [putD_q, hm, hpq]; rfl] at this
      exact this
    have hsm : ∀ y z : DuS, ((y.t = m.t ∧ y.id = m.id ∧ y.peers = m.peers ∧ y.routes.map RtS.q = m.routes) ∧ y.routes.length ≤ y.rc ∧ DuW y) → QR (some m) z → Tri Tryz.prog 12 [.agg y.e.toArray, .agg z.e.toArray] (y.ro ++ z.ro) [] (fun _ : Unit => True) (fun _ => .bool true) (fun _ => []) :=
      fun y z hy hz => dsame_t y z hy.2.2 hz.2 ⟨hy.1.1.trans hz.1.1.symm, hy.1.2.1.trans hz.1.2.1.symm, hy.1.2.2.1.trans hz.1.2.2.1.symm, hy.1.2.2.2.trans hz.1.2.2.2.symm⟩
    have hstr : (ByteArray.toList ⟨bs.toArray⟩ == ByteArray.toList ⟨bs.toArray⟩) = true := beq_self_eq_true _
    refine Tri_of (N := Tryz.f4.ntmps) (c := bodyOf Tryz.f4) Tryz.func4 rfl rfl rfl rfl (fun w0 S0 => ?_)
    dsimp only [DuS.ro, DuS.e, List.cons_append, List.nil_append, Option.isSome] at hget hq hput hsm ⊢
    repeat' (first | refine SW ?_ | ((refine HO_g 2 rfl ?_); (refine HO_skip rfl rfl rfl rfl rdA ?_)) | refine SD ?_ | (with_reducible refine HO_rw (congrArg Value.bool hstr) ?_) | (refine HO_k 12 rfl ?_; refine HO_call rfl rfl rfl rfl (hget) rfl (srcsA) rfl rfl soA ?_; intro y hy; dsimp only [DuS.ro, DuS.e, List.cons_append, List.nil_append]) | (refine HO_k 12 rfl ?_; refine HO_call rfl rfl rfl rfl (hq) rfl (srcsA) rfl rfl soA ?_; intro z hz; dsimp only [DuS.ro, DuS.e, List.cons_append, List.nil_append]) | (refine HO_k 12 rfl ?_; refine HO_callq rfl rfl rfl rfl (mlives_t) (fun _ _ => rfl) (trivial) rfl rfl sqA ?_) | (refine HO_k 12 rfl ?_; refine HO_callq rfl rfl rfl rfl (hsm y z hy hz) (fun _ _ => rfl) (srcsA) rfl rfl sqA ?_) | (refine HO_k 12 rfl ?_; refine HO_call rfl rfl rfl rfl (hput y hy) rfl (srcsA) rfl rfl soA ?_; intro ⟨x1, c1⟩ g1; dsimp only [List.cons_append, List.nil_append]) | (refine HO_k 7 rfl ?_; (first | refine HO_b2sa (l := bs) 0 rfl rfl rfl rfl rfl rfl rdA ?_ | refine HO_b2sa (l := bs) 1 rfl rfl rfl rfl rfl rfl rdA ?_ | refine HO_b2sa (l := bs) 2 rfl rfl rfl rfl rfl rfl rdA ?_ | refine HO_b2sa (l := bs) 3 rfl rfl rfl rfl rfl rfl rdA ?_ | refine HO_b2sa (l := bs) 4 rfl rfl rfl rfl rfl rfl rdA ?_ | refine HO_b2sa (l := bs) 5 rfl rfl rfl rfl rfl rfl rdA ?_ | refine HO_b2sa (l := bs) 6 rfl rfl rfl rfl rfl rfl rdA ?_ | refine HO_b2sa (l := bs) 7 rfl rfl rfl rfl rfl rfl rdA ?_ | refine HO_b2sk (l := bs) 0 rfl rfl rfl rfl rfl rfl rfl rfl rdA ?_ | refine HO_b2sk (l := bs) 1 rfl rfl rfl rfl rfl rfl rfl rfl rdA ?_ | refine HO_b2sk (l := bs) 2 rfl rfl rfl rfl rfl rfl rfl rfl rdA ?_ | refine HO_b2sk (l := bs) 3 rfl rfl rfl rfl rfl rfl rfl rfl rdA ?_ | refine HO_b2sk (l := bs) 4 rfl rfl rfl rfl rfl rfl rfl rfl rdA ?_ | refine HO_b2sk (l := bs) 5 rfl rfl rfl rfl rfl rfl rfl rfl rdA ?_ | refine HO_b2sk (l := bs) 6 rfl rfl rfl rfl rfl rfl rfl rfl rdA ?_ | refine HO_b2sk (l := bs) 7 rfl rfl rfl rfl rfl rfl rfl rfl rdA ?_ | refine HO_b2sk (l := bs) 8 rfl rfl rfl rfl rfl rfl rfl rfl rdA ?_ | refine HO_b2sk (l := bs) 9 rfl rfl rfl rfl rfl rfl rfl rfl rdA ?_ | refine HO_b2sk (l := bs) 10 rfl rfl rfl rfl rfl rfl rfl rfl rdA ?_ | refine HO_b2sk (l := bs) 11 rfl rfl rfl rfl rfl rfl rfl rfl rdA ?_ | refine HO_b2sk (l := bs) 12 rfl rfl rfl rfl rfl rfl rfl rfl rdA ?_ | refine HO_b2sk (l := bs) 13 rfl rfl rfl rfl rfl rfl rfl rfl rdA ?_)) | exact HO_seg rfl rfl | refine S1 ?_ | (refine S2 ?_; intro _) | (refine S3 ?_; intro _ _) | (refine S4 ?_; intro _ _ _) | (refine HO_g 2 rfl ?_; (first | apply HO_and rfl rfl rfl rfl rfl rfl rfl rfl rfl | apply HO_or rfl rfl rfl rfl rfl rfl rfl rfl rfl)) | refine S5 ?_ | (intro hb; try replace hb := simB hb; try exact kill hb))
    ((first | apply HX_ret | apply HX_retn); (repeat (first | exact Res_nil | apply Res_tmp rfl | apply Res_ce rfl rfl rfl)); unfold RetQ; refine ⟨(), trivial, ?_, Keeps.nil⟩)
    rfl
def SrcOk (src : List SL) (e : SL) : Prop := (∃ e0 ∈ src, Ent e0 e) ∨ ∃ L, e = inn L ∧ ∀ f ∈ L, ∃ e0 ∈ src, Ent e0 f
theorem Tri_src {P : Program} {g : Nat} {args : List Value} {ro src rw : List SL} {α : Type} {φ : α → Prop} {val : α → Value} {es : α → List SL}
    (h : Tri P g args ro rw φ val es) (hs : ∀ e ∈ ro, SrcOk src e) : Tri P g args src rw φ val es := by
  unfold Tri at h ⊢
  exact fun w S hf => (h w S ⟨hf.fr, hf.lt, hf.sub, hf.star, fun f hm => by
    rcases hs f hm with ⟨e0, he0, hent⟩ | ⟨L, rfl, hL⟩
    · obtain ⟨F, hF, hp⟩ := hf.ros e0 he0
      exact ⟨F, hF, hent _ _ hp⟩
    · exact ⟨fun b => b < w.heap.size ∧ ¬ S b, fun b hb => hb, fun e he => by
        obtain ⟨e0, he0, hent⟩ := hL e he
        obtain ⟨F, hF, hp⟩ := hf.ros e0 he0
        exact ⟨F, hF, hent _ _ hp⟩⟩⟩).mono fun _ w' ⟨x, T, hx, he', hfx⟩ => ⟨x, T, hx, he', hfx.fr, hfx.lt, hfx.sub, hfx.star, fun f hm => by
    obtain ⟨F, hF, hp⟩ := hf.ros f hm
    exact ⟨F, fun b hb => ⟨Nat.lt_of_lt_of_le (hF b hb).1 hfx.fr.size, fun hT => (hfx.sub b hT).elim (hF b hb).2 (fun hge => by have := (hF b hb).1; omega)⟩, f.st F w w' (fun b hb => hfx.fr.block b (hF b hb).1 (hF b hb).2) hp⟩⟩
def segShp : Shp := .agg [.bool, .sl (.int .i64)]
def attShp : Shp := .agg [.int .i64, .sl segShp, .int .u32, .int .i64, .int .i64, .sl (.int .i64)]
def toI : Tr → Int
  | .int _ n => n
  | _ => 0
def toSeg : Tr → SegS
  | .agg [.bool b, .sl A c l] => ⟨b, A, c, l.map toI⟩
  | _ => ⟨false, none, 0, []⟩
theorem int_of {t : Tr} (h : Tr.of (.int .i64) t) : t.cells = iE (toI t) := by
  simp only [Tr.of] at h
  obtain ⟨n, rfl, hw⟩ := h
  simp [Tr.cells, iE, toI]
theorem ints_of {l : List Tr} (h : ∀ x ∈ l, Tr.of (.int .i64) x) : l.map Tr.cells = (l.map toI).map iE := by
  rw [List.map_map]
  exact List.map_congr_left fun x hx => int_of (h x hx)
theorem seg_of {t : Tr} (h : Tr.of segShp t) : t.cells = (toSeg t).e ∧ pcs segShp t = [arr idE 1 (toSeg t).A ((toSeg t).ns.map iE)] := by
  simp only [segShp, Tr.of, ofAll] at h
  obtain ⟨_, rfl, ⟨_, _, rfl, ⟨b, rfl⟩, ⟨_, _, rfl, ⟨A, c, l, rfl, _, _, _, hl⟩, rfl⟩⟩⟩ := h
  have e2 : l.flatMap (pcs (.int .i64)) = [] := List.flatMap_eq_nil_iff.2 fun x _ => by simp [pcs]
  have e := ints_of (fun x hx => by simp only [Tr.of]; exact hl x hx)
  refine ⟨by simp [Tr.cells, cellsAll, toSeg, SegS.e], ?_⟩
  simp [segShp, pcs, pcsAll, toSeg, e, e2, Shp.sz]
/-- the attributes that are handed over -/
def mkA (org : Int) (pA : Option Addr) (pc : Nat) (path : List Tr) (nxt med pref : Int) (cA : Option Addr) (cc : Nat) (comms : List Tr) : AttS := ⟨org, pA, pc, path.map toSeg, nxt, med, pref, cA, cc, comms.map toI⟩
theorem mkA_e (org : Int) (pA : Option Addr) (pc : Nat) (path : List Tr) (nxt med pref : Int) (cA : Option Addr) (cc : Nat) (comms : List Tr) :
    (mkA org pA pc path nxt med pref cA cc comms).e = [.int .i64 org, .slice pA path.length pc, .int .u32 nxt, .int .i64 med, .int .i64 pref, .slice cA comms.length cc] := by simp [mkA, AttS.e]
theorem mkA_src {src : List SL} {org : Int} {pA : Option Addr} {pc : Nat} {path : List Tr} {nxt med pref : Int} {cA : Option Addr} {cc : Nat} {comms : List Tr} (hp : ∀ x ∈ path, Tr.of segShp x) (hc : ∀ x ∈ comms, Tr.of (.int .i64) x)
    (h1 : arr idE 2 pA (path.map Tr.cells) ∈ src) (h2 : ∀ e ∈ path.flatMap (pcs segShp), e ∈ src) (h3 : arr idE 1 cA (comms.map Tr.cells) ∈ src) : ∀ e ∈ (mkA org pA pc path nxt med pref cA cc comms).ro, SrcOk src e := fun e he => by
  have e1 : path.map Tr.cells = (path.map toSeg).map SegS.e := by
    rw [List.map_map]
    exact List.map_congr_left fun x hx => (seg_of (hp x hx)).1
  rw [e1] at h1
  rw [ints_of hc] at h3
  simp only [AttS.ro, mkA, List.mem_cons, List.not_mem_nil, or_false] at he
  rcases he with rfl | rfl | rfl
  · refine .inr ⟨_, rfl, fun f hf => ?_⟩
    obtain ⟨s, hs, rfl⟩ := List.mem_map.1 hf
    obtain ⟨t, ht, rfl⟩ := List.mem_map.1 hs
    exact ⟨_, h2 _ (List.mem_flatMap.2 ⟨t, ht, by rw [(seg_of (hp t ht)).2]; exact List.mem_singleton.2 rfl⟩), arr_typed _⟩
  · exact .inl ⟨_, h1, arr_typed _⟩
  · exact .inl ⟨_, h3, arr_typed _⟩
theorem SrcOk.mono {src src' : List SL} {e : SL} (h : SrcOk src e) (hs : ∀ f ∈ src, f ∈ src') : SrcOk src' e := by
  rcases h with ⟨e0, h0, he⟩ | ⟨L, rfl, hL⟩
  · exact .inl ⟨e0, hs _ h0, he⟩
  · exact .inr ⟨L, rfl, fun f hf => let ⟨e0, h0, he⟩ := hL f hf; ⟨e0, hs _ h0, he⟩⟩
/-- what is read of the attributes that are handed over -/
def attPcs (pA : Option Addr) (path : List Tr) (cA : Option Addr) (comms : List Tr) : List SL := arr idE 2 pA (path.map Tr.cells) :: (path.flatMap (pcs segShp) ++ (arr idE 1 cA (comms.map Tr.cells) :: (comms.flatMap (pcs (.int .i64)) ++ [])))
theorem mkA_ok (org : Int) (pA : Option Addr) (pc : Nat) (path : List Tr) (nxt med pref : Int) (cA : Option Addr) (cc : Nat) (comms : List Tr) (hp : ∀ x ∈ path, Tr.of segShp x) (hc : ∀ x ∈ comms, Tr.of (.int .i64) x) :
    ∀ e ∈ (mkA org pA pc path nxt med pref cA cc comms).ro, SrcOk (attPcs pA path cA comms) e :=
  mkA_src hp hc List.mem_cons_self (fun e he => List.mem_cons_of_mem _ (List.mem_append.2 (.inl he))) (List.mem_cons_of_mem _ (List.mem_append.2 (.inr List.mem_cons_self)))
def toB35 : Tr → UInt8
  | .int _ n => UInt8.ofNat n.toNat
  | _ => 0
theorem byte_of35 {t : Tr} (h : Tr.of (.int .u8) t) : t.cells = bE (toB35 t) := by
  simp only [Tr.of] at h
  obtain ⟨n, rfl, hw⟩ := h
  have h1 : 0 ≤ n ∧ n ≤ 255 := wf_u8 hw
  have : ((n.toNat % 256 : Nat) : Int) = n := by omega
  simp [Tr.cells, bE, toB35, this]
theorem bytes_of35 {l : List Tr} (h : ∀ x ∈ l, Tr.of (.int .u8) x) : l.map Tr.cells = (l.map toB35).map bE := by
  rw [List.map_map]
  exact List.map_congr_left fun x hx => byte_of35 (h x hx)
def peShp : Shp := .agg [.int .u32, .int .u32, .int .i64]
def toPe : Tr → PeS
  | .agg [.int _ i, .int _ a, .int _ n] => ⟨i.toNat, a.toNat, n⟩
  | _ => ⟨0, 0, 0⟩
theorem pe_of {t : Tr} (h : Tr.of peShp t) : t.cells = (toPe t).e ∧ (toPe t).id < 4294967296 ∧ (toPe t).ad < 4294967296 := by
  simp only [peShp, Tr.of, ofAll] at h
  obtain ⟨_, rfl, ⟨_, _, rfl, ⟨i, rfl, wi⟩, ⟨_, _, rfl, ⟨a, rfl, wa⟩, ⟨_, _, rfl, ⟨n, rfl, wn⟩, rfl⟩⟩⟩⟩ := h
  have h1 := wf_u32 wi
  have h2 := wf_u32 wa
  obtain ⟨k, rfl⟩ : ∃ k : Nat, i = k := ⟨i.toNat, by omega⟩
  obtain ⟨m, rfl⟩ : ∃ k : Nat, a = k := ⟨a.toNat, by omega⟩
  refine ⟨by simp [Tr.cells, cellsAll, toPe, PeS.e], ?_, ?_⟩
  · show ((k : Int)).toNat < 4294967296
    omega
  · show ((m : Int)).toNat < 4294967296
    omega
theorem pes_of {l : List Tr} (h : ∀ x ∈ l, Tr.of peShp x) : l.map Tr.cells = (l.map toPe).map PeS.e := by
  rw [List.map_map]
  exact List.map_congr_left fun x hx => (pe_of (h x hx)).1
def rtShp : Shp := .agg [.agg [.int .i64, .agg [.int .u32, .int .i64], .int .i64], attShp]
def toAt : Tr → AttS
  | .agg [.int _ o, .sl pA pc p, .int _ nx, .int _ m, .int _ pf, .sl cA cc cs] => mkA o pA pc p nx m pf cA cc cs
  | _ => mkA 0 none 0 [] 0 0 0 none 0 []
def toRt : Tr → RtS
  | .agg [.agg [.int _ r, .agg [.int _ a, .int _ n], .int _ i], t] => ⟨r, a.toNat, n, i, toAt t⟩
  | _ => ⟨0, 0, 0, 0, toAt (.bool false)⟩
theorem rt_of {t : Tr} (h : Tr.of rtShp t) : t.cells = (toRt t).e ∧ ((toRt t).a < 4294967296 ∧ 0 ≤ (toRt t).at_.nxt ∧ (toRt t).at_.nxt ≤ 4294967295) ∧ ∀ f ∈ rtPs1 (toRt t), ∃ e0 ∈ pcs rtShp t, Ent e0 f := by
  simp only [rtShp, attShp, Tr.of, ofAll] at h
  obtain ⟨_, rfl, ⟨_, _, rfl, ⟨_, rfl, ⟨_, _, rfl, ⟨r, rfl, wr⟩, ⟨_, _, rfl, ⟨_, rfl, ⟨_, _, rfl, ⟨a, rfl, wa⟩, ⟨_, _, rfl, ⟨n, rfl, wn⟩, rfl⟩⟩⟩, ⟨_, _, rfl, ⟨i, rfl, wi⟩, rfl⟩⟩⟩⟩, ⟨_, _, rfl, ⟨_, rfl, ⟨_, _, rfl, ⟨o, rfl, wo⟩, ⟨_, _, rfl, ⟨pA, pc, p, rfl, _, _, _, hp⟩, ⟨_, _, rfl, ⟨nx, rfl, wx⟩, ⟨_, _, rfl, ⟨m, rfl, wm⟩, ⟨_, _, rfl, ⟨pf, rfl, wpf⟩, ⟨_, _, rfl, ⟨cA, cc, cs, rfl, _, _, _, hc⟩, rfl⟩⟩⟩⟩⟩⟩⟩, rfl⟩⟩⟩ := h
  have h1 := wf_u32 wa
  have h2 := wf_u32 wx
  obtain ⟨k, rfl⟩ : ∃ k : Nat, a = k := ⟨a.toNat, by omega⟩
  have hps : ∀ x ∈ p, Tr.of segShp x := fun x hx => by simp only [segShp, Tr.of, ofAll]; exact hp x hx
  have hcs : ∀ x ∈ cs, Tr.of (.int .i64) x := fun x hx => by simp only [Tr.of]; exact hc x hx
  refine ⟨by simp [Tr.cells, cellsAll, toRt, toAt, RtS.e, mkA], ⟨?_, ?_⟩, ?_⟩
  · show ((k : Int)).toNat < 4294967296
    omega
  · exact h2
  · have hok := mkA_ok o pA pc p nx m pf cA cc cs hps hcs
    have hsub : ∀ e ∈ attPcs pA p cA cs, e ∈ pcs rtShp (.agg [.agg [.int .i64 r, .agg [.int .u32 k, .int .i64 n], .int .i64 i], .agg [.int .i64 o, .sl pA pc p, .int .u32 nx, .int .i64 m, .int .i64 pf, .sl cA cc cs]]) := fun e he => by
      show e ∈ attPcs pA p cA cs ++ []
      exact List.mem_append.2 (.inl he)
    intro f hf
    have hf : f ∈ segPs (p.map toSeg) ++ [arr SegS.e 2 pA (p.map toSeg), arr iE 1 cA (cs.map toI)] := hf
    have e1 : p.map Tr.cells = (p.map toSeg).map SegS.e := by
      rw [List.map_map]
      exact List.map_congr_left fun x hx => (seg_of (hps x hx)).1
    rcases List.mem_append.1 hf with hf | hf
    · obtain ⟨s, hs, rfl⟩ := List.mem_map.1 hf
      obtain ⟨t, ht, rfl⟩ := List.mem_map.1 hs
      exact ⟨_, hsub _ (List.mem_cons_of_mem _ (List.mem_append.2 (.inl (List.mem_flatMap.2 ⟨t, ht, by rw [(seg_of (hps t ht)).2]; exact List.mem_singleton.2 rfl⟩)))), arr_typed _⟩
    rcases List.mem_cons.1 hf with rfl | hf
    · refine ⟨_, hsub _ List.mem_cons_self, ?_⟩
      rw [e1]
      exact arr_typed _
    · rw [List.mem_singleton.1 hf]
      refine ⟨_, hsub _ (List.mem_cons_of_mem _ (List.mem_append.2 (.inr List.mem_cons_self))), ?_⟩
      rw [ints_of hcs]
      exact arr_typed _
theorem rts_of {l : List Tr} (h : ∀ x ∈ l, Tr.of rtShp x) : l.map Tr.cells = (l.map toRt).map RtS.e := by
  rw [List.map_map]
  exact List.map_congr_left fun x hx => (rt_of (h x hx)).1
/-- the dump that is handed over -/
def mkD (t : Int) (id : Nat) (pA : Option Addr) (pc : Nat) (peers : List Tr) (rA : Option Addr) (rc : Nat) (routes : List Tr) : DuS := ⟨t, id, pA, pc, peers.map toPe, rA, rc, routes.map toRt⟩
theorem mkD_e (t : Int) (id : Nat) (pA : Option Addr) (pc : Nat) (peers : List Tr) (rA : Option Addr) (rc : Nat) (routes : List Tr) : (mkD t id pA pc peers rA rc routes).e = [.int .i64 t, .int .u32 id, .slice pA peers.length pc, .slice rA routes.length rc] := by simp [mkD, DuS.e]
@[reducible] def dumpPcs (pA : Option Addr) (peers : List Tr) (rA : Option Addr) (routes : List Tr) : List SL := (arr idE 3 pA (peers.map Tr.cells) :: peers.flatMap (pcs peShp)) ++ ((arr idE 10 rA (routes.map Tr.cells) :: routes.flatMap (pcs rtShp)) ++ [])
theorem mkD_ok (t : Int) (id : Nat) (pA : Option Addr) (pc : Nat) (peers : List Tr) (rA : Option Addr) (rc : Nat) (routes : List Tr) (hp : ∀ x ∈ peers, Tr.of peShp x) (hr : ∀ x ∈ routes, Tr.of rtShp x) :
    ∀ e ∈ (mkD t id pA pc peers rA rc routes).ro, SrcOk (dumpPcs pA peers rA routes) e := fun e he => by
  rcases List.mem_cons.1 he with rfl | he
  · refine .inl ⟨_, List.mem_append.2 (.inl List.mem_cons_self), ?_⟩
    rw [pes_of hp]
    exact arr_typed _
  rcases List.mem_cons.1 he with rfl | he
  · refine .inl ⟨_, List.mem_append.2 (.inr (List.mem_append.2 (.inl List.mem_cons_self))), ?_⟩
    rw [rts_of hr]
    exact arr_typed _
  · rw [List.mem_singleton.1 he]
    refine .inr ⟨_, rfl, fun f hf => ?_⟩
    obtain ⟨x, hx, hf⟩ := List.mem_flatMap.1 hf
    obtain ⟨u, hu, rfl⟩ := List.mem_map.1 hx
    obtain ⟨e0, h0, hent⟩ := (rt_of (hr u hu)).2.2 f hf
    exact ⟨e0, List.mem_append.2 (.inr (List.mem_append.2 (.inl (List.mem_cons_of_mem _ (List.mem_flatMap.2 ⟨u, hu, h0⟩))))), hent⟩
theorem mkD_v {t : Int} {id : Nat} {pA : Option Addr} {pc : Nat} {peers : List Tr} {rA : Option Addr} {rc : Nat} {routes : List Tr} (hp : ∀ x ∈ peers, Tr.of peShp x) (hr : ∀ x ∈ routes, Tr.of rtShp x) (hi : id < 4294967296) (hc : routes.length ≤ rc) : DuV (mkD t id pA pc peers rA rc routes) := by
  refine ⟨fun x hx => ?_, hi, fun x hx => ?_, ?_⟩
  · obtain ⟨u, hu, rfl⟩ := List.mem_map.1 hx
    exact (rt_of (hr u hu)).2.1
  · obtain ⟨u, hu, rfl⟩ := List.mem_map.1 hx
    exact (pe_of (hp u hu)).2
  · show (routes.map toRt).length ≤ rc
    rw [List.length_map]
    exact hc
theorem mputs_row (t id : Int) (hi : 0 ≤ id ∧ id ≤ 4294967295) (pA : Option Addr) (pc : Nat) (peers : List Tr) (rA : Option Addr) (rc : Nat) (routes : List Tr) (hp : ∀ x ∈ peers, Tr.of peShp x) (hr : ∀ x ∈ routes, Tr.of rtShp x) (hc : routes.length ≤ rc) :
    Tri Tryz.prog 3 [.agg #[.int .i64 t, .int .u32 id, .slice pA peers.length pc, .slice rA routes.length rc]]
      (dumpPcs pA peers rA routes ++ []) [] (fun _ : Unit => True) (fun _ => .bool true) (fun _ => []) := by
  obtain ⟨k, rfl⟩ : ∃ k : Nat, id = k := ⟨id.toNat, by omega⟩
  have h := mputs_t (mkD t k pA pc peers rA rc routes) (mkD_v hp hr (by omega) hc)
  rw [mkD_e] at h
  refine Tri_src h fun e he => ?_
  exact (mkD_ok t k pA pc peers rA rc routes hp hr e he).mono fun f hf => List.mem_append.2 (.inl hf)
theorem mgets_row (dA : Option Addr) (dc : Nat) (data : List Tr) (hd : ∀ x ∈ data, Tr.of (.int .u8) x) :
    Tri Tryz.prog 4 [.slice dA data.length dc] ((arr idE 1 dA (data.map Tr.cells) :: data.flatMap (pcs (.int .u8))) ++ []) [] (fun _ : Unit => True) (fun _ => .bool true) (fun _ => []) := by
  have h := mgets_t dA dc (data.map toB35)
  rw [List.length_map] at h
  refine Tri_src h fun e he => ?_
  rw [List.mem_singleton.1 he]
  refine .inl ⟨_, List.mem_append.2 (.inl List.mem_cons_self), ?_⟩
  rw [bytes_of35 hd]
  exact arr_typed _
end Go.Proofs.YtdeeokkkcfkbjaaGreat
