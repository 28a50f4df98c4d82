/- Writing a dump -/
import Derived.Test.YtdeeokkkcfkbjaaGreatMrtX
import Derived.Test.YtdeeokkkcfkbjaaGreatAttJ
import Derived.Test.YtdeeokkkcfkbjaaGreatUpd
namespace Go.Proofs.YtdeeokkkcfkbjaaGreat
set_option linter.unusedVariables false
set_option linter.unusedSimpArgs false
open Go.RowKit
attribute [local irreducible] HC HX HO Tri eP adr

@[reducible] def TM : Nat := 60
/-- a writer: its cells, and what was written -/
@[reducible] def wrP (b : Nat) (t : Int) (x : OA) (l : List UInt8) : List SL := [cel b TM [.slice x.1 l.length x.2, .int .i64 t], ownB x l]
set_option maxHeartbeats 4000000 in
theorem wnum_t (b : Nat) (t : Int) (x0 : OA) (l : List UInt8) (w k : Nat) (h1 : 1 ≤ w) (h4 : w ≤ 4) (hk : k < 256 ^ w) (hl : l.length ≤ 1000000000) :
    Tri Tryz.prog 51 [pt b, .int .i64 k, .int .i64 w] [] (wrP b t x0 l) (fun _ : OA => True) (fun _ => .tuple #[]) (fun x => wrP b t x (l ++ be w k)) := by
  have hn := nput_ok w k h1 h4 hk
  have hb := be_length w k
  refine Tri_of (N := Tryz.f51.ntmps) (c := bodyOf Tryz.f51) Tryz.func51 rfl rfl rfl rfl (fun w0 S0 => ?_)
  dsimp only [pt, wrP]
  repeat' (first | refine SW ?_ | refine SD ?_ | (refine HO_k 12 rfl ?_; refine HO_call rfl rfl rfl rfl (hn) rfl (trivial) rfl rfl soA ?_; intro ⟨y1, d1⟩ g1; dsimp only [List.cons_append, List.nil_append]) | exact HO_seg rfl rfl | refine S1 ?_ | (refine S2 ?_; intro _) | (refine S3 ?_; intro _ _) | (refine S4 ?_; intro _ _ _) | (refine HO_g 2 rfl ?_; (first | apply HO_and rfl rfl rfl rfl rfl rfl rfl rfl rfl | apply HO_or rfl rfl rfl rfl rfl rfl rfl rfl rfl)) | refine S5 ?_ | (intro hb; try replace hb := simB hb; try exact kill hb))
  rename_i A' c'
  have eL : l.length + w = (l ++ be w k).length := by rw [List.length_append, hb]
  have eM : List.map bE l ++ List.map bE (be w k) = List.map bE (l ++ be w k) := List.map_append.symm
  rw [eL, eM]
  ((first | apply HX_ret | apply HX_retn); (repeat (first | exact Res_nil | apply Res_tmp rfl | apply Res_ce rfl rfl rfl)); unfold RetQ; refine ⟨(A', c'), trivial, rfl, permA⟩)
/-- a record's bytes -/
def recB (t kind : Nat) (body : List UInt8) : List UInt8 := be 4 t ++ (be 2 13 ++ (be 2 kind ++ (be 4 body.length ++ body)))
theorem recB_len (t kind : Nat) (body : List UInt8) : (recB t kind body).length = body.length + 12 := by
  unfold recB
  simp only [List.length_append, be_length]
  omega
set_option maxHeartbeats 16000000 in
set_option maxRecDepth 100000 in
theorem wrec_t (b t : Nat) (ht : t < 4294967296) (x0 : OA) (l : List UInt8) (hl : l.length ≤ 900000000) (kind : Nat) (hk : kind < 65536) (g : Nat) [FnOk Tryz.prog g] (cap : List Value) (e1 e2 e3 e4 : SL) (body : List UInt8) (hb : body.length ≤ 900000000)
    (hw : ∀ b0 : Nat, Tri Tryz.prog g (pt b0 :: cap) [e1, e2, e3, e4] (wrP b0 t (none, 0) []) (fun _ : OA => True) (fun _ => .tuple #[]) (fun x => wrP b0 t x body)) :
    Tri Tryz.prog 18 [pt b, .int .i64 kind, .func (.func g) #[] cap.toArray] [e1, e2, e3, e4] (wrP b t x0 l) (fun _ : OA => True) (fun _ => .tuple #[]) (fun x => wrP b t x (l ++ recB t kind body)) := by
  have b4 := be_length 4 t
  have b2 := be_length 2 13
  have b3 := be_length 2 kind
  have b5 := be_length 4 body.length
  have h1 := fun x => wnum_t b t x l 4 t (by decide) (by decide) ht (by omega)
  have h2 := fun x => wnum_t b t x (l ++ be 4 t) 2 13 (by decide) (by decide) (by decide) (by simp only [List.length_append]; omega)
  have h3 := fun x => wnum_t b t x (l ++ be 4 t ++ be 2 13) 2 kind (by decide) (by decide) hk (by simp only [List.length_append]; omega)
  have h4 := fun x => wnum_t b t x (l ++ be 4 t ++ be 2 13 ++ be 2 kind) 4 body.length (by decide) (by decide) (by omega) (by simp only [List.length_append]; omega)
  have hlen : (l ++ be 4 t ++ be 2 13 ++ be 2 kind ++ be 4 body.length).length ≤ 900000100 := by simp only [List.length_append]; omega
  have hfin : l ++ be 4 t ++ be 2 13 ++ be 2 kind ++ be 4 body.length ++ body = l ++ recB t kind body := by unfold recB; simp only [List.append_assoc]
  obtain ⟨L4, hL4⟩ : ∃ L, l ++ be 4 t ++ be 2 13 ++ be 2 kind ++ be 4 body.length = L := ⟨_, rfl⟩
  rw [hL4] at hlen hfin
  simp only [hL4] at h4
  refine Tri_of (N := Tryz.f18.ntmps) (c := bodyOf Tryz.f18) Tryz.func18 rfl rfl rfl rfl (fun w0 S0 => ?_)
  dsimp only [pt]
  refine HC_add (e := ownB (none, 0) []) (fun w => own_nil w) ?_
  repeat' (first | refine SW ?_ | refine SD ?_ | (refine HO_k 12 rfl ?_; refine HO_call rfl rfl rfl rfl (hw _) rfl ((AllSrc.at_ 0 rfl (AllSrc.at_ 1 rfl (AllSrc.at_ 2 rfl (AllSrc.at_ 3 rfl trivial))))) rfl rfl soA ?_; intro ⟨y0, d0⟩ g0; dsimp only [wrP, pt, List.cons_append, List.nil_append]) | (refine HO_k 12 rfl ?_; refine HO_mv 3 rfl rfl ?_; refine HO_mv 3 rfl rfl ?_; refine HO_call rfl rfl rfl rfl (h1 x0) rfl (trivial) rfl rfl soA ?_; intro ⟨y1, d1⟩ g1; dsimp only [wrP, pt, List.cons_append, List.nil_append]) | (refine HO_k 12 rfl ?_; refine HO_call rfl rfl rfl rfl (h2 (y1, d1)) rfl (trivial) rfl rfl soA ?_; intro ⟨y2, d2⟩ g2; dsimp only [wrP, pt, List.cons_append, List.nil_append]) | (refine HO_k 12 rfl ?_; refine HO_call rfl rfl rfl rfl (h3 (y2, d2)) rfl (trivial) rfl rfl soA ?_; intro ⟨y3, d3⟩ g3; dsimp only [wrP, pt, List.cons_append, List.nil_append]) | (refine HO_k 12 rfl ?_; refine HO_call rfl rfl rfl rfl (h4 (y3, d3)) rfl (trivial) rfl rfl soA ?_; intro ⟨y4, d4⟩ g4; dsimp only [wrP, pt, List.cons_append, List.nil_append]) | exact HO_seg rfl rfl | refine S1 ?_ | (refine S2 ?_; intro _) | (refine S3 ?_; intro _ _) | (refine S4 ?_; intro _ _ _) | (refine HO_g 2 rfl ?_; (first | apply HO_and rfl rfl rfl rfl rfl rfl rfl rfl rfl | apply HO_or rfl rfl rfl rfl rfl rfl rfl rfl rfl)) | refine S5 ?_ | (intro hb; try replace hb := simB hb; try exact kill hb))
  rename_i bo A' c'
  have eL : L4.length + body.length = (l ++ recB t kind body).length := by rw [← hfin, List.length_append]
  have eM : List.map bE L4 ++ List.map bE body = List.map bE (l ++ recB t kind body) := by rw [← hfin, List.map_append]
  rw [eL, eM]
  ((first | apply HX_ret | apply HX_retn); (repeat (first | exact Res_nil | apply Res_tmp rfl | apply Res_ce rfl rfl rfl)); unfold RetQ; refine ⟨(A', c'), trivial, rfl, permA⟩)
def peB (p : PeS) : List UInt8 := be 1 2 ++ (be 4 p.id ++ (be 4 p.ad ++ be 4 p.as_.toNat))
def peersB (id : Nat) (ps : List PeS) : List UInt8 := be 4 id ++ (be 2 0 ++ (be 2 ps.length ++ ps.flatMap peB))
theorem peB_len (p : PeS) : (peB p).length = 13 := by unfold peB; simp only [List.length_append, be_length]
theorem pes_len (ps : List PeS) : (ps.flatMap peB).length = ps.length * 13 := flatMap_len ps fun p _ => peB_len p
theorem peersB_len (id : Nat) (ps : List PeS) : (peersB id ps).length = 8 + ps.length * 13 := by
  unfold peersB
  simp only [List.length_append, be_length, pes_len]
  omega
set_option maxHeartbeats 16000000 in
set_option maxRecDepth 100000 in
theorem wpeers_t (b : Nat) (t : Int) (d : DuS) (hi : d.id < 4294967296) (hp : ∀ x ∈ d.peers, x.id < 4294967296 ∧ x.ad < 4294967296 ∧ fit4 x.as_ = true) (hl : d.peers.length ≤ 16) :
    Tri Tryz.prog 20 [pt b, .agg d.e.toArray] [arr PeS.e 3 d.pA d.peers] (wrP b t (none, 0) []) (fun _ : OA => True) (fun _ => .tuple #[]) (fun x => wrP b t x (peersB d.id d.peers)) := by
  have b4 := be_length 4 d.id
  have b2 := be_length 2 0
  have b3 := be_length 2 d.peers.length
  have h1 := wnum_t b t (none, 0) [] 4 d.id (by decide) (by decide) hi (by simp)
  have h2 := fun x => wnum_t b t x ([] ++ be 4 d.id) 2 0 (by decide) (by decide) (by decide) (by simp only [List.length_append, List.length_nil]; omega)
  have h3 := fun x => wnum_t b t x ([] ++ be 4 d.id ++ be 2 0) 2 d.peers.length (by decide) (by decide) (by omega) (by simp only [List.length_append, List.length_nil]; omega)
  have hpre : ([] ++ be 4 d.id ++ be 2 0 ++ be 2 d.peers.length).length = 8 := by simp only [List.length_append, List.length_nil]; omega
  have hfin : [] ++ be 4 d.id ++ be 2 0 ++ be 2 d.peers.length ++ d.peers.flatMap peB = peersB d.id d.peers := by unfold peersB; simp only [List.append_assoc, List.nil_append]
  obtain ⟨pre, hP⟩ : ∃ L, [] ++ be 4 d.id ++ be 2 0 ++ be 2 d.peers.length = L := ⟨_, rfl⟩
  rw [hP] at hpre hfin
  simp only [hP] at h3
  rw [← hfin]
  clear hfin
  refine Tri_of (N := Tryz.f20.ntmps) (c := bodyOf Tryz.f20) Tryz.func20 rfl rfl rfl rfl (fun w0 S0 => ?_)
  dsimp only [pt, DuS.e]
  repeat' (first | refine SW ?_ | refine SD ?_ | (refine HO_k 12 rfl ?_; refine HO_mv 2 rfl rfl ?_; refine HO_mv 2 rfl rfl ?_; refine HO_call rfl rfl rfl rfl (h1) rfl (trivial) rfl rfl soA ?_; intro ⟨y1, d1⟩ g1; dsimp only [wrP, pt, List.cons_append, List.nil_append]) | (refine HO_k 12 rfl ?_; refine HO_call rfl rfl rfl rfl (h2 (y1, d1)) rfl (trivial) rfl rfl soA ?_; intro ⟨y2, d2⟩ g2; dsimp only [wrP, pt, List.cons_append, List.nil_append]) | (refine HO_k 12 rfl ?_; refine HO_call rfl rfl rfl rfl (h3 (y2, d2)) rfl (trivial) rfl rfl soA ?_; intro ⟨y3, d3⟩ g3; dsimp only [wrP, pt, List.cons_append, List.nil_append]) | exact HO_seg rfl rfl | refine S1 ?_ | (refine S2 ?_; intro _) | (refine S3 ?_; intro _ _) | (refine S4 ?_; intro _ _ _) | (refine HO_g 2 rfl ?_; (first | apply HO_and rfl rfl rfl rfl rfl rfl rfl rfl rfl | apply HO_or rfl rfl rfl rfl rfl rfl rfl rfl rfl)) | refine S5 ?_ | (intro hb; try replace hb := simB hb; try exact kill hb))
  rename_i bd
  refine HC_loop (α := Nat × OA) (fun x => x.1 ≤ d.peers.length) (fun x => [(21, .int .i64 x.1), (20, .int .i64 d.peers.length), (19, .slice d.pA d.peers.length d.pc), (0, pt b)])
    (fun x => wrP b t x.2 (pre ++ (d.peers.take x.1).flatMap peB) ++ [cel bd 26 [.int .i64 d.t, .int .u32 d.id, .slice d.pA d.peers.length d.pc, .slice d.rA d.routes.length d.rc]]) (fun x => d.peers.length - x.1) rfl (0, (y3, d3)) (Nat.zero_le _) ⟨rfl, rfl, rfl, rfl, trivial⟩ (by simp) ?_
  intro ⟨j, ⟨yA, yc⟩⟩ hj
  dsimp only [wrP, pt, List.cons_append, List.nil_append] at hj ⊢
  rcases Nat.lt_or_ge j d.peers.length with hlt | hge
  · obtain ⟨p, hpj⟩ : ∃ p, d.peers[j]? = some p := ⟨d.peers[j], List.getElem?_eq_getElem hlt⟩
    obtain ⟨q1, q2, q3⟩ := hp p (List.mem_of_getElem? hpj)
    have q3 := fit4_iff.1 q3
    have ha : p.as_ = ((p.as_.toNat : Nat) : Int) := by omega
    have e1 : (d.peers.take (j + 1)).flatMap peB = (d.peers.take j).flatMap peB ++ peB p := by rw [List.take_add_one, hpj, List.flatMap_append]; simp
    have hcl : (pre ++ (d.peers.take j).flatMap peB).length ≤ 1000 := by rw [List.length_append, pes_len, List.length_take]; omega
    obtain ⟨cur, hcur⟩ : ∃ cur, pre ++ (d.peers.take j).flatMap peB = cur := ⟨_, rfl⟩
    have e2 : pre ++ (d.peers.take (j + 1)).flatMap peB = cur ++ be 1 2 ++ be 4 p.id ++ be 4 p.ad ++ be 4 p.as_.toNat := by
      rw [e1, ← List.append_assoc, hcur]
      unfold peB
      simp only [List.append_assoc]
    rw [hcur] at hcl ⊢
    have bl1 := be_length 1 2
    have bl2 := be_length 4 p.id
    have bl3 := be_length 4 p.ad
    have k1 := fun x => wnum_t b t x cur 1 2 (by decide) (by decide) (by decide) (by omega)
    have k2 := fun x => wnum_t b t x (cur ++ be 1 2) 4 p.id (by decide) (by decide) q1 (by simp only [List.length_append]; omega)
    have k3 := fun x => wnum_t b t x (cur ++ be 1 2 ++ be 4 p.id) 4 p.ad (by decide) (by decide) q2 (by simp only [List.length_append]; omega)
    have k4 := fun x => wnum_t b t x (cur ++ be 1 2 ++ be 4 p.id ++ be 4 p.ad) 4 p.as_.toNat (by decide) (by decide) (by omega) (by simp only [List.length_append]; omega)
    rw [← ha] at k4
    repeat' (first | refine SW ?_ | refine SD ?_ | (refine HO_k 12 rfl ?_; refine HO_mv 2 rfl rfl ?_; refine HO_mv 2 rfl rfl ?_; refine HO_call rfl rfl rfl rfl (k1 (yA, yc)) rfl (trivial) rfl rfl soA ?_; intro ⟨z1, f1⟩ g1; dsimp only [wrP, pt, List.cons_append, List.nil_append]) | (refine HO_k 12 rfl ?_; refine HO_call rfl rfl rfl rfl (k2 (z1, f1)) rfl (trivial) rfl rfl soA ?_; intro ⟨z2, f2⟩ g2; dsimp only [wrP, pt, List.cons_append, List.nil_append]) | (refine HO_k 12 rfl ?_; refine HO_call rfl rfl rfl rfl (k3 (z2, f2)) rfl (trivial) rfl rfl soA ?_; intro ⟨z3, f3⟩ g3; dsimp only [wrP, pt, List.cons_append, List.nil_append]) | (refine HO_k 12 rfl ?_; refine HO_call rfl rfl rfl rfl (k4 (z3, f3)) rfl (trivial) rfl rfl soA ?_; intro ⟨z4, f4⟩ g4; dsimp only [wrP, pt, List.cons_append, List.nil_append]) | exact HO_seg rfl rfl | refine S1 ?_ | (refine S2 ?_; intro _) | (refine S3 ?_; intro _ _) | (refine S4 ?_; intro _ _ _) | (refine HO_g 2 rfl ?_; (first | apply HO_and rfl rfl rfl rfl rfl rfl rfl rfl rfl | apply HO_or rfl rfl rfl rfl rfl rfl rfl rfl rfl)) | refine S5 ?_ | (intro hb; try replace hb := simB hb; try exact kill hb))
    rw [← e2]
    refine HX_keeps (rw' := wrP b t (z4, f4) (pre ++ (d.peers.take (j + 1)).flatMap peB) ++ [cel bd 26 [.int .i64 d.t, .int .u32 d.id, .slice d.pA d.peers.length d.pc, .slice d.rA d.routes.length d.rc]]) permA ?_
    exact HX_at (j + 1, (z4, f4)) ⟨hlt, by simp only; omega⟩ ⟨rfl, rfl, rfl, rfl, trivial⟩ rfl
  · obtain rfl : j = d.peers.length := by omega
    rw [List.take_length]
    repeat' (first | refine SW ?_ | refine SD ?_ | exact HO_seg rfl rfl | refine S1 ?_ | (refine S2 ?_; intro _) | (refine S3 ?_; intro _ _) | (refine S4 ?_; intro _ _ _) | (refine HO_g 2 rfl ?_; (first | apply HO_and rfl rfl rfl rfl rfl rfl rfl rfl rfl | apply HO_or rfl rfl rfl rfl rfl rfl rfl rfl rfl)) | refine S5 ?_ | (intro hb; try replace hb := simB hb; try exact kill hb))
    ((first | apply HX_ret | apply HX_retn); (repeat (first | exact Res_nil | apply Res_tmp rfl | apply Res_ce rfl rfl rfl)); unfold RetQ; refine ⟨(yA, yc), trivial, rfl, permA⟩)
/-- a route's bytes -/
def rtB (t : Nat) (x : RtS) : List UInt8 := be 2 x.r.toNat ++ (be 4 t ++ (be 4 x.id.toNat ++ (be 2 (putB 4 x.at_.pa).length ++ putB 4 x.at_.pa)))
structure RtOk (x : RtS) : Prop where
  w : RtW x
  r : 0 ≤ x.r ∧ x.r < 65536
  i : 0 ≤ x.id ∧ x.id ≤ 4294967295
  p : okX x.a x.n = true
  o : attOk true x.at_ = true
theorem RtOk.le {x : RtS} (h : RtOk x) : (putB 4 x.at_.pa).length ≤ 2300 := putB_le2 4 (by decide) x.at_.pa (okP_of (w := 4) h.w.n (by have := h.o; rw [ok_pa] at this; exact this))
theorem rtB_len {t : Nat} {x : RtS} (h : RtOk x) : (rtB t x).length ≤ 2312 := by
  have := h.le
  unfold rtB
  simp only [List.length_append, be_length]
  omega
set_option maxHeartbeats 16000000 in
set_option maxRecDepth 100000 in
theorem wroute_t (b t : Nat) (ht : t < 4294967296) (x0 : OA) (l : List UInt8) (hl : l.length ≤ 900000000) (x : RtS) (h : RtOk x) :
    Tri Tryz.prog 55 [pt b, .agg x.e.toArray] x.at_.ro (wrP b t x0 l) (fun _ : OA => True) (fun _ => .tuple #[]) (fun y => wrP b t y (l ++ rtB t x)) := by
  have hp := aput_t x.at_ true h.o h.w.n
  rw [show szF true = 4 from rfl] at hp
  have hle := h.le
  have hr := h.r
  have hi := h.i
  have er : x.r = ((x.r.toNat : Nat) : Int) := by omega
  have ei : x.id = ((x.id.toNat : Nat) : Int) := by omega
  have hfin : l ++ rtB t x = l ++ be 2 x.r.toNat ++ be 4 t ++ be 4 x.id.toNat ++ be 2 (putB 4 x.at_.pa).length ++ putB 4 x.at_.pa := by unfold rtB; simp only [List.append_assoc]
  rw [hfin]
  obtain ⟨s, hs⟩ : ∃ s, putB 4 x.at_.pa = s := ⟨_, rfl⟩
  rw [hs] at hp hle ⊢
  have bl1 := be_length 2 x.r.toNat
  have bl2 := be_length 4 t
  have bl3 := be_length 4 x.id.toNat
  have bl4 := be_length 2 s.length
  have k1 := fun y => wnum_t b t y l 2 x.r.toNat (by decide) (by decide) (by omega) (by omega)
  have k2 := fun y => wnum_t b t y (l ++ be 2 x.r.toNat) 4 t (by decide) (by decide) ht (by simp only [List.length_append]; omega)
  have k3 := fun y => wnum_t b t y (l ++ be 2 x.r.toNat ++ be 4 t) 4 x.id.toNat (by decide) (by decide) (by omega) (by simp only [List.length_append]; omega)
  have k4 := fun y => wnum_t b t y (l ++ be 2 x.r.toNat ++ be 4 t ++ be 4 x.id.toNat) 2 s.length (by decide) (by decide) (by omega) (by simp only [List.length_append]; omega)
  rw [← er] at k1
  rw [← ei] at k3
  have h4l : (l ++ be 2 x.r.toNat ++ be 4 t ++ be 4 x.id.toNat ++ be 2 s.length).length ≤ 900000100 := by simp only [List.length_append]; omega
  obtain ⟨L4, hL4⟩ : ∃ L, l ++ be 2 x.r.toNat ++ be 4 t ++ be 4 x.id.toNat ++ be 2 s.length = L := ⟨_, rfl⟩
  rw [hL4] at h4l ⊢
  simp only [hL4] at k4
  refine Tri_of (N := Tryz.f55.ntmps) (c := bodyOf Tryz.f55) Tryz.func55 rfl rfl rfl rfl (fun w0 S0 => ?_)
  dsimp only [pt, RtS.e]
  repeat' (first | refine SW ?_ | refine SD ?_ | (refine HO_k 12 rfl ?_; refine HO_call rfl rfl rfl rfl (hp) rfl (srcsA) rfl rfl soA ?_; intro ⟨y1, d1⟩ g1; dsimp only [List.cons_append, List.nil_append]) | (refine HO_k 12 rfl ?_; refine HO_mv 3 rfl rfl ?_; refine HO_mv 3 rfl rfl ?_; refine HO_call rfl rfl rfl rfl (k1 x0) rfl (trivial) rfl rfl soA ?_; intro ⟨z1, f1⟩ g1; dsimp only [wrP, pt, List.cons_append, List.nil_append]) | (refine HO_k 12 rfl ?_; refine HO_call rfl rfl rfl rfl (k2 (z1, f1)) rfl (trivial) rfl rfl soA ?_; intro ⟨z2, f2⟩ g2; dsimp only [wrP, pt, List.cons_append, List.nil_append]) | (refine HO_k 12 rfl ?_; refine HO_call rfl rfl rfl rfl (k3 (z2, f2)) rfl (trivial) rfl rfl soA ?_; intro ⟨z3, f3⟩ g3; dsimp only [wrP, pt, List.cons_append, List.nil_append]) | (refine HO_k 12 rfl ?_; refine HO_call rfl rfl rfl rfl (k4 (z3, f3)) rfl (trivial) rfl rfl soA ?_; intro ⟨z4, f4⟩ g4; dsimp only [wrP, pt, List.cons_append, List.nil_append]) | exact HO_seg rfl rfl | refine S1 ?_ | (refine S2 ?_; intro _) | (refine S3 ?_; intro _ _) | (refine S4 ?_; intro _ _ _) | (refine HO_g 2 rfl ?_; (first | apply HO_and rfl rfl rfl rfl rfl rfl rfl rfl rfl | apply HO_or rfl rfl rfl rfl rfl rfl rfl rfl rfl)) | refine S5 ?_ | (intro hb; try replace hb := simB hb; try exact kill hb))
  rename_i bx A' c'
  have eL : L4.length + s.length = (L4 ++ s).length := by rw [List.length_append]
  have eM : List.map bE L4 ++ List.map bE s = List.map bE (L4 ++ s) := by rw [List.map_append]
  rw [eL, eM]
  ((first | apply HX_ret | apply HX_retn); (repeat (first | exact Res_nil | apply Res_tmp rfl | apply Res_ce rfl rfl rfl)); unfold RetQ; refine ⟨(A', c'), trivial, rfl, permA⟩)
/-- a prefix's routes' bytes -/
def rtsB (t n : Nat) (l : List RtS) : List UInt8 := match l with
  | [] => []
  | x :: r => be 4 n ++ (pfB x.a x.n.toNat ++ (be 2 (x :: r).length ++ (x :: r).flatMap (rtB t)))
theorem rts_len (t : Nat) : ∀ (l : List RtS), (∀ x ∈ l, RtOk x) → (l.flatMap (rtB t)).length ≤ l.length * 2312 := by
  intro l
  induction l with
  | nil => intro _; simp
  | cons x l ih =>
    intro h
    have h1 := ih fun y hy => h y (by simp [hy])
    have h2 := rtB_len (t := t) (h x (by simp))
    rw [List.flatMap_cons, List.length_append, List.length_cons]
    omega
theorem pfB_len (a k : Nat) : (pfB a k).length ≤ 5 := by
  unfold pfB
  simp [be_length]
  omega
theorem rtsB_len (t n : Nat) (l : List RtS) (h : ∀ x ∈ l, RtOk x) : (rtsB t n l).length ≤ 11 + l.length * 2312 := by
  cases l with
  | nil => simp [rtsB]
  | cons x r =>
    have h1 := rts_len t (x :: r) h
    have h2 := pfB_len x.a x.n.toNat
    unfold rtsB
    simp only [List.length_append, be_length]
    omega
set_option maxHeartbeats 16000000 in
set_option maxRecDepth 100000 in
theorem wroutes_t (b t : Nat) (ht : t < 4294967296) (n : Nat) (hn : n < 4294967296) (A : Option Addr) (c : Nat) (x : RtS) (r : List RtS) (h : ∀ y ∈ x :: r, RtOk y) (hl : (x :: r).length < 65536) :
    Tri Tryz.prog 23 [pt b, .int .i64 n, .slice A (x :: r).length c] [arr RtS.e 10 A (x :: r), inn (rtPs (x :: r))] (wrP b t (none, 0) []) (fun _ : OA => True) (fun _ => .tuple #[]) (fun y => wrP b t y (rtsB t n (x :: r))) := by
  obtain ⟨l, hl0⟩ : ∃ l, l = x :: r := ⟨_, rfl⟩
  have h0 : l[0]? = some x := by rw [hl0]; rfl
  have hx := h x (by simp)
  have hk := okX_len hx.p
  have en : x.n = ((x.n.toNat : Nat) : Int) := by omega
  have hpf := pput_t x.a hx.w.a x.n.toNat (by rw [← en]; exact hx.p)
  dsimp only [pfV] at hpf
  rw [← en] at hpf
  have hfin : rtsB t n (x :: r) = [] ++ be 4 n ++ pfB x.a x.n.toNat ++ be 2 l.length ++ l.flatMap (rtB t) := by
    rw [hl0]
    unfold rtsB
    simp only [List.append_assoc, List.nil_append]
  rw [hfin]
  rw [← hl0] at h hl ⊢
  have hpl := pfB_len x.a x.n.toNat
  obtain ⟨s, hs⟩ : ∃ s, pfB x.a x.n.toNat = s := ⟨_, rfl⟩
  rw [hs] at hpf hpl ⊢
  have bl1 := be_length 4 n
  have bl2 := be_length 2 l.length
  have k1 := wnum_t b t (none, 0) [] 4 n (by decide) (by decide) hn (by simp)
  have k2 := fun y => wnum_t b t y ([] ++ be 4 n ++ s) 2 l.length (by decide) (by decide) (by omega) (by simp only [List.length_append, List.length_nil]; omega)
  have hpre : ([] ++ be 4 n ++ s ++ be 2 l.length).length ≤ 11 := by simp only [List.length_append, List.length_nil]; omega
  have e14 : ([] ++ be 4 n).length = 4 := by simp only [List.length_append, List.length_nil]; omega
  obtain ⟨P4, hP4⟩ : ∃ L, [] ++ be 4 n = L := ⟨_, rfl⟩
  rw [hP4] at k1 hpre e14 ⊢
  simp only [hP4] at k2
  obtain ⟨pre, hP⟩ : ∃ L, P4 ++ s ++ be 2 l.length = L := ⟨_, rfl⟩
  rw [hP] at hpre ⊢
  simp only [hP] at k2
  have hll : 0 < l.length := by rw [hl0]; simp
  refine Tri_of (N := Tryz.f23.ntmps) (c := bodyOf Tryz.f23) Tryz.func23 rfl rfl rfl rfl (fun w0 S0 => ?_)
  dsimp only [pt]
  repeat' (first | refine SW ?_ | refine SD ?_ | (refine HO_k 12 rfl ?_; refine HO_call rfl rfl rfl rfl (hpf) rfl (trivial) rfl rfl soA ?_; intro ⟨y1, d1⟩ g1; dsimp only [List.cons_append, List.nil_append]) | (refine HO_k 12 rfl ?_; refine HO_mv 2 rfl rfl ?_; refine HO_mv 2 rfl rfl ?_; refine HO_call rfl rfl rfl rfl (k1) rfl (trivial) rfl rfl soA ?_; intro ⟨z1, f1⟩ g2; dsimp only [wrP, pt, List.cons_append, List.nil_append]) | exact HO_seg rfl rfl | refine S1 ?_ | (refine S2 ?_; intro _) | (refine S3 ?_; intro _ _) | (refine S4 ?_; intro _ _ _) | (refine HO_g 2 rfl ?_; (first | apply HO_and rfl rfl rfl rfl rfl rfl rfl rfl rfl | apply HO_or rfl rfl rfl rfl rfl rfl rfl rfl rfl)) | refine S5 ?_ | (intro hb; try replace hb := simB hb; try exact kill hb))
  rename_i A1 c1
  have eL : P4.length + s.length = (P4 ++ s).length := List.length_append.symm
  have eM : List.map bE P4 ++ List.map bE s = List.map bE (P4 ++ s) := List.map_append.symm
  rw [eL, eM]
  repeat' (first | refine SW ?_ | refine SD ?_ | (refine HO_k 12 rfl ?_; refine HO_mv 1 rfl rfl ?_; refine HO_call rfl rfl rfl rfl (k2 (A1, c1)) rfl (trivial) rfl rfl soA ?_; intro ⟨z2, f2⟩ g3; dsimp only [wrP, pt, List.cons_append, List.nil_append]) | exact HO_seg rfl rfl | refine S1 ?_ | (refine S2 ?_; intro _) | (refine S3 ?_; intro _ _) | (refine S4 ?_; intro _ _ _) | (refine HO_g 2 rfl ?_; (first | apply HO_and rfl rfl rfl rfl rfl rfl rfl rfl rfl | apply HO_or rfl rfl rfl rfl rfl rfl rfl rfl rfl)) | refine S5 ?_ | (intro hb; try replace hb := simB hb; try exact kill hb))
  refine HC_keeps (rw' := wrP b t (z2, f2) pre) permA ?_
  refine HC_loop (α := Nat × OA) (fun x => x.1 ≤ l.length) (fun x => [(37, .int .i64 x.1), (36, .int .i64 l.length), (35, .slice A l.length c), (0, pt b)])
    (fun x => wrP b t x.2 (pre ++ (l.take x.1).flatMap (rtB t))) (fun x => l.length - x.1) rfl (0, (z2, f2)) (Nat.zero_le _) ⟨rfl, rfl, rfl, rfl, trivial⟩ (by simp) ?_
  intro ⟨j, ⟨yA, yc⟩⟩ hj
  dsimp only [wrP, pt] at hj ⊢
  rcases Nat.lt_or_ge j l.length with hlt | hge
  · obtain ⟨y, hy⟩ : ∃ y, l[j]? = some y := ⟨l[j], List.getElem?_eq_getElem hlt⟩
    have hmem := List.mem_of_getElem? hy
    have e1 : (l.take (j + 1)).flatMap (rtB t) = (l.take j).flatMap (rtB t) ++ rtB t y := by rw [List.take_add_one, hy, List.flatMap_append]; simp
    have hcl : (pre ++ (l.take j).flatMap (rtB t)).length ≤ 900000000 := by
      have := rts_len t (l.take j) fun z hz => h z (List.mem_of_mem_take hz)
      rw [List.length_append]
      rw [List.length_take] at this
      have h65 : min j l.length ≤ 65535 := by omega
      have := Nat.mul_le_mul_right 2312 h65
      omega
    have e2 : pre ++ (l.take (j + 1)).flatMap (rtB t) = pre ++ (l.take j).flatMap (rtB t) ++ rtB t y := by rw [e1, List.append_assoc]
    have hrt := wroute_t b t ht (yA, yc) (pre ++ (l.take j).flatMap (rtB t)) hcl y (h y hmem)
    rw [← e2] at hrt
    dsimp only [RtS.e] at hrt
    repeat' (first | refine SW ?_ | refine SD ?_ | (refine HO_k 12 rfl ?_; refine HO_mv 2 rfl rfl ?_; refine HO_mv 2 rfl rfl ?_; refine HO_call rfl rfl rfl rfl (hrt) rfl (rt_src 1 rfl hmem) rfl rfl soA ?_; intro ⟨z4, f4⟩ g4; dsimp only [wrP, pt, List.cons_append, List.nil_append]) | exact HO_seg rfl rfl | refine S1 ?_ | (refine S2 ?_; intro _) | (refine S3 ?_; intro _ _) | (refine S4 ?_; intro _ _ _) | (refine HO_g 2 rfl ?_; (first | apply HO_and rfl rfl rfl rfl rfl rfl rfl rfl rfl | apply HO_or rfl rfl rfl rfl rfl rfl rfl rfl rfl)) | refine S5 ?_ | (intro hb; try replace hb := simB hb; try exact kill hb))
    refine HX_keeps (rw' := wrP b t (z4, f4) (pre ++ (l.take (j + 1)).flatMap (rtB t))) permA ?_
    exact HX_at (j + 1, (z4, f4)) ⟨hlt, by simp only; omega⟩ ⟨rfl, rfl, rfl, rfl, trivial⟩ rfl
  · obtain rfl : j = l.length := by omega
    rw [List.take_length]
    repeat' (first | refine SW ?_ | refine SD ?_ | exact HO_seg rfl rfl | refine S1 ?_ | (refine S2 ?_; intro _) | (refine S3 ?_; intro _ _) | (refine S4 ?_; intro _ _ _) | (refine HO_g 2 rfl ?_; (first | apply HO_and rfl rfl rfl rfl rfl rfl rfl rfl rfl | apply HO_or rfl rfl rfl rfl rfl rfl rfl rfl rfl)) | refine S5 ?_ | (intro hb; try replace hb := simB hb; try exact kill hb))
    ((first | apply HX_ret | apply HX_retn); (repeat (first | exact Res_nil | apply Res_tmp rfl | apply Res_ce rfl rfl rfl)); unfold RetQ; refine ⟨(yA, yc), trivial, rfl, permA⟩)
def sameP (x y : RtS) : Bool := decide ((x.a : Int) = (y.a : Int)) && decide (x.n = y.n)
theorem sameP_self (x : RtS) : sameP x x = true := by unfold sameP; simp
set_option maxHeartbeats 8000000 in
theorem cut1_t (b : Nat) (A : Option Addr) (c : Nat) (y : RtS) (r : List RtS) (hl : (y :: r).length ≤ 1000000) (x : RtS) :
    Tri Tryz.prog 53 [.agg x.e.toArray, pt b] [cel b 24 [.slice A (y :: r).length c], arr RtS.e 10 A (y :: r)] [] (fun _ : Unit => True) (fun _ => .bool (!sameP x y)) (fun _ => []) := by
  obtain ⟨l, hl0⟩ : ∃ l, l = y :: r := ⟨_, rfl⟩
  have h0 : l[0]? = some y := by rw [hl0]; rfl
  have hll : 0 < l.length := by rw [hl0]; simp
  rw [← hl0] at hl ⊢
  refine Tri_of (N := Tryz.f53.ntmps) (c := bodyOf Tryz.f53) Tryz.func53 rfl rfl rfl rfl (fun w0 S0 => ?_)
  dsimp only [pt, RtS.e]
  repeat' (first | refine SW ?_ | refine SD ?_ | exact HO_seg rfl rfl | refine S1 ?_ | (refine S2 ?_; intro _) | (refine S3 ?_; intro _ _) | (refine S4 ?_; intro _ _ _) | (refine HO_g 2 rfl ?_; (first | apply HO_and rfl rfl rfl rfl rfl rfl rfl rfl rfl | apply HO_or rfl rfl rfl rfl rfl rfl rfl rfl rfl)) | refine S5 ?_ | (intro hb; try replace hb := simB hb; try exact kill hb))
  ((first | apply HX_ret | apply HX_retn); (repeat (first | exact Res_nil | apply Res_tmp rfl | apply Res_ce rfl rfl rfl)); unfold RetQ; refine ⟨(), trivial, ?_, Keeps.nil⟩)
  rfl
theorem indexR_t (A : Option Addr) (n c : Nat) (l : List RtS) (hn : n = l.length) (hl : l.length ≤ 1000000) (g : Nat) [FnOk Tryz.prog g] (cap : List Value) (roC : List SL) (p : RtS → Bool)
    (hp : ∀ x ∈ l, Tri Tryz.prog g (.agg x.e.toArray :: cap) roC [] (fun _ : Unit => True) (fun _ => .bool (p x)) (fun _ => [])) :
    Tri Tryz.prog 52 [.slice A n c, .func (.func g) #[] cap.toArray] (arr RtS.e 10 A l :: roC) [] (fun _ : Unit => True) (fun _ => .int .i64 (idxF p l)) (fun _ => []) := by
  refine Tri_of (N := Tryz.f52.ntmps) (c := bodyOf Tryz.f52) Tryz.func52 rfl rfl rfl rfl (fun w0 S0 => ?_)
  repeat' (first | refine SW ?_ | refine SD ?_ | exact HO_seg rfl rfl | refine S1 ?_ | (refine S2 ?_; intro _) | (refine S3 ?_; intro _ _) | (refine S4 ?_; intro _ _ _) | (refine HO_g 2 rfl ?_; (first | apply HO_and rfl rfl rfl rfl rfl rfl rfl rfl rfl | apply HO_or rfl rfl rfl rfl rfl rfl rfl rfl rfl)) | refine S5 ?_ | (intro hb; try replace hb := simB hb; try exact kill hb))
  refine HC_loop (α := Nat) (fun j => j ≤ l.length ∧ ∀ q, q < j → ∀ b, l[q]? = some b → p b = false) (fun j => [(8, .int .i64 j), (7, .int .i64 n), (0, .slice A n c), (1, .func (.func g) #[] cap.toArray)]) (fun _ => []) (fun j => l.length - j) rfl 0 ⟨Nat.zero_le _, fun q hq => by omega⟩ ⟨rfl, rfl, rfl, rfl, trivial⟩ rfl ?_
  intro j ⟨hj, hno⟩
  rcases Nat.lt_or_ge j l.length with hlt | hge
  · obtain ⟨a, ha⟩ : ∃ a, l[j]? = some a := ⟨l[j], List.getElem?_eq_getElem hlt⟩
    have hpa := hp a (List.mem_of_getElem? ha)
    repeat' (first | refine SW ?_ | refine SD ?_ | (refine HO_k 12 rfl ?_; refine HO_callq rfl rfl rfl rfl (hpa) (fun _ _ => rfl) (AllSrc.self) rfl rfl sqA ?_) | exact HO_seg rfl rfl | refine S1 ?_ | (refine S2 ?_; intro _) | (refine S3 ?_; intro _ _) | (refine S4 ?_; intro _ _ _) | (refine HO_g 2 rfl ?_; (first | apply HO_and rfl rfl rfl rfl rfl rfl rfl rfl rfl | apply HO_or rfl rfl rfl rfl rfl rfl rfl rfl rfl)) | refine S5 ?_ | (intro hb; try replace hb := simB hb; try exact kill hb) | refine HC_cond rfl rfl ?_ ?_)
    · ((first | apply HX_ret | apply HX_retn); (repeat (first | exact Res_nil | apply Res_tmp rfl | apply Res_ce rfl rfl rfl)); unfold RetQ; refine ⟨(), trivial, ?_, Keeps.nil⟩)
      exact congrArg (Value.int .i64) (idxF_at ha hb hno).symm
    · exact HX_at (j + 1) ⟨⟨hlt, fun q hq b hbq => by
        rcases Nat.lt_or_ge q j with h | h
        · exact hno q h b hbq
        · obtain rfl : q = j := by omega
          rw [ha] at hbq
          injection hbq with hbq
          exact hbq ▸ hb⟩, by omega⟩ ⟨rfl, rfl, rfl, rfl, trivial⟩ rfl
  · obtain rfl : j = l.length := by omega
    repeat' (first | refine SW ?_ | refine SD ?_ | exact HO_seg rfl rfl | refine S1 ?_ | (refine S2 ?_; intro _) | (refine S3 ?_; intro _ _) | (refine S4 ?_; intro _ _ _) | (refine HO_g 2 rfl ?_; (first | apply HO_and rfl rfl rfl rfl rfl rfl rfl rfl rfl | apply HO_or rfl rfl rfl rfl rfl rfl rfl rfl rfl)) | refine S5 ?_ | (intro hb; try replace hb := simB hb; try exact kill hb))
    ((first | apply HX_ret | apply HX_retn); (repeat (first | exact Res_nil | apply Res_tmp rfl | apply Res_ce rfl rfl rfl)); unfold RetQ; refine ⟨(), trivial, ?_, Keeps.nil⟩)
    exact congrArg (Value.int .i64) (idxF_no hno).symm
/-- how many routes are of the first one's prefix -/
def cutN (l : List RtS) : Nat := match l with
  | [] => 0
  | y :: r => ((y :: r).takeWhile fun x => sameP x y).length
theorem tw_spec {α : Type} (f : α → Bool) : ∀ (l : List α), (l.takeWhile f).length ≤ l.length ∧ (∀ q x, q < (l.takeWhile f).length → l[q]? = some x → f x = true) ∧ (∀ x, l[(l.takeWhile f).length]? = some x → f x = false) := by
  intro l
  induction l with
  | nil => exact ⟨by simp, fun q x h => by simp at h, fun x h => by simp at h⟩
  | cons y l ih =>
    cases hy : f y with
    | false =>
      rw [List.takeWhile_cons, hy]
      refine ⟨by simp, fun q x h => by simp at h, fun x h => ?_⟩
      have : y = x := by simpa using h
      rw [← this]
      exact hy
    | true =>
      rw [List.takeWhile_cons, hy]
      simp only [if_true, List.length_cons]
      refine ⟨by have := ih.1; omega, fun q x hq hx => ?_, fun x hx => ih.2.2 x (by simpa using hx)⟩
      cases q with
      | zero =>
        have : y = x := by simpa using hx
        rw [← this]
        exact hy
      | succ q => exact ih.2.1 q x (by omega) (by simpa using hx)
theorem cutN_pos (y : RtS) (r : List RtS) : 0 < cutN (y :: r) := by
  unfold cutN
  simp only
  rw [List.takeWhile_cons, sameP_self]
  simp
theorem cutN_le (l : List RtS) : cutN l ≤ l.length := by
  cases l with
  | nil => exact Nat.le_refl _
  | cons y r => exact (tw_spec _ _).1
set_option maxHeartbeats 8000000 in
theorem cut_t (A : Option Addr) (c : Nat) (y : RtS) (r : List RtS) (hl : (y :: r).length ≤ 1000000) (hc : (y :: r).length ≤ c) :
    Tri Tryz.prog 21 [.slice A (y :: r).length c] [arr RtS.e 10 A (y :: r)] [] (fun _ : Unit => True) (fun _ => .tuple #[.slice A (cutN (y :: r)) (cutN (y :: r)), .slice (cutA A 10 c (cutN (y :: r))) ((y :: r).length - cutN (y :: r)) (c - cutN (y :: r))]) (fun _ => []) := by
  have hidx := fun b => indexR_t A (y :: r).length c (y :: r) rfl hl 53 [pt b] [cel b 24 [.slice A (y :: r).length c], arr RtS.e 10 A (y :: r)] (fun x => !sameP x y) (fun x _ => cut1_t b A c y r hl x)
  obtain ⟨w1, w2, w3⟩ := tw_spec (fun x => sameP x y) (y :: r)
  have ek : cutN (y :: r) = ((y :: r).takeWhile fun x => sameP x y).length := rfl
  rw [← ek] at w1 w2 w3
  obtain ⟨k, hk⟩ : ∃ k, cutN (y :: r) = k := ⟨_, rfl⟩
  rw [hk] at w1 w2 w3 ⊢
  clear ek hk
  obtain ⟨l, hl0⟩ : ∃ l, y :: r = l := ⟨_, rfl⟩
  simp only [hl0] at hidx w1 w2 w3 hl hc ⊢
  rcases Nat.lt_or_ge k l.length with hlt | hge
  · obtain ⟨z, hz⟩ : ∃ z, l[k]? = some z := ⟨l[k], List.getElem?_eq_getElem hlt⟩
    have hI : idxF (fun x => !sameP x y) l = (k : Int) := idxF_at hz (by rw [w3 z hz]; rfl) (fun q hq x hx => by rw [w2 q x hq hx]; rfl)
    simp only [hI] at hidx
    refine Tri_of (N := Tryz.f21.ntmps) (c := bodyOf Tryz.f21) Tryz.func21 rfl rfl rfl rfl (fun w0 S0 => ?_)
    repeat' (first | refine SW ?_ | refine SD ?_ | (refine HO_k 12 rfl ?_; refine HO_callq rfl rfl rfl rfl (hidx _) (fun _ _ => rfl) (srcsA) rfl rfl sqA ?_) | exact HO_seg rfl rfl | refine S1 ?_ | (refine S2 ?_; intro _) | (refine S3 ?_; intro _ _) | (refine S4 ?_; intro _ _ _) | (refine HO_g 2 rfl ?_; (first | apply HO_and rfl rfl rfl rfl rfl rfl rfl rfl rfl | apply HO_or rfl rfl rfl rfl rfl rfl rfl rfl rfl)) | refine S5 ?_ | (intro hb; try replace hb := simB hb; try exact kill hb))
    ((first | apply HX_ret | apply HX_retn); (repeat (first | exact Res_nil | apply Res_tmp rfl | apply Res_ce rfl rfl rfl)); unfold RetQ; refine ⟨(), trivial, ?_, Keeps.nil⟩)
    rfl
  · obtain rfl : k = l.length := by omega
    have hI : idxF (fun x => !sameP x y) l = -1 := idxF_no fun q hq x hx => by rw [w2 q x hq hx]; rfl
    simp only [hI] at hidx
    refine Tri_of (N := Tryz.f21.ntmps) (c := bodyOf Tryz.f21) Tryz.func21 rfl rfl rfl rfl (fun w0 S0 => ?_)
    repeat' (first | refine SW ?_ | refine SD ?_ | (refine HO_k 12 rfl ?_; refine HO_callq rfl rfl rfl rfl (hidx _) (fun _ _ => rfl) (srcsA) rfl rfl sqA ?_) | exact HO_seg rfl rfl | refine S1 ?_ | (refine S2 ?_; intro _) | (refine S3 ?_; intro _ _) | (refine S4 ?_; intro _ _ _) | (refine HO_g 2 rfl ?_; (first | apply HO_and rfl rfl rfl rfl rfl rfl rfl rfl rfl | apply HO_or rfl rfl rfl rfl rfl rfl rfl rfl rfl)) | refine S5 ?_ | (intro hb; try replace hb := simB hb; try exact kill hb))
    ((first | apply HX_ret | apply HX_retn); (repeat (first | exact Res_nil | apply Res_tmp rfl | apply Res_ce rfl rfl rfl)); unfold RetQ; refine ⟨(), trivial, ?_, Keeps.nil⟩)
    rfl
def grpB (t : Nat) : Nat → Nat → List RtS → List UInt8
  | 0, _, _ => []
  | f + 1, n, l => match l with
    | [] => []
    | y :: r => recB t 8 (rtsB t n ((y :: r).take (cutN (y :: r)))) ++ grpB t f (n + 1) ((y :: r).drop (cutN (y :: r)))
theorem grpB_fuel (t : Nat) : ∀ (f g n : Nat) (l : List RtS), l.length < f → l.length < g → grpB t f n l = grpB t g n l := by
  intro f
  induction f with
  | zero => intro g n l h; omega
  | succ f ih =>
    intro g n l h1 h2
    cases g with
    | zero => omega
    | succ g =>
      cases l with
      | nil => rfl
      | cons y r =>
        simp only [grpB]
        have := cutN_pos y r
        have hp0 : 0 < (y :: r).length := by simp
        rw [ih g (n + 1) _ (by simp only [List.length_drop]; omega) (by simp only [List.length_drop]; omega)]
/-- routes' records -/
def grpR (t n : Nat) (l : List RtS) : List UInt8 := grpB t (l.length + 1) n l
theorem grpR_nil (t n : Nat) : grpR t n [] = [] := rfl
theorem grpR_cons (t n : Nat) (y : RtS) (r : List RtS) : grpR t n (y :: r) = recB t 8 (rtsB t n ((y :: r).take (cutN (y :: r)))) ++ grpR t (n + 1) ((y :: r).drop (cutN (y :: r))) := by
  unfold grpR
  conv => lhs; simp only [grpB]
  have := cutN_pos y r
  have hp0 : 0 < (y :: r).length := by simp
  rw [grpB_fuel t (y :: r).length (((y :: r).drop (cutN (y :: r))).length + 1) (n + 1) _ (by simp only [List.length_drop]; omega) (by omega)]
theorem grpB_len (t : Nat) : ∀ (f n : Nat) (l : List RtS), (∀ x ∈ l, RtOk x) → (grpB t f n l).length ≤ l.length * 2335 := by
  intro f
  induction f with
  | zero => intro n l _; simp [grpB]
  | succ f ih =>
    intro n l h
    cases l with
    | nil => simp [grpB]
    | cons y r =>
      simp only [grpB]
      have h1 := ih (n + 1) ((y :: r).drop (cutN (y :: r))) fun x hx => h x (List.mem_of_mem_drop hx)
      have h2 := rtsB_len t n ((y :: r).take (cutN (y :: r))) fun x hx => h x (List.mem_of_mem_take hx)
      have h3 := cutN_pos y r
      have h4 := cutN_le (y :: r)
      rw [List.length_append, recB_len]
      rw [List.length_drop] at h1
      rw [List.length_take, Nat.min_eq_left h4] at h2
      obtain ⟨k, hk⟩ : ∃ k, cutN (y :: r) = k := ⟨_, rfl⟩
      obtain ⟨m, hm⟩ : ∃ m, (y :: r).length = m := ⟨_, rfl⟩
      rw [hk] at h1 h2 h3 h4 ⊢
      rw [hm] at h1 h4 ⊢
      obtain ⟨q, rfl⟩ : ∃ q, m = k + q := ⟨m - k, by omega⟩
      rw [show k + q - k = q by omega] at h1
      rw [Nat.add_mul]
      omega
/-- a dump's bytes -/
def putD (d : DuS) : List UInt8 := recB d.t.toNat 1 (peersB d.id d.peers) ++ grpR d.t.toNat 0 d.routes
theorem ok_of {d : DuS} (hd : DuW d) (h : chkM d = true) : fit4 d.t = true ∧ d.peers.length ≤ 16 ∧ d.routes.length ≤ 16384 ∧ (∀ p ∈ d.peers, fit4 p.as_ = true) ∧ ∀ x ∈ d.routes, RtOk x := by
  unfold chkM at h
  simp only [Bool.and_eq_true, decide_eq_true_eq] at h
  obtain ⟨⟨⟨⟨h1, h2⟩, h3⟩, h4⟩, h5⟩ := h
  refine ⟨h1, h2, h3, fun p hp => List.all_eq_true.1 h4 p hp, fun x hx => ?_⟩
  obtain ⟨j, hj, hjx⟩ := List.getElem_of_mem hx
  have hb := chkR_true h5 j hj
  have hy : d.routes[j]? = some x := by rw [List.getElem?_eq_getElem hj, hjx]
  rw [badAt_split hy, Bool.or_eq_false_iff, Bool.not_eq_false'] at hb
  have ho := hb.1
  unfold okRt at ho
  simp only [Bool.and_eq_true, decide_eq_true_eq] at ho
  obtain ⟨⟨⟨o1, o2⟩, o3⟩, o4⟩ := ho
  obtain ⟨i1, i2, i3⟩ := one_id o3
  exact ⟨hd.r x hx, ⟨o1, by omega⟩, ⟨i1, i2⟩, i3, o4⟩
theorem putD_len {d : DuS} (hd : DuW d) (h : chkM d = true) : (putD d).length ≤ 230 + d.routes.length * 2335 := by
  obtain ⟨h1, h2, h3, h4, h5⟩ := ok_of hd h
  have := grpB_len d.t.toNat (d.routes.length + 1) 0 d.routes h5
  unfold putD grpR
  rw [List.length_append, recB_len, peersB_len]
  omega
set_option maxHeartbeats 4000000 in
theorem put1c_t (b b1 : Nat) (t : Int) (d : DuS) (hi : d.id < 4294967296) (hp : ∀ x ∈ d.peers, x.id < 4294967296 ∧ x.ad < 4294967296 ∧ fit4 x.as_ = true) (hl : d.peers.length ≤ 16) :
    Tri Tryz.prog 19 [pt b, pt b1] [cel b1 26 d.e, arr PeS.e 3 d.pA d.peers, inn [], inn []] (wrP b t (none, 0) []) (fun _ : OA => True) (fun _ => .tuple #[]) (fun x => wrP b t x (peersB d.id d.peers)) := by
  have h := wpeers_t b t d hi hp hl
  refine Tri_of (N := Tryz.f19.ntmps) (c := bodyOf Tryz.f19) Tryz.func19 rfl rfl rfl rfl (fun w0 S0 => ?_)
  dsimp only [pt]
  repeat' (first | refine SW ?_ | refine SD ?_ | (refine HO_k 12 rfl ?_; refine HO_call rfl rfl rfl rfl (h) rfl (srcsA) rfl rfl soA ?_; intro ⟨y1, d1⟩ g1; dsimp only [wrP, pt, List.cons_append, List.nil_append]) | exact HO_seg rfl rfl | refine S1 ?_ | (refine S2 ?_; intro _) | (refine S3 ?_; intro _ _) | (refine S4 ?_; intro _ _ _) | (refine HO_g 2 rfl ?_; (first | apply HO_and rfl rfl rfl rfl rfl rfl rfl rfl rfl | apply HO_or rfl rfl rfl rfl rfl rfl rfl rfl rfl)) | refine S5 ?_ | (intro hb; try replace hb := simB hb; try exact kill hb))
  ((first | apply HX_ret | apply HX_retn); (repeat (first | exact Res_nil | apply Res_tmp rfl | apply Res_ce rfl rfl rfl)); unfold RetQ; refine ⟨(y1, d1), trivial, rfl, Keeps.refl⟩)
set_option maxHeartbeats 4000000 in
theorem put2c_t (b b7 b8 t : Nat) (ht : t < 4294967296) (n : Nat) (hn : n < 4294967296) (A : Option Addr) (c : Nat) (x : RtS) (r : List RtS) (h : ∀ y ∈ x :: r, RtOk y) (hl : (x :: r).length < 65536) :
    Tri Tryz.prog 22 [pt b, pt b7, pt b8] [cel b7 3 [.int .i64 n], cel b8 24 [.slice A (x :: r).length c], arr RtS.e 10 A (x :: r), inn (rtPs (x :: r))] (wrP b t (none, 0) []) (fun _ : OA => True) (fun _ => .tuple #[]) (fun y => wrP b t y (rtsB t n (x :: r))) := by
  have hw := wroutes_t b t ht n hn A c x r h hl
  refine Tri_of (N := Tryz.f22.ntmps) (c := bodyOf Tryz.f22) Tryz.func22 rfl rfl rfl rfl (fun w0 S0 => ?_)
  dsimp only [pt]
  repeat' (first | refine SW ?_ | refine SD ?_ | (refine HO_k 12 rfl ?_; refine HO_call rfl rfl rfl rfl (hw) rfl (srcsA) rfl rfl soA ?_; intro ⟨y1, d1⟩ g1; dsimp only [wrP, pt, List.cons_append, List.nil_append]) | exact HO_seg rfl rfl | refine S1 ?_ | (refine S2 ?_; intro _) | (refine S3 ?_; intro _ _) | (refine S4 ?_; intro _ _ _) | (refine HO_g 2 rfl ?_; (first | apply HO_and rfl rfl rfl rfl rfl rfl rfl rfl rfl | apply HO_or rfl rfl rfl rfl rfl rfl rfl rfl rfl)) | refine S5 ?_ | (intro hb; try replace hb := simB hb; try exact kill hb))
  ((first | apply HX_ret | apply HX_retn); (repeat (first | exact Res_nil | apply Res_tmp rfl | apply Res_ce rfl rfl rfl)); unfold RetQ; refine ⟨(y1, d1), trivial, rfl, Keeps.refl⟩)
set_option maxHeartbeats 8000000 in
theorem mput_bad (d : DuS) (hd : DuW d) (h : chkM d = false) : Tri Tryz.prog 7 [.agg d.e.toArray] d.ro [] (fun _ : Unit => True) (fun _ => .tuple #[.slice none 0 0, .int .i64 350]) (fun _ => []) := by
  have hc := mcheck_t d hd
  rw [h] at hc
  refine Tri_of (N := Tryz.f7.ntmps) (c := bodyOf Tryz.f7) Tryz.func7 rfl rfl rfl rfl (fun w0 S0 => ?_)
  dsimp only [DuS.ro, DuS.e] at hc ⊢
  repeat' (first | refine SW ?_ | refine SD ?_ | (refine HO_k 12 rfl ?_; refine HO_callq rfl rfl rfl rfl (hc) (fun _ _ => rfl) (srcsA) rfl rfl sqA ?_) | exact HO_seg rfl rfl | refine S1 ?_ | (refine S2 ?_; intro _) | (refine S3 ?_; intro _ _) | (refine S4 ?_; intro _ _ _) | (refine HO_g 2 rfl ?_; (first | apply HO_and rfl rfl rfl rfl rfl rfl rfl rfl rfl | apply HO_or rfl rfl rfl rfl rfl rfl rfl rfl rfl)) | refine S5 ?_ | (intro hb; try replace hb := simB hb; try exact kill hb))
  ((first | apply HX_ret | apply HX_retn); (repeat (first | exact Res_nil | apply Res_tmp rfl | apply Res_ce rfl rfl rfl)); unfold RetQ; refine ⟨(), trivial, ?_, Keeps.nil⟩)
  rfl
structure PuI where
  n : Nat
  b7 : Nat
  A : Option Addr
  c : Nat
  l : List RtS
  x : OA
  out : List UInt8
set_option maxHeartbeats 32000000 in
set_option maxRecDepth 100000 in
theorem mput_t (d : DuS) (hd : DuW d) (hrc : d.routes.length ≤ d.rc) (h : chkM d = true) : Tri Tryz.prog 7 [.agg d.e.toArray] d.ro [] (fun _ : OA => True) (fun x => .tuple #[.slice x.1 (putD d).length x.2, .int .i64 0]) (fun x => [ownB x (putD d)]) := by
  have hc := mcheck_t d hd
  rw [h] at hc
  have hlen := putD_len hd h
  obtain ⟨p1, p2, p3, p4, p5⟩ := ok_of hd h
  have ht := fit4_iff.1 p1
  have et : d.t = ((d.t.toNat : Nat) : Int) := by omega
  have htn : d.t.toNat < 4294967296 := by omega
  have hrec1 := fun bw b1 => wrec_t bw d.t.toNat htn (none, 0) [] (by simp) 1 (by decide) 19 [pt b1] (cel b1 26 d.e) (arr PeS.e 3 d.pA d.peers) (inn []) (inn []) (peersB d.id d.peers) (by rw [peersB_len]; omega)
    (fun b0 => put1c_t b0 b1 d.t.toNat d hd.i (fun x hx => ⟨(hd.p x hx).1, (hd.p x hx).2, p4 x hx⟩) p2)
  rw [← et] at hrec1
  have eput : putD d = ([] ++ recB d.t.toNat 1 (peersB d.id d.peers)) ++ grpR d.t.toNat 0 d.routes := rfl
  rw [eput]
  rw [eput] at hlen
  obtain ⟨o1, ho1⟩ : ∃ o, [] ++ recB d.t.toNat 1 (peersB d.id d.peers) = o := ⟨_, rfl⟩
  simp only [ho1] at hrec1
  rw [ho1] at hlen ⊢
  obtain ⟨tot, htot⟩ : ∃ o, o1 ++ grpR d.t.toNat 0 d.routes = o := ⟨_, rfl⟩
  rw [htot] at hlen ⊢
  refine Tri_of (N := Tryz.f7.ntmps) (c := bodyOf Tryz.f7) Tryz.func7 rfl rfl rfl rfl (fun w0 S0 => ?_)
  dsimp only [DuS.ro, DuS.e, pt] at hc hrec1 ⊢
  refine HC_add (e := ownB (none, 0) []) (fun w => own_nil w) ?_
  repeat' (first | refine SW ?_ | refine SD ?_ | (refine HO_k 12 rfl ?_; refine HO_callq rfl rfl rfl rfl (hc) (fun _ _ => rfl) (srcsA) rfl rfl sqA ?_) | (refine HO_k 12 rfl ?_; refine HO_mv 2 rfl rfl ?_; refine HO_mv 1 rfl rfl ?_; refine HO_call rfl rfl rfl rfl (hrec1 _ _) rfl ((AllSrc.at_ 3 rfl (AllSrc.at_ 0 rfl (AllSrc.free inn_nil (AllSrc.free inn_nil trivial))))) rfl rfl soA ?_; intro ⟨y1, d1⟩ g1; dsimp only [wrP, pt, List.cons_append, List.nil_append]) | exact HO_seg rfl rfl | refine S1 ?_ | (refine S2 ?_; intro _) | (refine S3 ?_; intro _ _) | (refine S4 ?_; intro _ _ _) | (refine HO_g 2 rfl ?_; (first | apply HO_and rfl rfl rfl rfl rfl rfl rfl rfl rfl | apply HO_or rfl rfl rfl rfl rfl rfl rfl rfl rfl)) | refine S5 ?_ | (intro hb; try replace hb := simB hb; try exact kill hb))
  rename_i b1 bw b70
  have hn0 : 0 + d.routes.length ≤ d.routes.length := by omega
  refine HC_keeps (rw' := wrP bw d.t (y1, d1) o1 ++ [cel b70 3 [.int .i64 0], cel b1 26 [.int .i64 d.t, .int .u32 d.id, .slice d.pA d.peers.length d.pc, .slice d.rA d.routes.length d.rc]]) permA ?_
  refine HC_loop (α := PuI) (fun x => x.n + x.l.length ≤ d.routes.length ∧ Ent (arr RtS.e 10 d.rA d.routes) (arr RtS.e 10 x.A x.l) ∧ (∀ y ∈ x.l, y ∈ d.routes) ∧ x.l.length ≤ x.c ∧ x.out ++ grpR d.t.toNat x.n x.l = tot)
    (fun x => [(7, pt x.b7), (6, .slice x.A x.l.length x.c), (5, pt bw), (1, pt b1)]) (fun x => wrP bw d.t x.x x.out ++ [cel x.b7 3 [.int .i64 x.n], cel b1 26 [.int .i64 d.t, .int .u32 d.id, .slice d.pA d.peers.length d.pc, .slice d.rA d.routes.length d.rc]]) (fun x => x.l.length) rfl
    ⟨0, b70, d.rA, d.rc, d.routes, (y1, d1), o1⟩ ⟨hn0, Ent.rfl_, fun y hy => hy, hrc, htot⟩ ⟨rfl, rfl, rfl, rfl, trivial⟩ rfl ?_
  clear htot
  intro ⟨n, b7, A, c, l, ⟨xA, xc⟩, out⟩ ⟨hn, hent, hsub, hc2, hinv⟩
  dsimp only [wrP, pt, List.cons_append, List.nil_append] at hn hent hsub hc2 hinv ⊢
  have hol : out.length ≤ tot.length := by rw [← hinv, List.length_append]; omega
  cases l with
  | nil =>
    rw [grpR_nil, List.append_nil] at hinv
    subst hinv
    repeat' (first | refine SW ?_ | refine SD ?_ | exact HO_seg rfl rfl | refine S1 ?_ | (refine S2 ?_; intro _) | (refine S3 ?_; intro _ _) | (refine S4 ?_; intro _ _ _) | (refine HO_g 2 rfl ?_; (first | apply HO_and rfl rfl rfl rfl rfl rfl rfl rfl rfl | apply HO_or rfl rfl rfl rfl rfl rfl rfl rfl rfl)) | refine S5 ?_ | (intro hb; try replace hb := simB hb; try exact kill hb))
    ((first | apply HX_ret | apply HX_retn); (repeat (first | exact Res_nil | apply Res_tmp rfl | apply Res_ce rfl rfl rfl)); unfold RetQ; refine ⟨(xA, xc), trivial, rfl, (by repeat (first | exact Keeps.cons Ent.rfl_ Keeps.nil | refine Keeps.skip ?_))⟩)
  | cons y r =>
    have hcut := cut_t A c y r (by omega) hc2
    rw [grpR_cons] at hinv
    have hkp := cutN_pos y r
    have hkl := cutN_le (y :: r)
    obtain ⟨k, hk⟩ : ∃ k, cutN (y :: r) = k := ⟨_, rfl⟩
    rw [hk] at hcut hinv hkp hkl
    have etk : (y :: r).take k = y :: r.take (k - 1) := by
      obtain ⟨q, rfl⟩ : ∃ q, k = q + 1 := ⟨k - 1, by omega⟩
      rfl
    have hlk : ((y :: r).take k).length = k := by rw [List.length_take]; omega
    have hp0 : 0 < (((y :: r).length : Nat) : Int) := by simp only [List.length_cons]; omega
    have hmem : ∀ z ∈ (y :: r).take k, z ∈ d.routes := fun z hz => hsub z (List.mem_of_mem_take hz)
    have hp2 : ∀ b0 b8 : Nat, Tri Tryz.prog 22 [pt b0, pt b7, pt b8] [cel b7 3 [.int .i64 n], cel b8 24 [.slice A k k], arr RtS.e 10 A ((y :: r).take k), inn (rtPs ((y :: r).take k))] (wrP b0 d.t.toNat (none, 0) []) (fun _ : OA => True) (fun _ => .tuple #[]) (fun z => wrP b0 d.t.toNat z (rtsB d.t.toNat n ((y :: r).take k))) := fun b0 b8 => by
      have := put2c_t b0 b7 b8 d.t.toNat htn n (by omega) A k y (r.take (k - 1)) (fun z hz => p5 z (hmem z (by rw [etk]; exact hz))) (by rw [← etk, hlk]; omega)
      rw [← etk, hlk] at this
      exact this
    have hbl := rtsB_len d.t.toNat n ((y :: r).take k) fun z hz => p5 z (hmem z hz)
    rw [hlk] at hbl
    have hrec := fun b8 => wrec_t bw d.t.toNat htn (xA, xc) out (by omega) 8 (by decide) 22 [pt b7, pt b8] (cel b7 3 [.int .i64 n]) (cel b8 24 [.slice A k k]) (arr RtS.e 10 A ((y :: r).take k)) (inn (rtPs ((y :: r).take k))) (rtsB d.t.toNat n ((y :: r).take k)) (by omega) (fun b0 => hp2 b0 b8)
    rw [← et] at hrec
    rw [← List.append_assoc] at hinv
    obtain ⟨out', hout⟩ : ∃ o, out ++ recB d.t.toNat 8 (rtsB d.t.toNat n ((y :: r).take k)) = o := ⟨_, rfl⟩
    rw [hout] at hinv
    simp only [hout] at hrec
    have hn1 : ((n : Nat) : Int) + 1 = ((n + 1 : Nat) : Int) := by omega
    have hdl : ((y :: r).drop k).length = (y :: r).length - k := by rw [List.length_drop]
    dsimp only [pt] at hrec
    repeat' (first | refine SW ?_ | refine SD ?_ | (with_reducible refine HO_rw (congrArg (Value.int .i64) hn1) ?_) | (refine HO_k 12 rfl ?_; refine HO_callq rfl rfl rfl rfl (hcut) (fun _ _ => rfl) (AllSrc.via 1 rfl hent trivial) rfl rfl sqA ?_) | (refine HO_k 12 rfl ?_; refine HO_mv 2 rfl rfl ?_; refine HO_mv 2 rfl rfl ?_; refine HO_call rfl rfl rfl rfl (hrec _) rfl ((AllSrc.at_ 4 rfl (AllSrc.at_ 3 rfl (AllSrc.via 1 rfl (fun S w h => arr_take _ S w (hent S w h)) (AllSrc.via 2 rfl (inn_sub (fun e he => by obtain ⟨z, hz, he⟩ := List.mem_flatMap.1 he; exact rt_mem (hmem z hz) he)) trivial))))) rfl rfl soA ?_; intro ⟨z1, f1⟩ g1; dsimp only [wrP, pt, List.cons_append, List.nil_append]) | exact HO_seg rfl rfl | refine S1 ?_ | (refine S2 ?_; intro _) | (refine S3 ?_; intro _ _) | (refine S4 ?_; intro _ _ _) | (refine HO_g 2 rfl ?_; (first | apply HO_and rfl rfl rfl rfl rfl rfl rfl rfl rfl | apply HO_or rfl rfl rfl rfl rfl rfl rfl rfl rfl)) | refine S5 ?_ | (intro hb; try replace hb := simB hb; try exact kill hb))
    rename_i b8 b7n
    refine HX_keeps (rw' := wrP bw d.t (z1, f1) out' ++ [cel b7n 3 [.int .i64 ((n + 1 : Nat) : Int)], cel b1 26 [.int .i64 d.t, .int .u32 d.id, .slice d.pA d.peers.length d.pc, .slice d.rA d.routes.length d.rc]]) permA ?_
    exact HX_at ⟨n + 1, b7n, cutA A 10 c k, c - k, (y :: r).drop k, (z1, f1), out'⟩ ⟨⟨by simp only; omega, fun S w h => arr_drop _ _ (fun e => by omega) S w (hent S w h), fun z hz => hsub z (List.mem_of_mem_drop hz), by simp only; omega, hinv⟩, by simp only; omega⟩ ⟨rfl, by rw [hdl]; rfl, rfl, rfl, trivial⟩ rfl
end Go.Proofs.YtdeeokkkcfkbjaaGreat
