/- The reference's prefix with which bytes begin; the reference's bytes of a dump -/
import Derived.Test.YtdeeokkkcfkbjaaGreatEng14
import Derived.Test.YtdeeokkkcfkbjaaGreatAdr
import Derived.Test.YtdeeokkkcfkbjaaGreatMrtY
import Derived.Test.YtdeeokkkcfkbjaaGreatAttRA
namespace Go.Proofs.YtdeeokkkcfkbjaaGreat
set_option linter.unusedVariables false
set_option linter.unusedSimpArgs false
open Go.RowKit
attribute [local irreducible] HC HX HO Tri eP adr

/-- a step of the code's form, but for drawn regions -/
theorem S5n {p q : Prop} (hq : q) (h : q → p := by
  intro hq
  first
  | exact HX_then hq
  | exact HC_seq rfl hq
  | exact HC_ord rfl rfl rfl rfl hq
  | exact HC_block rfl hq
  | exact HC_scope rfl hq
  | exact HC_skip rfl hq
  | exact HC_label rfl hq
  | exact HC_exit rfl hq
  | exact HC_ret rfl hq
  | exact HC_condT rfl rfl hq
  | exact HC_condF rfl rfl hq
  | exact HX_block_normal hq
  | exact HX_block_ret hq
  | exact HX_then_ret hq
  | exact HX_then_exit hq
  | exact HX_block_hit rfl hq
  | exact HX_block_miss rfl hq
  | exact HX_scope_normal hq
  | exact HX_scope_ret hq
  | exact HX_scope_exit hq) : p := h hq
def pgV : Option (Nat × Nat) → Value
  | none => .tuple #[pfV 0 0, .int .i64 0, .bool false]
  | some (a, q) => .tuple #[pfV a q, .int .i64 ((1 + (q + 7) / 8 : Nat)), .bool true]
theorem pad4 (t : List UInt8) (h : t.length ≤ 4) : (t ++ [0, 0, 0, 0]).take 4 = t ++ List.replicate (4 - t.length) 0 := by
  rw [List.take_append, List.take_of_length_le h]
  have hn : 4 - t.length = 0 ∨ 4 - t.length = 1 ∨ 4 - t.length = 2 ∨ 4 - t.length = 3 ∨ 4 - t.length = 4 := by omega
  rcases hn with e | e | e | e | e <;> rw [e] <;> rfl
theorem HC_knowH {P : Program} {N : Nat} {w0 : World} {S0 : Foot} {c : Code} {env : Env} {ro rw : List SL} {C : Prop} {Q : Exit → Act → World → Prop} (hC : ∀ w, RoOk (ro ++ rw) w → C) (h : C → HC P N w0 S0 c env ro rw Q) : HC P N w0 S0 c env ro rw Q := by
  unfold HC at h ⊢
  exact fun a S w ha hf => h (hC w hf.roOk) a S w ha hf
set_option maxHeartbeats 16000000 in
theorem rpget_t (A : Option Addr) (c : Nat) (l : List UInt8) (hb : l.length ≤ 1000000000) (hc : l.length ≤ c) :
    Tri Tryz.prog 72 [.slice A l.length c] [arr bE 1 A l] [] (fun _ : Unit => True) (fun _ => pgV (pfG l)) (fun _ => []) := by
  rcases l with _ | ⟨k, r⟩
  · refine Tri_of (N := Tryz.f72.ntmps) (c := bodyOf Tryz.f72) Tryz.func72 rfl rfl rfl rfl (fun w0 S0 => ?_)
    repeat' (first | refine SW ?_ | refine SD ?_ | exact HO_seg rfl rfl | refine S1 ?_ | (refine S2 ?_; intro _) | (refine S3 ?_; intro _ _) | (refine S4 ?_; intro _ _ _) | (refine HO_g 2 rfl ?_; (first | apply HO_and rfl rfl rfl rfl rfl rfl rfl rfl rfl | apply HO_or rfl rfl rfl rfl rfl rfl rfl rfl rfl)) | refine S5 ?_ | (intro hb; try replace hb := simB hb; try exact kill hb))
    ((first | apply HX_ret | apply HX_retn); (repeat (first | exact Res_nil | apply Res_tmp rfl | apply Res_ce rfl rfl rfl)); unfold RetQ; refine ⟨(), trivial, ?_, Keeps.nil⟩)
    rfl
  have hk := k.toNat_lt
  simp only [List.length_cons] at hb hc
  have hkr : (k :: r).length = r.length + 1 := rfl
  by_cases h32 : 32 < k.toNat
  · rw [show pfG (k :: r) = none from if_neg (fun h => by omega)]
    refine Tri_of (N := Tryz.f72.ntmps) (c := bodyOf Tryz.f72) Tryz.func72 rfl rfl rfl rfl (fun w0 S0 => ?_)
    repeat' (first | refine SW ?_ | refine SD ?_ | exact HO_seg rfl rfl | refine S1 ?_ | (refine S2 ?_; intro _) | (refine S3 ?_; intro _ _) | (refine S4 ?_; intro _ _ _) | (refine HO_g 2 rfl ?_; (first | apply HO_and rfl rfl rfl rfl rfl rfl rfl rfl rfl | apply HO_or rfl rfl rfl rfl rfl rfl rfl rfl rfl)) | refine S5 ?_ | (intro hb; try replace hb := simB hb; try exact kill hb))
    ((first | apply HX_ret | apply HX_retn); (repeat (first | exact Res_nil | apply Res_tmp rfl | apply Res_ce rfl rfl rfl)); unfold RetQ; refine ⟨(), trivial, ?_, Keeps.nil⟩)
    rfl
  have h8 := quo8 k.toNat (by omega)
  by_cases hsh : r.length < (k.toNat + 7) / 8
  · rw [show pfG (k :: r) = none from if_neg (fun h => by omega)]
    refine Tri_of (N := Tryz.f72.ntmps) (c := bodyOf Tryz.f72) Tryz.func72 rfl rfl rfl rfl (fun w0 S0 => ?_)
    repeat' (first | refine SW ?_ | refine SD ?_ | (with_reducible refine HO_rw (congrArg (Value.int .i64) h8) ?_) | exact HO_seg rfl rfl | refine S1 ?_ | (refine S2 ?_; intro _) | (refine S3 ?_; intro _ _) | (refine S4 ?_; intro _ _ _) | (refine HO_g 2 rfl ?_; (first | apply HO_and rfl rfl rfl rfl rfl rfl rfl rfl rfl | apply HO_or rfl rfl rfl rfl rfl rfl rfl rfl rfl)) | refine S5 ?_ | (intro hb; try replace hb := simB hb; try exact kill hb))
    ((first | apply HX_ret | apply HX_retn); (repeat (first | exact Res_nil | apply Res_tmp rfl | apply Res_ce rfl rfl rfl)); unfold RetQ; refine ⟨(), trivial, ?_, Keeps.nil⟩)
    rfl
  rw [show pfG (k :: r) = some (topN (adG (r.take ((k.toNat + 7) / 8))) k.toNat, k.toNat) from if_pos ⟨by omega, by omega⟩]
  dsimp only [pgV, pfV]
  obtain ⟨s, hs0⟩ : ∃ s, (k.toNat + 7) / 8 = s := ⟨_, rfl⟩
  have hs4 : s ≤ 4 := by omega
  rw [hs0] at hsh h8 ⊢
  obtain ⟨t, ht⟩ : ∃ t, r.take s = t := ⟨_, rfl⟩
  have htl : t.length = s := by rw [← ht, List.length_take]; omega
  have ht4 : t.length ≤ 4 := by omega
  rw [ht]
  have hlt := adG_lt t ht4
  have h1s : (1 : Int) + ((s : Nat) : Int) = ((1 + s : Nat) : Int) := by omega
  have hg := fun B cc => rget_t B 4 cc ((t ++ [0, 0, 0, 0]).take 4) (by rw [pad4 t ht4]; simp; omega) (by rw [pad4 t ht4]; simp; omega)
  have hgv : ge ((t ++ [0, 0, 0, 0]).take 4) = adG t := by rw [pad4 t ht4]; rfl
  rw [hgv] at hg
  have hmk := rmake_t (adG t) hlt k.toNat
  rw [clN_nat _ (by omega)] at hmk
  dsimp only [pfV] at hmk
  refine Tri_of (N := Tryz.f72.ntmps) (c := bodyOf Tryz.f72) Tryz.func72 rfl rfl rfl rfl (fun w0 S0 => ?_)
  repeat' (first | refine SW ?_ | refine SD ?_ | (with_reducible refine HO_rw (congrArg (Value.int .i64) h8) ?_) | (with_reducible refine HO_rw (congrArg (Value.int .i64) h1s) ?_) | exact HO_seg rfl rfl | refine S1 ?_ | (refine S2 ?_; intro _) | (refine S3 ?_; intro _ _) | (refine S4 ?_; intro _ _ _) | (refine HO_g 2 rfl ?_; (first | apply HO_and rfl rfl rfl rfl rfl rfl rfl rfl rfl | apply HO_or rfl rfl rfl rfl rfl rfl rfl rfl rfl)) | refine S5n ?_ | (intro hb; try replace hb := simB hb; try exact kill hb))
  have hq : (((1 + s : Nat) : Int)).toNat - Int.toNat 1 = t.length := by rw [htl]; omega
  rw [hq]
  refine HO_k 11 rfl ?_
  refine HO_app (k := 0) (k2 := 0) (l2 := t.map bE) rfl rfl rfl rfl rfl rfl rfl rfl ⟨_, rfl, fun _ S w h => arr_raw S w (by rw [← ht]; exact arr_cut c 1 s (fun e => by omega) S w h)⟩ (by simp) WfL.map rfl rfl (by simp; omega) (by simp; omega) rfl rfl rfl soA ?_
  intro A1 c1
  repeat' (first | refine SW ?_ | refine SD ?_ | exact HO_seg rfl rfl | refine S1 ?_ | (refine S2 ?_; intro _) | (refine S3 ?_; intro _ _) | (refine S4 ?_; intro _ _ _) | (refine HO_g 2 rfl ?_; (first | apply HO_and rfl rfl rfl rfl rfl rfl rfl rfl rfl | apply HO_or rfl rfl rfl rfl rfl rfl rfl rfl rfl)) | refine S5n ?_ | (intro hb; try replace hb := simB hb; try exact kill hb))
  rename_i b0 b1 b2 A2 c2
  have eM : [] ++ List.map bE t ++ [[Value.int .u8 0], [Value.int .u8 0], [Value.int .u8 0], [Value.int .u8 0]] = List.map bE (t ++ [0, 0, 0, 0]) := by rw [List.map_append]; rfl
  have eL : 0 + t.length + 4 = (t ++ [0, 0, 0, 0]).length := by rw [List.length_append]; simp
  rw [eM, eL]
  refine HC_knowH (C := (t ++ [0, 0, 0, 0]).length ≤ c2) (fun w h => own_cap 1 rfl h) (fun hc2 => ?_)
  rw [← eL] at hc2
  have h4c : 4 ≤ c2 := by omega
  repeat' (first | refine SW ?_ | refine SD ?_ | (with_reducible refine HO_rw (congrArg (Value.int .i64) h1s) ?_) | (refine HO_k 12 rfl ?_; refine HO_callq rfl rfl rfl rfl (hg _ _) (fun _ _ => rfl) (AllSrc.via 1 rfl (fun S w h => arr_take 4 S w (own_e S w h)) trivial) rfl rfl sqA ?_) | (refine HO_k 12 rfl ?_; refine HO_callq rfl rfl rfl rfl (hmk) (fun _ _ => rfl) (trivial) rfl rfl sqA ?_) | exact HO_seg rfl rfl | refine S1 ?_ | (refine S2 ?_; intro _) | (refine S3 ?_; intro _ _) | (refine S4 ?_; intro _ _ _) | (refine HO_g 2 rfl ?_; (first | apply HO_and rfl rfl rfl rfl rfl rfl rfl rfl rfl | apply HO_or rfl rfl rfl rfl rfl rfl rfl rfl rfl)) | refine S5 ?_ | (intro hb; try replace hb := simB hb; try exact kill hb))
  ((first | apply HX_ret | apply HX_retn); (repeat (first | exact Res_nil | apply Res_tmp rfl | apply Res_ce rfl rfl rfl)); unfold RetQ; refine ⟨(), trivial, ?_, Keeps.nil⟩)
  rfl
theorem rtwo_t (k : Nat) (hk : k ≤ 9223372036854775807) :
    Tri Tryz.prog 40 [.int .i64 k] [] [] (fun _ : OA => True) (fun x => .slice x.1 2 x.2) (fun x => [own idE 5 1 x.1 2 x.2 ((be 2 k).map bE)]) := by
  have h := rput_t 2 k (by decide) hk
  refine Tri_of (N := Tryz.f40.ntmps) (c := bodyOf Tryz.f40) Tryz.func40 rfl rfl rfl rfl (fun w0 S0 => ?_)
  repeat' (first | refine SW ?_ | refine SD ?_ | (refine HO_k 12 rfl ?_; refine HO_call rfl rfl rfl rfl (h) rfl (trivial) rfl rfl soA ?_; intro ⟨y1, d1⟩ g1; dsimp only [List.cons_append, List.nil_append]) | exact HO_seg rfl rfl | refine S1 ?_ | (refine S2 ?_; intro _) | (refine S3 ?_; intro _ _) | (refine S4 ?_; intro _ _ _) | (refine HO_g 2 rfl ?_; (first | apply HO_and rfl rfl rfl rfl rfl rfl rfl rfl rfl | apply HO_or rfl rfl rfl rfl rfl rfl rfl rfl rfl)) | refine S5 ?_ | (intro hb; try replace hb := simB hb; try exact kill hb))
  ((first | apply HX_ret | apply HX_retn); (repeat (first | exact Res_nil | apply Res_tmp rfl | apply Res_ce rfl rfl rfl)); unfold RetQ; refine ⟨(y1, d1), trivial, rfl, Keeps.refl⟩)
theorem rfour_t (k : Nat) (hk : k ≤ 9223372036854775807) :
    Tri Tryz.prog 37 [.int .i64 k] [] [] (fun _ : OA => True) (fun x => .slice x.1 4 x.2) (fun x => [own idE 5 1 x.1 4 x.2 ((be 4 k).map bE)]) := by
  have h := rput_t 4 k (by decide) hk
  refine Tri_of (N := Tryz.f37.ntmps) (c := bodyOf Tryz.f37) Tryz.func37 rfl rfl rfl rfl (fun w0 S0 => ?_)
  repeat' (first | refine SW ?_ | refine SD ?_ | (refine HO_k 12 rfl ?_; refine HO_call rfl rfl rfl rfl (h) rfl (trivial) rfl rfl soA ?_; intro ⟨y1, d1⟩ g1; dsimp only [List.cons_append, List.nil_append]) | exact HO_seg rfl rfl | refine S1 ?_ | (refine S2 ?_; intro _) | (refine S3 ?_; intro _ _) | (refine S4 ?_; intro _ _ _) | (refine HO_g 2 rfl ?_; (first | apply HO_and rfl rfl rfl rfl rfl rfl rfl rfl rfl | apply HO_or rfl rfl rfl rfl rfl rfl rfl rfl rfl)) | refine S5 ?_ | (intro hb; try replace hb := simB hb; try exact kill hb))
  ((first | apply HX_ret | apply HX_retn); (repeat (first | exact Res_nil | apply Res_tmp rfl | apply Res_ce rfl rfl rfl)); unfold RetQ; refine ⟨(y1, d1), trivial, rfl, Keeps.refl⟩)
theorem be2_small (k : Nat) (hk : k < 256) : be 2 k = [0, UInt8.ofNat k] := by
  have h : k / 256 = 0 := by omega
  simp [be, h]
set_option maxHeartbeats 8000000 in
theorem rrecord_t (d : DuS) (t : Nat) (et : d.t = t) (ht : t < 4294967296) (kind : Nat) (hk : kind < 256) (A : Option Addr) (c : Nat) (body : List UInt8) (hb : body.length ≤ 900000000) :
    Tri Tryz.prog 38 [.agg d.e.toArray, .int .i64 kind, .slice A body.length c] [arr bE 1 A body] [] (fun _ : OA => True) (fun x => .slice x.1 (recB t kind body).length x.2) (fun x => [ownB x (recB t kind body)]) := by
  have h1 := rfour_t t (by omega)
  have h2 := rfour_t body.length (by omega)
  have b4 := be_length 4 t
  have b5 := be_length 4 body.length
  have ekk : ((UInt8.ofNat kind).toNat : Int) = (kind : Int) := by simp; omega
  have e13 : be 2 13 = [0, 13] := be2_small 13 (by decide)
  have ek := be2_small kind hk
  have e : recB t kind body = be 4 t ++ [0, 13, 0, UInt8.ofNat kind] ++ be 4 body.length ++ body := by
    unfold recB
    rw [e13, ek]
    simp only [List.append_assoc, List.cons_append, List.nil_append]
  rw [e]
  refine Tri_of (N := Tryz.f38.ntmps) (c := bodyOf Tryz.f38) Tryz.func38 rfl rfl rfl rfl (fun w0 S0 => ?_)
  dsimp only [pt, DuS.e]
  rw [et]
  repeat' (first | refine SW ?_ | refine SD ?_ | (with_reducible refine HO_u8n ?_) | (refine HO_k 12 rfl ?_; refine HO_call rfl rfl rfl rfl (h1) rfl (trivial) rfl rfl soA ?_; intro ⟨y1, d1⟩ g1; dsimp only [List.cons_append, List.nil_append]) | (refine HO_k 12 rfl ?_; refine HO_call rfl rfl rfl rfl (h2) rfl (trivial) rfl rfl soA ?_; intro ⟨y2, d2⟩ g2; dsimp only [List.cons_append, List.nil_append]) | exact HO_seg rfl rfl | refine S1 ?_ | (refine S2 ?_; intro _) | (refine S3 ?_; intro _ _) | (refine S4 ?_; intro _ _ _) | (refine HO_g 2 rfl ?_; (first | apply HO_and rfl rfl rfl rfl rfl rfl rfl rfl rfl | apply HO_or rfl rfl rfl rfl rfl rfl rfl rfl rfl)) | refine S5 ?_ | (intro hb; try replace hb := simB hb; try exact kill hb))
  rename_i A' c'
  have eL : 4 + 4 + 4 + body.length = (be 4 t ++ [0, 13, 0, UInt8.ofNat kind] ++ be 4 body.length ++ body).length := by simp only [List.length_append, b4, b5]; rfl
  have eM : List.map bE (be 4 t) ++ [[Value.int .u8 0], [Value.int .u8 13], [Value.int .u8 0], [Value.int .u8 (kind : Int)]] ++ List.map bE (be 4 body.length) ++ List.map bE body = List.map bE (be 4 t ++ [0, 13, 0, UInt8.ofNat kind] ++ be 4 body.length ++ body) := by
    simp only [List.map_append]; rw [← ekk]; rfl
  rw [eL, eM]
  ((first | apply HX_ret | apply HX_retn); (repeat (first | exact Res_nil | apply Res_tmp rfl | apply Res_ce rfl rfl rfl)); unfold RetQ; refine ⟨(A', c'), trivial, rfl, permA⟩)
theorem grp_drop {t n : Nat} {l : List RtS} {i : Nat} (h : l.length ≤ i) : grpR t n (l.drop i) = [] := by rw [List.drop_of_length_le h]; rfl
structure GrI where
  n : Nat
  i : Nat
  x : OA
  out : List UInt8
set_option maxHeartbeats 64000000 in
set_option maxRecDepth 100000 in
theorem rput35_t (d : DuS) (hd : DuW d) (h : chkM d = true) : Tri Tryz.prog 11 [.agg d.e.toArray] d.ro [] (fun _ : OA => True) (fun x => .slice x.1 (putD d).length x.2) (fun x => [ownB x (putD d)]) := by
  have hlen := putD_len hd h
  obtain ⟨p1, p2, p3, p4, p5⟩ := ok_of hd h
  have ht := fit4_iff.1 p1
  have et : d.t = ((d.t.toNat : Nat) : Int) := by omega
  have htn : d.t.toNat < 4294967296 := by omega
  have hdi := hd.i
  have hrec := fun (kind : Nat) (hk : kind < 256) A c body hb => rrecord_t d d.t.toNat et htn kind hk A c body hb
  have h4t := rfour_t d.t.toNat (by omega)
  rw [← et] at h4t
  have eput : putD d = recB d.t.toNat 1 (peersB d.id d.peers) ++ grpR d.t.toNat 0 d.routes := rfl
  rw [eput] at hlen ⊢
  have hpb : (peersB d.id d.peers).length ≤ 300 := by rw [peersB_len]; omega
  obtain ⟨pre, hpre⟩ : ∃ pre, pre = be 4 d.id ++ [0, 0, 0, UInt8.ofNat d.peers.length] := ⟨_, rfl⟩
  have hprl : pre.length = 8 := by rw [hpre, List.length_append, be_length]; rfl
  have e20 : be 2 0 = [0, 0] := be2_small 0 (by decide)
  have epb : peersB d.id d.peers = pre ++ d.peers.flatMap peB := by
    unfold peersB
    rw [hpre, e20, be2_small _ (by omega)]
    simp only [List.append_assoc, List.cons_append, List.nil_append]
  obtain ⟨tot, htot⟩ : ∃ o, recB d.t.toNat 1 (peersB d.id d.peers) ++ grpR d.t.toNat 0 d.routes = o := ⟨_, rfl⟩
  rw [htot] at hlen ⊢
  refine Tri_of (N := Tryz.f11.ntmps) (c := bodyOf Tryz.f11) Tryz.func11 rfl rfl rfl rfl (fun w0 S0 => ?_)
  dsimp only [DuS.ro, DuS.e, pt] at hrec ⊢
  repeat' (first | refine SW ?_ | refine SD ?_ | exact HO_seg rfl rfl | refine S1 ?_ | (refine S2 ?_; intro _) | (refine S3 ?_; intro _ _) | (refine S4 ?_; intro _ _ _) | (refine HO_g 2 rfl ?_; (first | apply HO_and rfl rfl rfl rfl rfl rfl rfl rfl rfl | apply HO_or rfl rfl rfl rfl rfl rfl rfl rfl rfl)) | refine S5n ?_ | (intro hb; try replace hb := simB hb; try exact kill hb))
  rename_i b1
  refine HC_cutP (α := OA) (fun _ => True) (fun x => [(3, .slice x.1 pre.length x.2), (1, pt b1)]) (fun x => [ownB x pre, cel b1 26 [.int .i64 d.t, .int .u32 d.id, .slice d.pA d.peers.length d.pc, .slice d.rA d.routes.length d.rc]]) ?_ ?_
  · have h1 := rfour_t d.id (by omega)
    have b4 := be_length 4 d.id
    have enp : ((UInt8.ofNat d.peers.length).toNat : Int) = (d.peers.length : Int) := by simp; omega
    have eM : List.map bE (be 4 d.id) ++ [[Value.int .u8 0], [Value.int .u8 0], [Value.int .u8 0], [Value.int .u8 (d.peers.length : Int)]] = List.map bE pre := by rw [hpre, List.map_append, ← enp]; rfl
    have eL : 4 + 4 = pre.length := by omega
    repeat' (first | refine SW ?_ | refine SD ?_ | (with_reducible refine HO_u8n ?_) | exact HO_seg rfl rfl | refine S1 ?_ | (refine S2 ?_; intro _) | (refine S3 ?_; intro _ _) | (refine S4 ?_; intro _ _ _) | (refine HO_g 2 rfl ?_; (first | apply HO_and rfl rfl rfl rfl rfl rfl rfl rfl rfl | apply HO_or rfl rfl rfl rfl rfl rfl rfl rfl rfl)) | refine S5 ?_ | (intro hb; try replace hb := simB hb; try exact kill hb))
    refine HO_two (i := 3) (j := 8) (l1 := [8, 9, 10]) (l2 := [3, 9, 10]) (by decide +kernel) rfl ⟨by decide +kernel, rfl, rfl⟩ ⟨by decide +kernel, rfl, rfl⟩ ?_ ?_
    all_goals
      repeat' (first | refine SW ?_ | refine SD ?_ | (refine HO_k 12 rfl ?_; refine HO_call rfl rfl rfl rfl (h1) rfl (trivial) rfl rfl soA ?_; intro ⟨y1, d1⟩ g1; dsimp only [List.cons_append, List.nil_append]) | exact HO_seg rfl rfl | refine S1 ?_ | (refine S2 ?_; intro _) | (refine S3 ?_; intro _ _) | (refine S4 ?_; intro _ _ _) | (refine HO_g 2 rfl ?_; (first | apply HO_and rfl rfl rfl rfl rfl rfl rfl rfl rfl | apply HO_or rfl rfl rfl rfl rfl rfl rfl rfl rfl)) | refine S5 ?_ | (intro hb; try replace hb := simB hb; try exact kill hb))
      rename_i A' c'
      rw [eM, eL]
      refine HX_keeps (rw' := [ownB (A', c') pre, cel b1 26 [.int .i64 d.t, .int .u32 d.id, .slice d.pA d.peers.length d.pc, .slice d.rA d.routes.length d.rc]]) permA ?_
      exact HX_at (A', c') trivial ⟨rfl, rfl, trivial⟩ rfl
  intro ⟨xA, xc⟩ _
  dsimp only [pt]
  repeat' (first | refine SW ?_ | refine SD ?_ | exact HO_seg rfl rfl | refine S1 ?_ | (refine S2 ?_; intro _) | (refine S3 ?_; intro _ _) | (refine S4 ?_; intro _ _ _) | (refine HO_g 2 rfl ?_; (first | apply HO_and rfl rfl rfl rfl rfl rfl rfl rfl rfl | apply HO_or rfl rfl rfl rfl rfl rfl rfl rfl rfl)) | refine S5n ?_ | (intro hb; try replace hb := simB hb; try exact kill hb))
  have e0 : pre ++ (d.peers.take 0).flatMap peB = pre := by simp
  refine HC_loop (α := Nat × OA) (fun x => x.1 ≤ d.peers.length) (fun x => [(4, .int .i64 x.1), (3, .slice x.2.1 (pre ++ (d.peers.take x.1).flatMap peB).length x.2.2), (1, pt b1)]) (fun x => [ownB x.2 (pre ++ (d.peers.take x.1).flatMap peB), cel b1 26 [.int .i64 d.t, .int .u32 d.id, .slice d.pA d.peers.length d.pc, .slice d.rA d.routes.length d.rc]]) (fun x => d.peers.length - x.1) rfl (0, (xA, xc)) (Nat.zero_le _) ⟨rfl, by rw [e0]; rfl, rfl, trivial⟩ (by rw [e0]) ?_
  intro ⟨j, ⟨yA, yc⟩⟩ hj
  dsimp only [pt] at hj ⊢
  rcases Nat.lt_or_ge j d.peers.length with hlt | hge
  · obtain ⟨p, hpj⟩ : ∃ p, d.peers[j]? = some p := ⟨d.peers[j], List.getElem?_eq_getElem hlt⟩
    have hpm := List.mem_of_getElem? hpj
    obtain ⟨w1, w2⟩ := hd.p p hpm
    have q3 := fit4_iff.1 (p4 p hpm)
    have ha : p.as_ = ((p.as_.toNat : Nat) : Int) := by omega
    have e1 : (d.peers.take (j + 1)).flatMap peB = (d.peers.take j).flatMap peB ++ peB p := by rw [List.take_add_one, hpj, List.flatMap_append]; simp
    have hcl : (pre ++ (d.peers.take j).flatMap peB).length ≤ 1000 := by rw [List.length_append, pes_len, List.length_take]; omega
    obtain ⟨cur, hcur⟩ : ∃ cur, pre ++ (d.peers.take j).flatMap peB = cur := ⟨_, rfl⟩
    have e2 : pre ++ (d.peers.take (j + 1)).flatMap peB = cur ++ [2] ++ be 4 p.id ++ be 4 p.ad ++ be 4 p.as_.toNat := by
      rw [e1, ← List.append_assoc, hcur]
      unfold peB
      rw [show be 1 2 = [2] from by decide]
      simp only [List.append_assoc]
    rw [hcur] at hcl ⊢
    have bl2 := be_length 4 p.id
    have bl3 := be_length 4 p.ad
    have bl4 := be_length 4 p.as_.toNat
    have k2 := rfour_t p.id (by omega)
    have k3 := rfour_t p.ad (by omega)
    have k4 := rfour_t p.as_.toNat (by omega)
    rw [← ha] at k4
    obtain ⟨v4, hv4⟩ : ∃ v, be 4 p.as_.toNat = v := ⟨_, rfl⟩
    rw [hv4] at k4 e2 bl4
    repeat' (first | refine SW ?_ | refine SD ?_ | (refine HO_k 12 rfl ?_; refine HO_call rfl rfl rfl rfl (k2) rfl (trivial) rfl rfl soA ?_; intro ⟨z2, f2⟩ g2; dsimp only [List.cons_append, List.nil_append]) | (refine HO_k 12 rfl ?_; refine HO_call rfl rfl rfl rfl (k3) rfl (trivial) rfl rfl soA ?_; intro ⟨z3, f3⟩ g3; dsimp only [List.cons_append, List.nil_append]) | (refine HO_k 12 rfl ?_; refine HO_call rfl rfl rfl rfl (k4) rfl (trivial) rfl rfl soA ?_; intro ⟨z4, f4⟩ g4; dsimp only [List.cons_append, List.nil_append]) | exact HO_seg rfl rfl | refine S1 ?_ | (refine S2 ?_; intro _) | (refine S3 ?_; intro _ _) | (refine S4 ?_; intro _ _ _) | (refine HO_g 2 rfl ?_; (first | apply HO_and rfl rfl rfl rfl rfl rfl rfl rfl rfl | apply HO_or rfl rfl rfl rfl rfl rfl rfl rfl rfl)) | refine S5 ?_ | (intro hb; try replace hb := simB hb; try exact kill hb))
    rename_i b5 b6 A2 c2 A3 c3 A4 c4 A' c'
    have eL : cur.length + 1 + 4 + 4 + 4 = (pre ++ (d.peers.take (j + 1)).flatMap peB).length := by rw [e2]; simp only [List.length_append, List.length_cons, List.length_nil]; omega
    have eM : List.map bE cur ++ [[Value.int .u8 2]] ++ List.map bE (be 4 p.id) ++ List.map bE (be 4 p.ad) ++ List.map bE v4 = List.map bE (pre ++ (d.peers.take (j + 1)).flatMap peB) := by rw [e2]; simp only [List.map_append]; rfl
    rw [eM, eL]
    refine HX_keeps (rw' := [ownB (A', c') (pre ++ (d.peers.take (j + 1)).flatMap peB), cel b1 26 [.int .i64 d.t, .int .u32 d.id, .slice d.pA d.peers.length d.pc, .slice d.rA d.routes.length d.rc]]) permA ?_
    exact HX_at (j + 1, (A', c')) ⟨hlt, by simp only; omega⟩ ⟨rfl, rfl, rfl, trivial⟩ rfl
  obtain rfl : j = d.peers.length := by omega
  rw [List.take_length, ← epb]
  obtain ⟨pb, hpb0⟩ : ∃ pb, peersB d.id d.peers = pb := ⟨_, rfl⟩
  rw [hpb0] at hpb htot ⊢
  have hr1 := hrec 1 (by decide) yA yc pb (by omega)
  obtain ⟨o1, ho1⟩ : ∃ o, recB d.t.toNat 1 pb = o := ⟨_, rfl⟩
  rw [ho1] at hr1 htot
  repeat' (first | refine SW ?_ | refine SD ?_ | (refine HO_k 12 rfl ?_; refine HO_call rfl rfl rfl rfl (hr1) rfl (srcsA) rfl rfl soA ?_; intro ⟨zA, zc⟩ g1; dsimp only [List.cons_append, List.nil_append]) | exact HO_seg rfl rfl | refine S1 ?_ | (refine S2 ?_; intro _) | (refine S3 ?_; intro _ _) | (refine S4 ?_; intro _ _ _) | (refine HO_g 2 rfl ?_; (first | apply HO_and rfl rfl rfl rfl rfl rfl rfl rfl rfl | apply HO_or rfl rfl rfl rfl rfl rfl rfl rfl rfl)) | refine S5n ?_ | (intro hb; try replace hb := simB hb; try exact kill hb))
  refine HC_keeps (rw' := [ownB (zA, zc) o1, cel b1 26 [.int .i64 d.t, .int .u32 d.id, .slice d.pA d.peers.length d.pc, .slice d.rA d.routes.length d.rc]]) permA ?_
  refine HC_loop (α := GrI) (fun x => x.i ≤ d.routes.length ∧ x.n ≤ x.i ∧ x.out ++ grpR d.t.toNat x.n (d.routes.drop x.i) = tot)
    (fun x => [(8, .int .i64 x.i), (7, .int .i64 x.n), (6, .slice x.x.1 x.out.length x.x.2), (1, pt b1)]) (fun x => [ownB x.x x.out, cel b1 26 [.int .i64 d.t, .int .u32 d.id, .slice d.pA d.peers.length d.pc, .slice d.rA d.routes.length d.rc]]) (fun x => d.routes.length - x.i) rfl
    ⟨0, 0, (zA, zc), o1⟩ ⟨Nat.zero_le _, Nat.le_refl _, htot⟩ ⟨rfl, rfl, rfl, rfl, trivial⟩ rfl ?_
  clear htot
  intro ⟨n, i, ⟨oA, oc⟩, out⟩ ⟨hi, hni, hinv⟩
  dsimp only [pt] at hi hni hinv ⊢
  have hol : out.length ≤ tot.length := by rw [← hinv, List.length_append]; omega
  rcases Nat.lt_or_ge i d.routes.length with hlt | hge
  rotate_left
  · rw [grp_drop hge, List.append_nil] at hinv
    subst hinv
    repeat' (first | refine SW ?_ | refine SD ?_ | exact HO_seg rfl rfl | refine S1 ?_ | (refine S2 ?_; intro _) | (refine S3 ?_; intro _ _) | (refine S4 ?_; intro _ _ _) | (refine HO_g 2 rfl ?_; (first | apply HO_and rfl rfl rfl rfl rfl rfl rfl rfl rfl | apply HO_or rfl rfl rfl rfl rfl rfl rfl rfl rfl)) | refine S5 ?_ | (intro hb; try replace hb := simB hb; try exact kill hb))
    ((first | apply HX_ret | apply HX_retn); (repeat (first | exact Res_nil | apply Res_tmp rfl | apply Res_ce rfl rfl rfl)); unfold RetQ; refine ⟨(oA, oc), trivial, rfl, permA⟩)
  obtain ⟨y, hy⟩ : ∃ y, d.routes[i]? = some y := ⟨d.routes[i], List.getElem?_eq_getElem hlt⟩
  have hdrop : d.routes.drop i = y :: d.routes.drop (i + 1) := by
    rw [List.drop_eq_getElem_cons hlt]
    rw [List.getElem?_eq_getElem hlt] at hy
    injection hy with hy
    rw [hy]
  have hgets : ∀ q, (y :: d.routes.drop (i + 1))[q]? = d.routes[i + q]? := fun q => by rw [← hdrop, List.getElem?_drop]
  rw [hdrop, grpR_cons] at hinv
  have hkp := cutN_pos y (d.routes.drop (i + 1))
  obtain ⟨w1, w2, w3⟩ := tw_spec (fun x => sameP x y) (y :: d.routes.drop (i + 1))
  have ek : cutN (y :: d.routes.drop (i + 1)) = ((y :: d.routes.drop (i + 1)).takeWhile fun x => sameP x y).length := rfl
  rw [← ek] at w1 w2 w3
  obtain ⟨k, hk⟩ : ∃ k, cutN (y :: d.routes.drop (i + 1)) = k := ⟨_, rfl⟩
  rw [hk] at w1 w2 w3 hinv hkp
  clear ek hk
  obtain ⟨l, hl0⟩ : ∃ l, y :: d.routes.drop (i + 1) = l := ⟨_, rfl⟩
  rw [hl0] at w1 w2 w3 hinv hgets
  have hll : l.length = d.routes.length - i := by rw [← hl0, ← hdrop, List.length_drop]
  have hld : l.drop k = d.routes.drop (i + k) := by rw [← hl0, ← hdrop, List.drop_drop]
  have htk : l.take k = y :: (d.routes.drop (i + 1)).take (k - 1) := by
    obtain ⟨q, rfl⟩ : ∃ q, k = q + 1 := ⟨k - 1, by omega⟩
    rw [← hl0]
    rfl
  have hlk : (l.take k).length = k := by rw [List.length_take]; omega
  have hmemt : ∀ q, ∀ z ∈ l.take q, z ∈ d.routes := fun q z hz => by
    have := List.mem_of_mem_take hz
    rw [← hl0, ← hdrop] at this
    exact List.mem_of_mem_drop this
  repeat' (first | refine SW ?_ | refine SD ?_ | exact HO_seg rfl rfl | refine S1 ?_ | (refine S2 ?_; intro _) | (refine S3 ?_; intro _ _) | (refine S4 ?_; intro _ _ _) | (refine HO_g 2 rfl ?_; (first | apply HO_and rfl rfl rfl rfl rfl rfl rfl rfl rfl | apply HO_or rfl rfl rfl rfl rfl rfl rfl rfl rfl)) | refine S5n ?_ | (intro hb; try replace hb := simB hb; try exact kill hb))
  refine HC_add (e := ownB (none, 0) []) (fun w => own_nil w) ?_
  refine HC_loop (α := Nat × OA) (fun x => x.1 ≤ k) (fun x => [(10, .slice x.2.1 ((l.take x.1).flatMap (rtB d.t.toNat)).length x.2.2), (9, .int .i64 ((i + x.1 : Nat) : Int)), (8, .int .i64 i), (7, .int .i64 n), (6, .slice oA out.length oc), (1, pt b1)])
    (fun x => [ownB x.2 ((l.take x.1).flatMap (rtB d.t.toNat)), ownB (oA, oc) out, cel b1 26 [.int .i64 d.t, .int .u32 d.id, .slice d.pA d.peers.length d.pc, .slice d.rA d.routes.length d.rc]]) (fun x => k - x.1) rfl (0, (none, 0)) (Nat.zero_le _) ⟨rfl, rfl, rfl, rfl, rfl, rfl, trivial⟩ rfl ?_
  intro ⟨q, ⟨eA, ec⟩⟩ hq
  dsimp only [pt] at hq ⊢
  have hel : ((l.take q).flatMap (rtB d.t.toNat)).length ≤ 100000000 := by
    have := rts_len d.t.toNat (l.take q) fun z hz => p5 z (hmemt q z hz)
    rw [List.length_take] at this
    have h65 : min q l.length ≤ 16384 := by omega
    have := Nat.mul_le_mul_right 2312 h65
    omega
  rcases Nat.lt_or_ge q k with hqk | hqk
  · obtain ⟨z, hz⟩ : ∃ z, l[q]? = some z := ⟨l[q], List.getElem?_eq_getElem (by omega)⟩
    have hsame := w2 q z hqk hz
    have hz2 : d.routes[i + q]? = some z := by rw [← hgets q]; exact hz
    have hzm := List.mem_of_getElem? hz2
    have ok := p5 z hzm
    have hlt2 : i + q < d.routes.length := by omega
    have hr := ok.r
    have hii := ok.i
    have hle := ok.le
    have er : z.r = ((z.r.toNat : Nat) : Int) := by omega
    have ei : z.id = ((z.id.toNat : Nat) : Int) := by omega
    have hp := rput5_t z.at_ true ok.o ok.w.n
    rw [show szF true = 4 from rfl] at hp
    have e1 : (l.take (q + 1)).flatMap (rtB d.t.toNat) = (l.take q).flatMap (rtB d.t.toNat) ++ rtB d.t.toNat z := by rw [List.take_add_one, hz, List.flatMap_append]; simp
    have e2 : rtB d.t.toNat z = be 2 z.r.toNat ++ (be 4 d.t.toNat ++ (be 4 z.id.toNat ++ (be 2 (putB 4 z.at_.pa).length ++ putB 4 z.at_.pa))) := rfl
    obtain ⟨s, hs⟩ : ∃ s, putB 4 z.at_.pa = s := ⟨_, rfl⟩
    rw [hs] at hp hle e2
    rw [e2] at e1
    have bl1 := be_length 2 z.r.toNat
    have bl2 := be_length 4 d.t.toNat
    have bl3 := be_length 4 z.id.toNat
    have bl4 := be_length 2 s.length
    have k1 := rtwo_t z.r.toNat (by omega)
    have k3 := rfour_t z.id.toNat (by omega)
    have k4 := rtwo_t s.length (by omega)
    rw [← er] at k1
    rw [← ei] at k3
    have e3 : (i + (q + 1) : Nat) = i + q + 1 := by omega
    have e4 : ((i + q : Nat) : Int) + 1 = ((i + q + 1 : Nat) : Int) := by omega
    obtain ⟨cur, hcur⟩ : ∃ cur, (l.take q).flatMap (rtB d.t.toNat) = cur := ⟨_, rfl⟩
    rw [hcur] at e1 hel ⊢
    unfold sameP at hsame
    have hpl := hp
    dsimp only [AttS.e] at hpl
    repeat' (first | refine SW ?_ | refine SD ?_ | (with_reducible refine HO_rw (congrArg Value.bool hsame) ?_) | (with_reducible refine HO_rw (congrArg (Value.int .i64) e4) ?_) | (refine HO_k 12 rfl ?_; refine HO_call rfl rfl rfl rfl (hpl) rfl (rt_src 2 rfl hzm) rfl rfl soA ?_; intro ⟨p1, pc1⟩ g1; dsimp only [List.cons_append, List.nil_append]) | (refine HO_k 12 rfl ?_; refine HO_call rfl rfl rfl rfl (k1) rfl (trivial) rfl rfl soA ?_; intro ⟨z1, f1⟩ g1; dsimp only [List.cons_append, List.nil_append]) | (refine HO_k 12 rfl ?_; refine HO_call rfl rfl rfl rfl (h4t) rfl (trivial) rfl rfl soA ?_; intro ⟨z2, f2⟩ g2; dsimp only [List.cons_append, List.nil_append]) | (refine HO_k 12 rfl ?_; refine HO_call rfl rfl rfl rfl (k3) rfl (trivial) rfl rfl soA ?_; intro ⟨z3, f3⟩ g3; dsimp only [List.cons_append, List.nil_append]) | (refine HO_k 12 rfl ?_; refine HO_call rfl rfl rfl rfl (k4) rfl (trivial) rfl rfl soA ?_; intro ⟨z4, f4⟩ g4; dsimp only [List.cons_append, List.nil_append]) | exact HO_seg rfl rfl | refine S1 ?_ | (refine S2 ?_; intro _) | (refine S3 ?_; intro _ _) | (refine S4 ?_; intro _ _ _) | (refine HO_g 2 rfl ?_; (first | apply HO_and rfl rfl rfl rfl rfl rfl rfl rfl rfl | apply HO_or rfl rfl rfl rfl rfl rfl rfl rfl rfl)) | refine S5 ?_ | (intro hb; try replace hb := simB hb; try exact kill hb))
    rename_i b11 A1 c1 A2 c2 A3 c3 A4 c4 A' c'
    have eL : cur.length + 2 + 4 + 4 + 2 + s.length = ((l.take (q + 1)).flatMap (rtB d.t.toNat)).length := by rw [e1]; simp only [List.length_append, bl1, bl2, bl3, bl4]; omega
    have eM : List.map bE cur ++ List.map bE (be 2 z.r.toNat) ++ List.map bE (be 4 d.t.toNat) ++ List.map bE (be 4 z.id.toNat) ++ List.map bE (be 2 s.length) ++ List.map bE s = List.map bE ((l.take (q + 1)).flatMap (rtB d.t.toNat)) := by rw [e1]; simp only [List.map_append, List.append_assoc]
    rw [eM, eL]
    refine HX_keeps (rw' := [ownB (A', c') ((l.take (q + 1)).flatMap (rtB d.t.toNat)), ownB (oA, oc) out, cel b1 26 [.int .i64 d.t, .int .u32 d.id, .slice d.pA d.peers.length d.pc, .slice d.rA d.routes.length d.rc]]) permA ?_
    exact HX_at (q + 1, (A', c')) ⟨hqk, by simp only; omega⟩ ⟨rfl, rfl, rfl, rfl, rfl, rfl, trivial⟩ rfl
  · obtain rfl : q = k := by omega
    have oky := p5 y (List.mem_of_getElem? hy)
    obtain ⟨ents, hents⟩ : ∃ e, (l.take q).flatMap (rtB d.t.toNat) = e := ⟨_, rfl⟩
    rw [hents] at hel ⊢
    have hya := oky.w.a
    obtain ⟨hn0, hn32⟩ := okX_len oky.p
    have en : y.n = ((y.n.toNat : Nat) : Int) := by omega
    have hpp := rpput_t y.a hya y.n.toNat (by omega)
    rw [← en] at hpp
    have hpfl : (pfB y.a y.n.toNat).length ≤ 5 := by unfold pfB; rw [List.length_cons, List.length_take, be_length]; omega
    have erts : rtsB d.t.toNat n (l.take q) = be 4 n ++ pfB y.a y.n.toNat ++ be 2 q ++ ents := by
      rw [← hents]
      rw [htk] at hlk ⊢
      unfold rtsB
      simp only
      rw [hlk]
      simp only [List.append_assoc]
    obtain ⟨pf, hpf⟩ : ∃ p, pfB y.a y.n.toNat = p := ⟨_, rfl⟩
    rw [hpf] at hpp hpfl erts
    have bl1 := be_length 4 n
    have bl2 := be_length 2 q
    have k1 := rfour_t n (by omega)
    have k2 := rtwo_t q (by omega)
    have ekq : ((i + q : Nat) : Int) - (i : Int) = (q : Int) := by omega
    have en1 : ((n : Nat) : Int) + 1 = ((n + 1 : Nat) : Int) := by omega
    have eBM : List.map bE (be 4 n) ++ List.map bE pf ++ List.map bE (be 2 q) ++ List.map bE ents = List.map bE (be 4 n ++ pf ++ be 2 q ++ ents) := by simp only [List.map_append]
    have eBL : (be 4 n ++ pf ++ be 2 q ++ ents).length = 4 + pf.length + 2 + ents.length := by simp only [List.length_append, bl1, bl2]
    have hr8 := fun A c => hrec 8 (by decide) A c (be 4 n ++ pf ++ be 2 q ++ ents) (by rw [eBL]; omega)
    rw [eBL, ← erts] at hr8
    rw [← erts] at eBM
    have hrl : (recB d.t.toNat 8 (rtsB d.t.toNat n (l.take q))).length ≤ tot.length := by rw [← hinv]; simp only [List.length_append]; omega
    obtain ⟨bs, hbs⟩ : ∃ b, rtsB d.t.toNat n (l.take q) = b := ⟨_, rfl⟩
    rw [hbs] at hr8 eBM hrl hinv
    obtain ⟨rec, hrc⟩ : ∃ b, recB d.t.toNat 8 bs = b := ⟨_, rfl⟩
    rw [hrc] at hr8 hrl hinv
    have eO : out.length + rec.length = (out ++ rec).length := by rw [List.length_append]
    have eOM : List.map bE out ++ List.map bE rec = List.map bE (out ++ rec) := by rw [List.map_append]
    rw [hld, ← List.append_assoc] at hinv
    rcases Nat.lt_or_ge (i + q) d.routes.length with hl2 | hl2
    · obtain ⟨z, hz⟩ : ∃ z, l[q]? = some z := ⟨l[q], List.getElem?_eq_getElem (by omega)⟩
      have hsame := w3 z hz
      have hz2 : d.routes[i + q]? = some z := by rw [← hgets q]; exact hz
      have hlt3 : ((i + q : Nat) : Int) < (d.routes.length : Int) := by omega
      unfold sameP at hsame
      repeat' (first | refine SW ?_ | ((refine HO_g 2 rfl ?_); (refine HO_skip rfl rfl rfl rfl rdA ?_)) | (with_reducible refine HO_dt hlt3 ?_) | (with_reducible refine HO_rw (congrArg Value.bool hsame) ?_) | (with_reducible refine HO_rw (congrArg (Value.int .i64) ekq) ?_) | (with_reducible refine HO_rw (congrArg (Value.int .i64) en1) ?_) | (refine HO_k 12 rfl ?_; refine HO_call rfl rfl rfl rfl (k1) rfl (trivial) rfl rfl soA ?_; intro ⟨z1, f1⟩ g1; dsimp only [List.cons_append, List.nil_append]) | (refine HO_k 12 rfl ?_; refine HO_call rfl rfl rfl rfl (hpp) rfl (trivial) rfl rfl soA ?_; intro ⟨z2, f2⟩ g2; dsimp only [List.cons_append, List.nil_append]) | (refine HO_k 12 rfl ?_; refine HO_call rfl rfl rfl rfl (k2) rfl (trivial) rfl rfl soA ?_; intro ⟨z3, f3⟩ g3; dsimp only [List.cons_append, List.nil_append]) | (refine HO_k 12 rfl ?_; refine HO_call rfl rfl rfl rfl (hr8 _ _) rfl (AllSrc.own 3 rfl eBM trivial) rfl rfl soA ?_; intro ⟨z4, f4⟩ g4; dsimp only [List.cons_append, List.nil_append]) | exact HO_seg rfl rfl | refine S1 ?_ | (refine S2 ?_; intro _) | (refine S3 ?_; intro _ _) | (refine S4 ?_; intro _ _ _) | (refine HO_g 2 rfl ?_; (first | apply HO_and rfl rfl rfl rfl rfl rfl rfl rfl rfl | apply HO_or rfl rfl rfl rfl rfl rfl rfl rfl rfl)) | refine S5 ?_ | (intro hb; try replace hb := simB hb; try exact kill hb))
      rename_i A' c'
      rw [eO, eOM]
      refine HX_keeps (rw' := [ownB (A', c') (out ++ rec), cel b1 26 [.int .i64 d.t, .int .u32 d.id, .slice d.pA d.peers.length d.pc, .slice d.rA d.routes.length d.rc]]) permA ?_
      exact HX_at ⟨n + 1, i + q, (A', c'), out ++ rec⟩ ⟨⟨by simp only; omega, by simp only; omega, hinv⟩, by simp only; omega⟩ ⟨rfl, rfl, rfl, rfl, trivial⟩ rfl
    · have hge2 : ¬ (((i + q : Nat) : Int) < (d.routes.length : Int)) := by omega
      repeat' (first | refine SW ?_ | ((refine HO_g 2 rfl ?_); (refine HO_skip rfl rfl rfl rfl rdA ?_)) | (with_reducible refine HO_df hge2 ?_) | (with_reducible refine HO_rw (congrArg (Value.int .i64) ekq) ?_) | (with_reducible refine HO_rw (congrArg (Value.int .i64) en1) ?_) | (refine HO_k 12 rfl ?_; refine HO_call rfl rfl rfl rfl (k1) rfl (trivial) rfl rfl soA ?_; intro ⟨z1, f1⟩ g1; dsimp only [List.cons_append, List.nil_append]) | (refine HO_k 12 rfl ?_; refine HO_call rfl rfl rfl rfl (hpp) rfl (trivial) rfl rfl soA ?_; intro ⟨z2, f2⟩ g2; dsimp only [List.cons_append, List.nil_append]) | (refine HO_k 12 rfl ?_; refine HO_call rfl rfl rfl rfl (k2) rfl (trivial) rfl rfl soA ?_; intro ⟨z3, f3⟩ g3; dsimp only [List.cons_append, List.nil_append]) | (refine HO_k 12 rfl ?_; refine HO_call rfl rfl rfl rfl (hr8 _ _) rfl (AllSrc.own 3 rfl eBM trivial) rfl rfl soA ?_; intro ⟨z4, f4⟩ g4; dsimp only [List.cons_append, List.nil_append]) | exact HO_seg rfl rfl | refine S1 ?_ | (refine S2 ?_; intro _) | (refine S3 ?_; intro _ _) | (refine S4 ?_; intro _ _ _) | (refine HO_g 2 rfl ?_; (first | apply HO_and rfl rfl rfl rfl rfl rfl rfl rfl rfl | apply HO_or rfl rfl rfl rfl rfl rfl rfl rfl rfl)) | refine S5 ?_ | (intro hb; try replace hb := simB hb; try exact kill hb))
      rename_i A' c'
      rw [eO, eOM]
      refine HX_keeps (rw' := [ownB (A', c') (out ++ rec), cel b1 26 [.int .i64 d.t, .int .u32 d.id, .slice d.pA d.peers.length d.pc, .slice d.rA d.routes.length d.rc]]) permA ?_
      exact HX_at ⟨n + 1, i + q, (A', c'), out ++ rec⟩ ⟨⟨by simp only; omega, by simp only; omega, hinv⟩, by simp only; omega⟩ ⟨rfl, rfl, rfl, rfl, trivial⟩ rfl
end Go.Proofs.YtdeeokkkcfkbjaaGreat
