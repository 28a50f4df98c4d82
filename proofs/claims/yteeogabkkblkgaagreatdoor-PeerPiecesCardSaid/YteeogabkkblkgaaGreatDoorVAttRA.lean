/- Part of a proof of many texts: what the theorem at its end leans on. -/
import Derived.Test.YteeogabkkblkgaaGreatDoorVAttG
namespace Go.Proofs.YteeogabkkblkgaaGreatDoor
set_option maxHeartbeats 1000000000
set_option linter.unusedVariables false
set_option linter.unusedSimpArgs false
open Go.RowKit
attribute [local irreducible] HC HX HO Tri eP adr
theorem one_t (f k : Nat) (hf : f ≤ 1000) (dA : Option Addr) (dc : Nat) (d : List UInt8) (hd : d.length ≤ 65535) :
  Tri Tryz.prog 75 [.int .i64 f, .int .i64 k, .slice dA d.length dc] [arr bE 1 dA d] [] (fun _ : OA => True) (fun x => .slice x.1 (attB f k d).length x.2) (fun x => [ownB x (attB f k d)]) := by
 by_cases hlen : 255 < d.length
 ·have e : attB f k d = UInt8.ofNat (f + 16) :: UInt8.ofNat k :: (be 2 d.length ++ d) := by unfold attB; rw [if_pos hlen]
  have hbe := be_length 2 d.length
  have hf16 : ((f : Int) + 16) = ((f + 16 : Nat) : Int) := by omega
  rw [e]
  refine Tri_in Tryz.func75 rfl (fun w0 S0 => ?_)
  repeat' (first | refine SX ?_ | (with_reducible refine HO_rw (congrArg (Value.int .i64) hf16) ?_) | (with_reducible refine HO_u8n ?_) | (refine KC ?_; refine HO_call rfl rfl rfl rfl (rput_t 2 d.length (by decide) (by omega)) rfl (trivial) rfl rfl soA ?_; intro ⟨xA, xc⟩ hx; dsimp only [lca, lna]) | refine SB ?_ | (refine T2 ?_; intros) | fail)
  rename_i A1 c1 A' c'
  have eL : 2 + 2 + d.length = (UInt8.ofNat (f + 16) :: UInt8.ofNat k :: (be 2 d.length ++ d)).length := by simp only [List.length_cons, List.length_append, hbe]; omega
  have eM : [[Value.int .u8 ((UInt8.ofNat (f + 16)).toNat : Int)], [Value.int .u8 ((UInt8.ofNat k).toNat : Int)]] ++ List.map bE (be 2 d.length) ++ List.map bE d = List.map bE (UInt8.ofNat (f + 16) :: UInt8.ofNat k :: (be 2 d.length ++ d)) := by
   rw [List.map_cons, List.map_cons, List.map_append]; rfl
  rw [eL, eM]
  (refine SRt ?_; unfold RetQ; refine ⟨(A', c'), trivial, rfl, Keeps.cons Ent.rfl_ Keeps.nil⟩)
 ·have e : attB f k d = UInt8.ofNat f :: UInt8.ofNat k :: (be 1 d.length ++ d) := by unfold attB; rw [if_neg hlen]
  have hbe := be_length 1 d.length
  have e1 : be 1 d.length = [UInt8.ofNat d.length] := by simp [be]
  have e2 : ((UInt8.ofNat d.length).toNat : Int) = d.length := by simp; omega
  rw [e]
  refine Tri_in Tryz.func75 rfl (fun w0 S0 => ?_)
  repeat' (first | refine SX ?_ | (with_reducible refine HO_u8n ?_) | refine SB ?_ | (refine T2 ?_; intros) | fail)
  rename_i A' c'
  have eL : 3 + d.length = (UInt8.ofNat f :: UInt8.ofNat k :: (be 1 d.length ++ d)).length := by simp only [List.length_cons, List.length_append, hbe]; omega
  have eM : [[Value.int .u8 ((UInt8.ofNat f).toNat : Int)], [Value.int .u8 ((UInt8.ofNat k).toNat : Int)], [Value.int .u8 (d.length : Int)]] ++ List.map bE d = List.map bE (UInt8.ofNat f :: UInt8.ofNat k :: (be 1 d.length ++ d)) := by
   rw [List.map_cons, List.map_cons, List.map_append, e1, ← e2]; rfl
  rw [eL, eM]
  (refine SRt ?_; unfold RetQ; refine ⟨(A', c'), trivial, rfl, Keeps.cons Ent.rfl_ Keeps.nil⟩)
set_option maxRecDepth 100000 in
theorem rput5_t (a : AttS) (four : Bool) (h : attOk four a = true) (hn : 0 ≤ a.nxt ∧ a.nxt ≤ 4294967295) :
  Tri Tryz.prog 48 [.agg a.e.toArray, .bool four] a.ro [] (fun _ : OA => True) (fun x => .slice x.1 (putB (szF four) a.pa).length x.2) (fun x => [ownB x (putB (szF four) a.pa)]) := by
 have hok := okP_of hn (by rw [← ok_pa]; exact h)
 have hz := szF_bd four
 have hpl := pathB_len (szF four) hz.2 a.pa.path hok.s
 have hl8 := hok.l
 have hc32 := hok.c
 have hsl : ∀ s ∈ a.path, s.ns.length ≤ 64 ∧ ∀ x ∈ s.ns, fitsB (szF four) x = true := fun s hs => by
  have := hok.s (s.set, s.ns) (List.mem_map.2 ⟨s, hs, rfl⟩)
  simp only [okSeg, Bool.and_eq_true, decide_eq_true_eq] at this
  exact ⟨this.1.2, any_not this.2⟩
 obtain ⟨org, pA, pc, path, nxt, med, pref, cA, cc, comms⟩ := a
 simp only [AttS.pa] at hpl hl8 hc32 hok ⊢
 dsimp only at hn hsl
 have ho := hok.o
 have hm := hok.m
 have hf := hok.f
 dsimp only at ho hm hf
 obtain ⟨o, rfl⟩ : ∃ o : Nat, org = o := ⟨org.toNat, by omega⟩
 obtain ⟨o8, rfl⟩ : ∃ u : UInt8, o = u.toNat := ⟨UInt8.ofNat o, by simp; omega⟩
 obtain ⟨nx, rfl⟩ : ∃ o : Nat, nxt = o := ⟨nxt.toNat, by omega⟩
 have hsp : (spl path).length = path.length := by simp [spl]
 have hb1 := attB_len 64 1 [o8]
 have hb2 := attB_len 64 2 (pathB (szF four) (spl path))
 have hb3 := attB_len 64 3 (be 4 nx)
 have hbe := be_length 4 nx
 simp only [List.length_cons, List.length_nil] at hb1
 refine Tri_in Tryz.func48 rfl (fun w0 S0 => ?_)
 dsimp only [AttS.ro, AttS.e]
 repeat' (first | refine SX ?_ | (with_reducible refine HO_u8n ?_) | (refine KC ?_; refine HO_call rfl rfl rfl rfl (one_t 64 1 (by decide) _ 1 [o8] (by simp)) rfl (srcsA) rfl rfl soA ?_; intro ⟨x1, c1⟩ h1; dsimp only [lca, lna]) | refine SB ?_ | (refine T2 ?_; intros) | (intro hb; try replace hb := simB hb; try exact kill hb))
 rename_i ba br
 refine HC_keeps (rw' := [ownB (x1, c1) (attB 64 1 [o8]), cel ba 53 [.int .i64 o8.toNat, .slice pA path.length pc, .int .u32 nx, .int .i64 med, .int .i64 pref, .slice cA comms.length cc]]) permA ?_
 refine HC_add (e := ownB (none, 0) []) (fun w => own_nil w) ?_
 refine HC_loop (α := Nat × OA) (fun x => x.1 ≤ path.length) (fun x => [(7, .int .i64 x.1), (6, .slice x.2.1 (pathB (szF four) (spl (path.take x.1))).length x.2.2), (5, .slice x1 (attB 64 1 [o8]).length c1), (2, pt ba), (1, .bool four)])
  (fun x => [ownB x.2 (pathB (szF four) (spl (path.take x.1))), ownB (x1, c1) (attB 64 1 [o8]), cel ba 53 [.int .i64 o8.toNat, .slice pA path.length pc, .int .u32 nx, .int .i64 med, .int .i64 pref, .slice cA comms.length cc]]) (fun x => path.length - x.1) rfl (0, (none, 0)) (Nat.zero_le _) ⟨rfl, rfl, rfl, rfl, rfl, trivial⟩ rfl ?_
 intro ⟨j, ⟨xA, xc⟩⟩ hj
 dsimp only [pt] at hj ⊢
 have hjl := pathB_le (szF four) path j
 rcases Nat.lt_or_ge j path.length with hlt | hge
 ·obtain ⟨s, hs0⟩ : ∃ s, path[j]? = some s := ⟨path[j], List.getElem?_eq_getElem hlt⟩
  have hsm := List.mem_of_getElem? hs0
  obtain ⟨h64, hfs⟩ := hsl s hsm
  have e1 : path.take (j + 1) = path.take j ++ [s] := by rw [List.take_add_one, hs0]; rfl
  obtain ⟨set, sA, sc, ns⟩ := s
  dsimp only at h64 hfs
  cases set
  ·have ekk : pathB (szF four) (spl (path.take (j + 1))) = pathB (szF four) (spl (path.take j)) ++ 2 :: UInt8.ofNat ns.length :: nb (szF four) ns := by rw [e1, pathB_snoc]; rfl
   repeat' (first | refine SX ?_ | (with_reducible refine HO_u8n ?_) | refine SB ?_ | (refine T2 ?_; intros) | (intro hb; try replace hb := simB hb; try exact kill hb))
   rename_i bs b2 A2 c2
   obtain ⟨P2, hP2⟩ : ∃ P2, P2 = pathB (szF four) (spl (path.take j)) ++ [2, UInt8.ofNat ns.length] := ⟨_, rfl⟩
   have hP2l : P2.length = (pathB (szF four) (spl (path.take j))).length + 2 := by rw [hP2, List.length_append]; rfl
   have eM : List.map bE (pathB (szF four) (spl (path.take j))) ++ [[Value.int .u8 2], [Value.int .u8 ((UInt8.ofNat ns.length).toNat : Int)]] = List.map bE P2 := by rw [hP2, List.map_append]; rfl
   rw [eM, ← hP2l]
   refine HC_see (enc := iE) (sz := 1) (A := sA) (xs := ns) List.mem_cons_self (seg_mem hsm) ?_
   have e0 : P2 = P2 ++ nb (szF four) (ns.take 0) := by simp [nb]
   refine HC_keeps (rw' := [ownB (A2, c2) P2, ownB (x1, c1) (attB 64 1 [o8]), cel ba 53 [.int .i64 o8.toNat, .slice pA path.length pc, .int .u32 nx, .int .i64 med, .int .i64 pref, .slice cA comms.length cc], cel bs 147 [.bool false, .slice sA ns.length sc]]) permA ?_
   refine HC_loop (α := Nat × OA) (fun x => x.1 ≤ ns.length) (fun x => [(10, .int .i64 x.1), (8, pt bs), (7, .int .i64 j), (6, .slice x.2.1 (P2 ++ nb (szF four) (ns.take x.1)).length x.2.2), (5, .slice x1 (attB 64 1 [o8]).length c1), (2, pt ba), (1, .bool four)])
    (fun x => [ownB x.2 (P2 ++ nb (szF four) (ns.take x.1)), ownB (x1, c1) (attB 64 1 [o8]), cel ba 53 [.int .i64 o8.toNat, .slice pA path.length pc, .int .u32 nx, .int .i64 med, .int .i64 pref, .slice cA comms.length cc], cel bs 147 [.bool false, .slice sA ns.length sc]]) (fun x => ns.length - x.1) rfl (0, (A2, c2)) (Nat.zero_le _) ⟨rfl, rfl, rfl, by rw [← e0]; rfl, rfl, rfl, rfl, trivial⟩ (by rw [← e0]) ?_
   intro ⟨k, ⟨yA, yc⟩⟩ hk
   dsimp only [pt] at hk ⊢
   have hnl := nb_length (szF four) (ns.take k)
   have htk : (ns.take k).length ≤ 64 := by simp; omega
   have hmul : (ns.take k).length * szF four ≤ 64 * 4 := Nat.mul_le_mul htk hz.2
   rcases Nat.lt_or_ge k ns.length with hklt | hkge
   ·obtain ⟨m, hm0⟩ : ∃ m, ns[k]? = some m := ⟨ns[k], List.getElem?_eq_getElem hklt⟩
    obtain ⟨q, rfl, hq⟩ := fitsB_nat (hfs m (List.mem_of_getElem? hm0))
    have hq9 : q ≤ 9223372036854775807 := by
     have := Nat.pow_le_pow_right (show 0 < 256 by decide) hz.2
     omega
    have e2 : ns.take (k + 1) = ns.take k ++ [(q : Int)] := by rw [List.take_add_one, hm0]; rfl
    have hbe2 := be_length (szF four) q
    have eL : (P2 ++ nb (szF four) (ns.take k)).length + szF four = (P2 ++ nb (szF four) (ns.take (k + 1))).length := by rw [e2, nb_snoc, Int.toNat_natCast]; simp only [List.length_append, hbe2]; omega
    have eN : List.map bE (P2 ++ nb (szF four) (ns.take k)) ++ List.map bE (be (szF four) q) = List.map bE (P2 ++ nb (szF four) (ns.take (k + 1))) := by rw [e2, nb_snoc, Int.toNat_natCast, ← List.append_assoc, List.map_append (l₁ := P2 ++ _)]
    repeat' (first | refine SX ?_ | (refine KC ?_; refine HO_callq rfl rfl rfl rfl (rsize_t four) (fun _ _ => rfl) (trivial) rfl rfl sqA ?_) | (refine KC ?_; refine HO_call rfl rfl rfl rfl (rput_t (szF four) q hz.2 hq9) rfl (trivial) rfl rfl soA ?_; intro ⟨zA, zc⟩ hz1; dsimp only [lca, lna]) | refine SB ?_ | (refine T2 ?_; intros) | (intro hb; try replace hb := simB hb; try exact kill hb))
    rename_i A' c'
    rw [eL, eN]
    refine HX_keeps (rw' := [ownB (A', c') (P2 ++ nb (szF four) (ns.take (k + 1))), ownB (x1, c1) (attB 64 1 [o8]), cel ba 53 [.int .i64 o8.toNat, .slice pA path.length pc, .int .u32 nx, .int .i64 med, .int .i64 pref, .slice cA comms.length cc], cel bs 147 [.bool false, .slice sA ns.length sc]]) permA ?_
    exact HX_at (k + 1, (A', c')) ⟨hklt, by simp only; omega⟩ ⟨rfl, rfl, rfl, rfl, rfl, rfl, rfl, trivial⟩ rfl
   ·obtain rfl : k = ns.length := by omega
    have e3 : P2 ++ nb (szF four) (ns.take ns.length) = pathB (szF four) (spl (path.take (j + 1))) := by rw [List.take_length, ekk, hP2]; simp
    rw [e3]
    repeat' (first | refine SX ?_ | refine SB ?_ | (refine T2 ?_; intros) | (intro hb; try replace hb := simB hb; try exact kill hb))
    refine HX_unsee ?_
    refine HX_keeps (rw' := [ownB (yA, yc) (pathB (szF four) (spl (path.take (j + 1)))), ownB (x1, c1) (attB 64 1 [o8]), cel ba 53 [.int .i64 o8.toNat, .slice pA path.length pc, .int .u32 nx, .int .i64 med, .int .i64 pref, .slice cA comms.length cc]]) permA ?_
    exact HX_at (j + 1, (yA, yc)) ⟨hlt, by simp only; omega⟩ ⟨rfl, rfl, rfl, rfl, rfl, trivial⟩ rfl
  ·have ekk : pathB (szF four) (spl (path.take (j + 1))) = pathB (szF four) (spl (path.take j)) ++ 1 :: UInt8.ofNat ns.length :: nb (szF four) ns := by rw [e1, pathB_snoc]; rfl
   repeat' (first | refine SX ?_ | (with_reducible refine HO_u8n ?_) | refine SB ?_ | (refine T2 ?_; intros) | (intro hb; try replace hb := simB hb; try exact kill hb))
   rename_i bs b2 A2 c2
   obtain ⟨P2, hP2⟩ : ∃ P2, P2 = pathB (szF four) (spl (path.take j)) ++ [1, UInt8.ofNat ns.length] := ⟨_, rfl⟩
   have hP2l : P2.length = (pathB (szF four) (spl (path.take j))).length + 2 := by rw [hP2, List.length_append]; rfl
   have eM : List.map bE (pathB (szF four) (spl (path.take j))) ++ [[Value.int .u8 1], [Value.int .u8 ((UInt8.ofNat ns.length).toNat : Int)]] = List.map bE P2 := by rw [hP2, List.map_append]; rfl
   rw [eM, ← hP2l]
   refine HC_see (enc := iE) (sz := 1) (A := sA) (xs := ns) List.mem_cons_self (seg_mem hsm) ?_
   have e0 : P2 = P2 ++ nb (szF four) (ns.take 0) := by simp [nb]
   refine HC_keeps (rw' := [ownB (A2, c2) P2, ownB (x1, c1) (attB 64 1 [o8]), cel ba 53 [.int .i64 o8.toNat, .slice pA path.length pc, .int .u32 nx, .int .i64 med, .int .i64 pref, .slice cA comms.length cc], cel bs 147 [.bool true, .slice sA ns.length sc]]) permA ?_
   refine HC_loop (α := Nat × OA) (fun x => x.1 ≤ ns.length) (fun x => [(10, .int .i64 x.1), (8, pt bs), (7, .int .i64 j), (6, .slice x.2.1 (P2 ++ nb (szF four) (ns.take x.1)).length x.2.2), (5, .slice x1 (attB 64 1 [o8]).length c1), (2, pt ba), (1, .bool four)])
    (fun x => [ownB x.2 (P2 ++ nb (szF four) (ns.take x.1)), ownB (x1, c1) (attB 64 1 [o8]), cel ba 53 [.int .i64 o8.toNat, .slice pA path.length pc, .int .u32 nx, .int .i64 med, .int .i64 pref, .slice cA comms.length cc], cel bs 147 [.bool true, .slice sA ns.length sc]]) (fun x => ns.length - x.1) rfl (0, (A2, c2)) (Nat.zero_le _) ⟨rfl, rfl, rfl, by rw [← e0]; rfl, rfl, rfl, rfl, trivial⟩ (by rw [← e0]) ?_
   intro ⟨k, ⟨yA, yc⟩⟩ hk
   dsimp only [pt] at hk ⊢
   have hnl := nb_length (szF four) (ns.take k)
   have htk : (ns.take k).length ≤ 64 := by simp; omega
   have hmul : (ns.take k).length * szF four ≤ 64 * 4 := Nat.mul_le_mul htk hz.2
   rcases Nat.lt_or_ge k ns.length with hklt | hkge
   ·obtain ⟨m, hm0⟩ : ∃ m, ns[k]? = some m := ⟨ns[k], List.getElem?_eq_getElem hklt⟩
    obtain ⟨q, rfl, hq⟩ := fitsB_nat (hfs m (List.mem_of_getElem? hm0))
    have hq9 : q ≤ 9223372036854775807 := by
     have := Nat.pow_le_pow_right (show 0 < 256 by decide) hz.2
     omega
    have e2 : ns.take (k + 1) = ns.take k ++ [(q : Int)] := by rw [List.take_add_one, hm0]; rfl
    have hbe2 := be_length (szF four) q
    have eL : (P2 ++ nb (szF four) (ns.take k)).length + szF four = (P2 ++ nb (szF four) (ns.take (k + 1))).length := by rw [e2, nb_snoc, Int.toNat_natCast]; simp only [List.length_append, hbe2]; omega
    have eN : List.map bE (P2 ++ nb (szF four) (ns.take k)) ++ List.map bE (be (szF four) q) = List.map bE (P2 ++ nb (szF four) (ns.take (k + 1))) := by rw [e2, nb_snoc, Int.toNat_natCast, ← List.append_assoc, List.map_append (l₁ := P2 ++ _)]
    repeat' (first | refine SX ?_ | (refine KC ?_; refine HO_callq rfl rfl rfl rfl (rsize_t four) (fun _ _ => rfl) (trivial) rfl rfl sqA ?_) | (refine KC ?_; refine HO_call rfl rfl rfl rfl (rput_t (szF four) q hz.2 hq9) rfl (trivial) rfl rfl soA ?_; intro ⟨zA, zc⟩ hz1; dsimp only [lca, lna]) | refine SB ?_ | (refine T2 ?_; intros) | (intro hb; try replace hb := simB hb; try exact kill hb))
    rename_i A' c'
    rw [eL, eN]
    refine HX_keeps (rw' := [ownB (A', c') (P2 ++ nb (szF four) (ns.take (k + 1))), ownB (x1, c1) (attB 64 1 [o8]), cel ba 53 [.int .i64 o8.toNat, .slice pA path.length pc, .int .u32 nx, .int .i64 med, .int .i64 pref, .slice cA comms.length cc], cel bs 147 [.bool true, .slice sA ns.length sc]]) permA ?_
    exact HX_at (k + 1, (A', c')) ⟨hklt, by simp only; omega⟩ ⟨rfl, rfl, rfl, rfl, rfl, rfl, rfl, trivial⟩ rfl
   ·obtain rfl : k = ns.length := by omega
    have e3 : P2 ++ nb (szF four) (ns.take ns.length) = pathB (szF four) (spl (path.take (j + 1))) := by rw [List.take_length, ekk, hP2]; simp
    rw [e3]
    repeat' (first | refine SX ?_ | refine SB ?_ | (refine T2 ?_; intros) | (intro hb; try replace hb := simB hb; try exact kill hb))
    refine HX_unsee ?_
    refine HX_keeps (rw' := [ownB (yA, yc) (pathB (szF four) (spl (path.take (j + 1)))), ownB (x1, c1) (attB 64 1 [o8]), cel ba 53 [.int .i64 o8.toNat, .slice pA path.length pc, .int .u32 nx, .int .i64 med, .int .i64 pref, .slice cA comms.length cc]]) permA ?_
    exact HX_at (j + 1, (yA, yc)) ⟨hlt, by simp only; omega⟩ ⟨rfl, rfl, rfl, rfl, rfl, trivial⟩ rfl
 obtain rfl : j = path.length := by omega
 rw [List.take_length]
 repeat' (first | refine SX ?_ | (refine KC ?_; refine HO_call rfl rfl rfl rfl (one_t 64 2 (by decide) xA xc (pathB (szF four) (spl path)) (by omega)) rfl (srcsA) rfl rfl soA ?_; intro ⟨y2, d2⟩ h2; dsimp only [lca, lna]) | (refine KC ?_; refine HO_call rfl rfl rfl rfl (rput_t 4 nx (by decide) (by omega)) rfl (trivial) rfl rfl soA ?_; intro ⟨zA, zc⟩ hz1; dsimp only [lca, lna]) | (refine KC ?_; refine HO_call rfl rfl rfl rfl (one_t 64 3 (by decide) zA zc (be 4 nx) (by omega)) rfl (srcsA) rfl rfl soA ?_; intro ⟨y3, d3⟩ h3; dsimp only [lca, lna]) | refine SB ?_ | (refine T2 ?_; intros) | (intro hb; try replace hb := simB hb; try exact kill hb))
 rename_i A3 c3
 obtain ⟨l3, hl3⟩ : ∃ l, l = attB 64 1 [o8] ++ attB 64 2 (pathB (szF four) (spl path)) ++ attB 64 3 (be 4 nx) := ⟨_, rfl⟩
 have hb3' : l3.length ≤ 3000 := by rw [hl3, List.length_append, List.length_append]; omega
 have eL : (attB 64 1 [o8]).length + (attB 64 2 (pathB (szF four) (spl path))).length + (attB 64 3 (be 4 nx)).length = l3.length := by rw [hl3, List.length_append, List.length_append]
 have eM : List.map bE (attB 64 1 [o8]) ++ List.map bE (attB 64 2 (pathB (szF four) (spl path))) ++ List.map bE (attB 64 3 (be 4 nx)) = List.map bE l3 := by rw [hl3, List.map_append, List.map_append]
 rw [eL, eM]
 refine HC_cutP (α := OA) (fun _ => True) (fun x => [(5, .slice x.1 (l3 ++ medB med).length x.2), (2, pt ba)]) (fun x => [ownB x (l3 ++ medB med), cel ba 53 [.int .i64 o8.toNat, .slice pA path.length pc, .int .u32 nx, .int .i64 med, .int .i64 pref, .slice cA comms.length cc]]) ?_ ?_
 ·refine HC_cond rfl rfl (fun hb => ?_) (fun hb => ?_)
  ·replace hb := simB hb
   obtain ⟨mn, hmn⟩ : ∃ n : Nat, med = n := ⟨med.toNat, by omega⟩
   have hv : Value.int .i64 med = Value.int .i64 mn := by rw [hmn]
   have e : medB med = attB 128 4 (be 4 mn) := by unfold medB; rw [if_pos hb, hmn, Int.toNat_natCast]
   have hba := attB_len 128 4 (be 4 mn)
   rw [be_length] at hba
   repeat' (first | refine SX ?_ | (with_reducible refine HO_rw hv ?_) | (refine KC ?_; refine HO_call rfl rfl rfl rfl (rput_t 4 mn (by decide) (by omega)) rfl (trivial) rfl rfl soA ?_; intro ⟨zA, zc⟩ hz1; dsimp only [lca, lna]) | (refine KC ?_; refine HO_call rfl rfl rfl rfl (one_t 128 4 (by decide) zA zc (be 4 mn) (by rw [be_length]; decide)) rfl (srcsA) rfl rfl soA ?_; intro ⟨yA, yc⟩ hy1; dsimp only [lca, lna]) | refine SB ?_ | (refine T2 ?_; intros) | (intro hb; try replace hb := simB hb; try exact kill hb))
   rename_i A9 c9
   have eL : l3.length + (attB 128 4 (be 4 mn)).length = (l3 ++ medB med).length := by rw [e, List.length_append]
   have eM : List.map bE l3 ++ List.map bE (attB 128 4 (be 4 mn)) = List.map bE (l3 ++ medB med) := by rw [e, List.map_append]
   rw [eL, eM]
   refine HX_keeps (rw' := [ownB (A9, c9) (l3 ++ medB med), cel ba 53 [.int .i64 o8.toNat, .slice pA path.length pc, .int .u32 nx, .int .i64 med, .int .i64 pref, .slice cA comms.length cc]]) permA ?_
   exact HX_at (A9, c9) trivial ⟨rfl, rfl, trivial⟩ rfl
  ·replace hb := simB hb
   have e : l3 ++ medB med = l3 := by unfold medB; rw [if_neg (by omega), List.append_nil]
   repeat' (first | refine SW ?_ | refine SB ?_ | (refine T2 ?_; intros) | (intro hb; try replace hb := simB hb; try exact kill hb))
   rw [e]
   refine HX_keeps (rw' := [ownB (_, _) l3, cel ba 53 [.int .i64 o8.toNat, .slice pA path.length pc, .int .u32 nx, .int .i64 med, .int .i64 pref, .slice cA comms.length cc]]) permA ?_
   exact HX_at (_, _) trivial ⟨rfl, rfl, trivial⟩ rfl
 intro ⟨wA, wc⟩ _
 obtain ⟨l4, hl4⟩ : ∃ l, l = l3 ++ medB med := ⟨_, rfl⟩
 have hbl4 : l4.length ≤ l3.length + 8 := by
  rw [hl4, List.length_append]
  unfold medB
  have := attB_len 128 4 (be 4 med.toNat)
  rw [be_length] at this
  split
  ·omega
  ·simp
 rw [← hl4]
 dsimp only
 repeat' (first | refine SW ?_ | refine SB ?_ | (refine T2 ?_; intros) | (intro hb; try replace hb := simB hb; try exact kill hb))
 refine HC_cutP (α := OA) (fun _ => True) (fun x => [(5, .slice x.1 (l4 ++ prefB pref).length x.2), (2, pt ba)]) (fun x => [ownB x (l4 ++ prefB pref), cel ba 53 [.int .i64 o8.toNat, .slice pA path.length pc, .int .u32 nx, .int .i64 med, .int .i64 pref, .slice cA comms.length cc]]) ?_ ?_
 ·refine HC_cond rfl rfl (fun hb => ?_) (fun hb => ?_)
  ·replace hb := simB hb
   obtain ⟨mn, hmn⟩ : ∃ n : Nat, pref = n := ⟨pref.toNat, by omega⟩
   have hv : Value.int .i64 pref = Value.int .i64 mn := by rw [hmn]
   have e : prefB pref = attB 64 5 (be 4 mn) := by unfold prefB; rw [if_pos hb, hmn, Int.toNat_natCast]
   have hba := attB_len 64 5 (be 4 mn)
   rw [be_length] at hba
   repeat' (first | refine SX ?_ | (with_reducible refine HO_rw hv ?_) | (refine KC ?_; refine HO_call rfl rfl rfl rfl (rput_t 4 mn (by decide) (by omega)) rfl (trivial) rfl rfl soA ?_; intro ⟨zA, zc⟩ hz1; dsimp only [lca, lna]) | (refine KC ?_; refine HO_call rfl rfl rfl rfl (one_t 64 5 (by decide) zA zc (be 4 mn) (by rw [be_length]; decide)) rfl (srcsA) rfl rfl soA ?_; intro ⟨yA, yc⟩ hy1; dsimp only [lca, lna]) | refine SB ?_ | (refine T2 ?_; intros) | (intro hb; try replace hb := simB hb; try exact kill hb))
   rename_i A9 c9
   have eL : l4.length + (attB 64 5 (be 4 mn)).length = (l4 ++ prefB pref).length := by rw [e, List.length_append]
   have eM : List.map bE l4 ++ List.map bE (attB 64 5 (be 4 mn)) = List.map bE (l4 ++ prefB pref) := by rw [e, List.map_append]
   rw [eL, eM]
   refine HX_keeps (rw' := [ownB (A9, c9) (l4 ++ prefB pref), cel ba 53 [.int .i64 o8.toNat, .slice pA path.length pc, .int .u32 nx, .int .i64 med, .int .i64 pref, .slice cA comms.length cc]]) permA ?_
   exact HX_at (A9, c9) trivial ⟨rfl, rfl, trivial⟩ rfl
  ·replace hb := simB hb
   have e : l4 ++ prefB pref = l4 := by unfold prefB; rw [if_neg (by omega), List.append_nil]
   repeat' (first | refine SW ?_ | refine SB ?_ | (refine T2 ?_; intros) | (intro hb; try replace hb := simB hb; try exact kill hb))
   rw [e]
   refine HX_keeps (rw' := [ownB (_, _) l4, cel ba 53 [.int .i64 o8.toNat, .slice pA path.length pc, .int .u32 nx, .int .i64 med, .int .i64 pref, .slice cA comms.length cc]]) permA ?_
   exact HX_at (_, _) trivial ⟨rfl, rfl, trivial⟩ rfl
 intro ⟨wA, wc⟩ _
 obtain ⟨l5, hl5⟩ : ∃ l, l = l4 ++ prefB pref := ⟨_, rfl⟩
 have hbl5 : l5.length ≤ l4.length + 8 := by
  rw [hl5, List.length_append]
  unfold prefB
  have := attB_len 64 5 (be 4 pref.toNat)
  rw [be_length] at this
  split
  ·omega
  ·simp
 rw [← hl5]
 dsimp only
 repeat' (first | refine SW ?_ | refine SB ?_ | (refine T2 ?_; intros) | (intro hb; try replace hb := simB hb; try exact kill hb))
 refine HC_add (e := ownB (none, 0) []) (fun w => own_nil w) ?_
 refine HC_loop (α := Nat × OA) (fun x => x.1 ≤ comms.length) (fun x => [(12, .int .i64 x.1), (11, .slice x.2.1 (nb 4 (comms.take x.1)).length x.2.2), (5, .slice wA l5.length wc), (2, pt ba)])
  (fun x => [ownB x.2 (nb 4 (comms.take x.1)), ownB (wA, wc) l5, cel ba 53 [.int .i64 o8.toNat, .slice pA path.length pc, .int .u32 nx, .int .i64 med, .int .i64 pref, .slice cA comms.length cc]]) (fun x => comms.length - x.1) rfl (0, (none, 0)) (Nat.zero_le _) ⟨rfl, rfl, rfl, rfl, trivial⟩ rfl ?_
 intro ⟨j, ⟨vA, vc⟩⟩ hj
 dsimp only [pt] at hj ⊢
 have hnl := nb_length 4 (comms.take j)
 have htk : (comms.take j).length ≤ 32 := by simp; omega
 rcases Nat.lt_or_ge j comms.length with hlt | hge
 ·obtain ⟨m, hm0⟩ : ∃ m, comms[j]? = some m := ⟨comms[j], List.getElem?_eq_getElem hlt⟩
  obtain ⟨q, rfl, hq⟩ := fitsB_nat (hok.cs m (List.mem_of_getElem? hm0))
  have e2 : comms.take (j + 1) = comms.take j ++ [(q : Int)] := by rw [List.take_add_one, hm0]; rfl
  have hbe2 := be_length 4 q
  have eL : (nb 4 (comms.take j)).length + 4 = (nb 4 (comms.take (j + 1))).length := by rw [e2, nb_snoc, Int.toNat_natCast]; simp only [List.length_append, hbe2]
  have eN : List.map bE (nb 4 (comms.take j)) ++ List.map bE (be 4 q) = List.map bE (nb 4 (comms.take (j + 1))) := by rw [e2, nb_snoc, Int.toNat_natCast, List.map_append]
  repeat' (first | refine SX ?_ | (refine KC ?_; refine HO_call rfl rfl rfl rfl (rput_t 4 q (by decide) (by omega)) rfl (trivial) rfl rfl soA ?_; intro ⟨zA, zc⟩ hz1; dsimp only [lca, lna]) | refine SB ?_ | (refine T2 ?_; intros) | (intro hb; try replace hb := simB hb; try exact kill hb))
  rename_i A' c'
  rw [eL, eN]
  refine HX_keeps (rw' := [ownB (A', c') (nb 4 (comms.take (j + 1))), ownB (wA, wc) l5, cel ba 53 [.int .i64 o8.toNat, .slice pA path.length pc, .int .u32 nx, .int .i64 med, .int .i64 pref, .slice cA comms.length cc]]) permA ?_
  exact HX_at (j + 1, (A', c')) ⟨hlt, by simp only; omega⟩ ⟨rfl, rfl, rfl, rfl, trivial⟩ rfl
 obtain rfl : j = comms.length := by omega
 rw [List.take_length]
 have hnc := nb_length 4 comms
 have hfin : putB (szF four) ⟨o8.toNat, spl path, nx, med, pref, comms⟩ = l5 ++ commB comms := by
  have e1 : UInt8.ofNat (Int.toNat (o8.toNat : Int)) = o8 := by simp
  have e2 : Int.toNat (nx : Int) = nx := by simp
  unfold putB
  rw [hl5, hl4, hl3, e1, e2]
 rw [hfin]
 by_cases h0 : 0 < comms.length
 ·have hba := attB_len 192 8 (nb 4 comms)
  have e : commB comms = attB 192 8 (nb 4 comms) := by unfold commB; rw [if_pos h0]
  rw [e]
  repeat' (first | refine SX ?_ | (refine KC ?_; refine HO_call rfl rfl rfl rfl (one_t 192 8 (by decide) vA vc (nb 4 comms) (by omega)) rfl (srcsA) rfl rfl soA ?_; intro ⟨yA, yc⟩ hy1; dsimp only [lca, lna]) | refine SB ?_ | (refine T2 ?_; intros) | (intro hb; try replace hb := simB hb; try exact kill hb))
  rename_i A9 c9
  rw [show l5.length + (attB 192 8 (nb 4 comms)).length = (l5 ++ attB 192 8 (nb 4 comms)).length by rw [List.length_append], show List.map bE l5 ++ List.map bE (attB 192 8 (nb 4 comms)) = List.map bE (l5 ++ attB 192 8 (nb 4 comms)) by rw [List.map_append]]
  (refine SRt ?_; unfold RetQ; refine ⟨(A9, c9), trivial, rfl, permA⟩)
 ·have e : commB comms = [] := by unfold commB; rw [if_neg h0]
  rw [e, List.append_nil]
  repeat' (first | refine SX ?_ | refine SB ?_ | (refine T2 ?_; intros) | (intro hb; try replace hb := simB hb; try exact kill hb))
  (refine SRt ?_; unfold RetQ; refine ⟨(wA, wc), trivial, rfl, permA⟩)
end Go.Proofs.YteeogabkkblkgaaGreatDoor
