/- The reference's interfaces; whether settings may be. -/
import Derived.Test.YtbhiojedmkcfoaaGreatDoorCfH
namespace Go.Proofs.YtbhiojedmkcfoaaGreatDoor
set_option linter.unusedVariables false
set_option linter.unusedSimpArgs false
open Go.RowKit
attribute [local irreducible] HC HX HO Tri eP adr

theorem bad_e (x : IfQ) : (decide (x.id < 0) || decide (4294967295 < x.id) || decide (x.router < 0) || decide (15 < x.router) || !okX x.a x.n || decide (x.cap < 0) || decide (9007199254740991 < x.cap)) = !ifOk x := by
  unfold ifOk within
  by_cases h1 : x.id < 0 <;> by_cases h2 : 4294967295 < x.id <;> by_cases h3 : x.router < 0 <;> by_cases h4 : 15 < x.router <;> by_cases h5 : x.cap < 0 <;> by_cases h6 : 9007199254740991 < x.cap <;> cases okX x.a x.n <;> simp [h1, h2, h3, h4, h5, h6] <;> omega
theorem nodup_pre {α : Type} {l : List α} (h : l.Nodup) (i : Nat) : (l.take i).Nodup := h.sublist (List.take_sublist i l)
theorem ids_at {l : List IfQ} {i : Nat} {x : IfQ} (h : l[i]? = some x) : (idsL l)[i]? = some x.id := by unfold idsL; rw [List.getElem?_map, h]; rfl
theorem nets_at {l : List IfQ} {i : Nat} {x : IfQ} (h : l[i]? = some x) : (netsL l)[i]? = some (x.router, x.a, x.n) := by unfold netsL; rw [List.getElem?_map, h]; rfl
theorem ifs_dup {l : List IfQ} {i k : Nat} {x y : IfQ} (hx : l[i]? = some x) (hy : l[k]? = some y) (hk : k < i) (h : y.id = x.id ∨ (y.router = x.router ∧ y.a = x.a ∧ y.n = x.n)) : ifsOk l = false := by
  cases hok : ifsOk l with
  | false => rfl
  | true =>
    exfalso
    unfold ifsOk at hok
    simp only [Bool.and_eq_true, decide_eq_true_eq] at hok
    obtain ⟨_, h1, h2, _⟩ := hok
    rcases h with h | ⟨a1, a2, a3⟩
    · exact ((nodup_take _ i _ (ids_at hx)).1 (nodup_pre h1 (i + 1))).2 k _ hk (ids_at hy) h
    · exact ((nodup_take _ i _ (nets_at hx)).1 (nodup_pre h2 (i + 1))).2 k _ hk (nets_at hy) (by rw [a1, a2, a3])
theorem ifs_odd {l : List IfQ} {i : Nat} {x : IfQ} (hx : l[i]? = some x) (h : ifOk x = false) : ifsOk l = false := by
  unfold ifsOk
  have : l.all ifOk = false := List.all_eq_false.2 ⟨x, List.mem_of_getElem? hx, by rw [h]; decide⟩
  rw [this]
  simp
theorem ids_take (l : List IfQ) (i : Nat) : idsL (l.take i) = (idsL l).take i := by unfold idsL; rw [List.map_take]
theorem nets_take (l : List IfQ) (i : Nat) : netsL (l.take i) = (netsL l).take i := by unfold netsL; rw [List.map_take]
theorem ifs_all {l : List IfQ} (h1 : ∀ q y, q < l.length → l[q]? = some y → ifOk y = true) (h2 : ((idsL l).take l.length).Nodup) (h3 : ((netsL l).take l.length).Nodup) : decide ((l.length : Int) ≤ 256) = ifsOk l := by
  have e1 : (idsL l).length = l.length := by simp [idsL]
  have e2 : (netsL l).length = l.length := by simp [netsL]
  rw [List.take_of_length_le (by omega)] at h2 h3
  unfold ifsOk
  have h4 : l.all ifOk = true := by
    rw [List.all_eq_true]
    intro x hx
    obtain ⟨q, hq⟩ := List.getElem?_of_mem hx
    exact h1 q x (List.getElem?_eq_some_iff.1 hq).1 hq
  have h2' : (l.map (·.id)).Nodup := h2
  have h3' : (l.map fun x => (x.router, x.a, x.n)).Nodup := h3
  rw [decide_eq_true h2', decide_eq_true h3', h4]
  simp only [Bool.true_and, Bool.and_true]
  exact decide_eq_decide.2 (by omega)
set_option maxHeartbeats 16000000 in
theorem r16check_t (A : Option Addr) (c : Nat) (l : List IfQ) (hl : l.length ≤ 1000000) (ha : ∀ x ∈ l, x.a < 4294967296) :
    Tri Tryz.prog 65 [.slice A l.length c] [arr IfQ.e 5 A l] [] (fun _ : Unit => True) (fun _ => .bool (ifsOk l)) (fun _ => []) := by
  refine Tri_of (N := Tryz.f65.ntmps) (c := bodyOf Tryz.f65) Tryz.func65 rfl rfl rfl rfl (fun w0 S0 => ?_)
  repeat' (first | refine SW ?_ | refine SD ?_ | exact HO_seg rfl rfl | refine S1 ?_ | (refine S2 ?_; intro _) | (refine S3 ?_; intro _ _) | (refine S4 ?_; intro _ _ _) | (refine HO_g 2 rfl ?_; (first | apply HO_and rfl rfl rfl rfl rfl rfl rfl rfl rfl | apply HO_or rfl rfl rfl rfl rfl rfl rfl rfl rfl)) | refine S5 ?_ | (intro hb; try replace hb := simB hb; try exact kill hb))
  refine HC_loop (α := Nat) (fun i => i ≤ l.length ∧ (∀ q y, q < i → l[q]? = some y → ifOk y = true) ∧ ((idsL l).take i).Nodup ∧ ((netsL l).take i).Nodup) (fun i => [(3, .int .i64 i), (0, .slice A l.length c)]) (fun _ => []) (fun i => l.length - i) rfl 0 ⟨Nat.zero_le _, fun q y hq => by omega, by simp, by simp⟩ ⟨rfl, rfl, trivial⟩ rfl ?_
  rintro i ⟨hi, hok, hn1, hn2⟩
  rcases Nat.lt_or_ge i l.length with hlt | hge
  · obtain ⟨x, hx⟩ : ∃ x, l[i]? = some x := ⟨l[i], List.getElem?_eq_getElem hlt⟩
    have hc := rchk_t x.a (ha x (List.mem_of_getElem? hx)) x.n
    have he := bad_e x
    dsimp only [pfV] at hc
    repeat' (first | refine SW ?_ | refine SD ?_ | (refine HO_k 12 rfl ?_; refine HO_callq rfl rfl rfl rfl (hc) (fun _ _ => rfl) (trivial) rfl rfl sqA ?_) | exact HO_seg rfl rfl | refine S1 ?_ | (refine S2 ?_; intro _) | (refine S3 ?_; intro _ _) | (refine S4 ?_; intro _ _ _) | (refine HO_g 2 rfl ?_; (first | apply HO_and rfl rfl rfl rfl rfl rfl rfl rfl rfl | apply HO_or rfl rfl rfl rfl rfl rfl rfl rfl rfl)) | refine S5 ?_ | (intro hb; try replace hb := simB hb; try exact kill hb))
    rename_i b4
    refine HC_cond rfl rfl (fun hb => ?_) (fun hb => ?_)
    · rw [he] at hb
      have hx' : ifOk x = false := by simpa using hb
      rw [ifs_odd hx hx']
      repeat' (first | refine SW ?_ | exact HO_seg rfl rfl | refine S1 ?_ | (refine S2 ?_; intro _) | (refine S3 ?_; intro _ _) | (refine S4 ?_; intro _ _ _) | (refine HO_g 2 rfl ?_; (first | apply HO_and rfl rfl rfl rfl rfl rfl rfl rfl rfl | apply HO_or rfl rfl rfl rfl rfl rfl rfl rfl rfl)) | refine S5 ?_ | (intro hb; try replace hb := simB hb; try exact kill hb))
      ((first | apply HX_ret | apply HX_retn); (repeat (first | exact Res_nil | apply Res_tmp rfl | apply Res_ce rfl rfl rfl)); unfold RetQ; refine ⟨(), trivial, ?_, Keeps.nil⟩)
      rfl
    · rw [he] at hb
      have hx' : ifOk x = true := by simpa using hb
      repeat' (first | refine SW ?_ | exact HO_seg rfl rfl | refine S1 ?_ | (refine S2 ?_; intro _) | (refine S3 ?_; intro _ _) | (refine S4 ?_; intro _ _ _) | (refine HO_g 2 rfl ?_; (first | apply HO_and rfl rfl rfl rfl rfl rfl rfl rfl rfl | apply HO_or rfl rfl rfl rfl rfl rfl rfl rfl rfl)) | refine S5 ?_ | (intro hb; try replace hb := simB hb; try exact kill hb))
      refine HC_loop (α := Nat) (fun k => k ≤ i ∧ ∀ q y, q < k → l[q]? = some y → ¬ (y.id = x.id ∨ (y.router = x.router ∧ y.a = x.a ∧ y.n = x.n))) (fun k => [(5, .int .i64 k), (4, pt b4), (3, .int .i64 i), (0, .slice A l.length c)]) (fun _ => [cel b4 TIf x.e]) (fun k => i - k) rfl 0 ⟨Nat.zero_le _, fun q y hq => by omega⟩ ⟨rfl, rfl, rfl, rfl, trivial⟩ rfl ?_
      rintro k ⟨hk, hno⟩
      rcases Nat.lt_or_ge k i with hki | hki
      · obtain ⟨y, hy⟩ : ∃ y, l[k]? = some y := ⟨l[k], List.getElem?_eq_getElem (by omega)⟩
        dsimp only [IfQ.e]
        repeat' (first | refine SW ?_ | refine SD ?_ | exact HO_seg rfl rfl | refine S1 ?_ | (refine S2 ?_; intro _) | (refine S3 ?_; intro _ _) | (refine S4 ?_; intro _ _ _) | (refine HO_g 2 rfl ?_; (first | apply HO_and rfl rfl rfl rfl rfl rfl rfl rfl rfl | apply HO_or rfl rfl rfl rfl rfl rfl rfl rfl rfl)) | refine S5 ?_ | (intro hb; try replace hb := simB hb; try exact kill hb))
        have hiff : (decide (y.id = x.id) || decide (y.router = x.router) && (decide (((y.a : Nat) : Int) = (x.a : Nat)) && decide (y.n = x.n))) = true ↔ (y.id = x.id ∨ (y.router = x.router ∧ y.a = x.a ∧ y.n = x.n)) := by
          simp only [Bool.or_eq_true, Bool.and_eq_true, decide_eq_true_eq]
          omega
        refine HC_cond rfl rfl (fun hb => ?_) (fun hb => ?_)
        · rw [ifs_dup hx hy hki (hiff.1 hb)]
          repeat' (first | refine SW ?_ | exact HO_seg rfl rfl | refine S1 ?_ | (refine S2 ?_; intro _) | (refine S3 ?_; intro _ _) | (refine S4 ?_; intro _ _ _) | (refine HO_g 2 rfl ?_; (first | apply HO_and rfl rfl rfl rfl rfl rfl rfl rfl rfl | apply HO_or rfl rfl rfl rfl rfl rfl rfl rfl rfl)) | refine S5 ?_ | (intro hb; try replace hb := simB hb; try exact kill hb))
          ((first | apply HX_ret | apply HX_retn); (repeat (first | exact Res_nil | apply Res_tmp rfl | apply Res_ce rfl rfl rfl)); unfold RetQ; refine ⟨(), trivial, ?_, Keeps.nil⟩)
          rfl
        · have hnb : ¬ (y.id = x.id ∨ (y.router = x.router ∧ y.a = x.a ∧ y.n = x.n)) := fun h => by rw [hiff.2 h] at hb; cases hb
          repeat' (first | refine SW ?_ | exact HO_seg rfl rfl | refine S1 ?_ | (refine S2 ?_; intro _) | (refine S3 ?_; intro _ _) | (refine S4 ?_; intro _ _ _) | (refine HO_g 2 rfl ?_; (first | apply HO_and rfl rfl rfl rfl rfl rfl rfl rfl rfl | apply HO_or rfl rfl rfl rfl rfl rfl rfl rfl rfl)) | refine S5 ?_ | (intro hb; try replace hb := simB hb; try exact kill hb))
          exact HX_at (k + 1) ⟨⟨hki, fun q z hq hz => by
            rcases Nat.lt_or_ge q k with h | h
            · exact hno q z h hz
            · obtain rfl : q = k := by omega
              rw [hy] at hz
              injection hz with hz
              exact hz ▸ hnb⟩, by show i - (k + 1) < i - k; omega⟩ ⟨rfl, rfl, rfl, rfl, trivial⟩ rfl
      · obtain rfl : k = i := by omega
        repeat' (first | refine SW ?_ | refine SD ?_ | exact HO_seg rfl rfl | refine S1 ?_ | (refine S2 ?_; intro _) | (refine S3 ?_; intro _ _) | (refine S4 ?_; intro _ _ _) | (refine HO_g 2 rfl ?_; (first | apply HO_and rfl rfl rfl rfl rfl rfl rfl rfl rfl | apply HO_or rfl rfl rfl rfl rfl rfl rfl rfl rfl)) | refine S5 ?_ | (intro hb; try replace hb := simB hb; try exact kill hb))
        refine HX_keeps (rw' := []) (Keeps.skip Keeps.nil) ?_
        refine HX_at (k + 1) ⟨⟨hlt, fun q y hq hy => ?_, ?_, ?_⟩, by show l.length - (k + 1) < l.length - k; omega⟩ ⟨rfl, rfl, trivial⟩ rfl
        · rcases Nat.lt_or_ge q k with h | h
          · exact hok q y h hy
          · obtain rfl : q = k := by omega
            rw [hx] at hy
            injection hy with hy
            exact hy ▸ hx'
        · refine (nodup_take _ k _ (ids_at hx)).2 ⟨hn1, fun q z hq hz e => ?_⟩
          obtain ⟨y, hy⟩ : ∃ y, l[q]? = some y := ⟨l[q], List.getElem?_eq_getElem (by omega)⟩
          rw [ids_at hy] at hz
          injection hz with hz
          exact hno q y hq hy (.inl (hz.trans e))
        · refine (nodup_take _ k _ (nets_at hx)).2 ⟨hn2, fun q z hq hz e => ?_⟩
          obtain ⟨y, hy⟩ : ∃ y, l[q]? = some y := ⟨l[q], List.getElem?_eq_getElem (by omega)⟩
          rw [nets_at hy] at hz
          injection hz with hz
          have := hz.trans e
          injection this with g1 g2
          injection g2 with g2 g3
          exact hno q y hq hy (.inr ⟨g1, g2, g3⟩)
  · obtain rfl : i = l.length := by omega
    have hall := ifs_all hok hn1 hn2
    rw [← hall]
    repeat' (first | refine SW ?_ | refine SD ?_ | exact HO_seg rfl rfl | refine S1 ?_ | (refine S2 ?_; intro _) | (refine S3 ?_; intro _ _) | (refine S4 ?_; intro _ _ _) | (refine HO_g 2 rfl ?_; (first | apply HO_and rfl rfl rfl rfl rfl rfl rfl rfl rfl | apply HO_or rfl rfl rfl rfl rfl rfl rfl rfl rfl)) | refine S5 ?_ | (intro hb; try replace hb := simB hb; try exact kill hb))
    ((first | apply HX_ret | apply HX_retn); (repeat (first | exact Res_nil | apply Res_tmp rfl | apply Res_ce rfl rfl rfl)); unfold RetQ; refine ⟨(), trivial, ?_, Keeps.nil⟩)
    rfl
end Go.Proofs.YtbhiojedmkcfoaaGreatDoor
