/- What must come of every program: the addresses' lives. -/
import Derived.Test.YtdeeokkkcfkbjaaDoorAdW
namespace Go.Proofs.YtdeeokkkcfkbjaaDoor
set_option linter.unusedVariables false
set_option linter.unusedSimpArgs false
open Go.RowKit
attribute [local irreducible] HC HX HO Tri eP adr

theorem Tri_to {P : Program} {f : Nat} {args : List Value} {ro : List SL} {v v' : Value} (h : Tri P f args ro [] (fun _ : Unit => True) (fun _ => v) (fun _ => [])) (e : v = v') : Tri P f args ro [] (fun _ : Unit => True) (fun _ => v') (fun _ => []) := e ▸ h
theorem lvMake : Tri Tryd.prog 12 [.int .u32 167838211, .int .i64 8] [] [] (fun _ : Unit => True) (fun _ => pfV 167772160 8) (fun _ => []) := Tri_to (amake_t 167838211 (by decide) 8) (by kernel_rfl)
theorem lvParse (m : Int) : Tri Tryd.prog 23 [.string ⟨#[49, 48, 46, 49, 46, 48, 46, 48, 47, 49, 54]⟩] [maxLen0 m] [] (fun _ : Unit => True) (fun _ => .tuple #[pfV 167837696 16, .int .i64 0]) (fun _ => []) :=
  Tri_to (aparse_t m [49, 48, 46, 49, 46, 48, 46, 48, 47, 49, 54] (by decide)) (by kernel_rfl)
theorem lvParse2 (m : Int) : Tri Tryd.prog 23 [.string ⟨#[49, 48, 46, 49, 46, 48, 46, 48, 47, 56]⟩] [maxLen0 m] [] (fun _ : Unit => True) (fun _ => .tuple #[pfV 0 0, .int .i64 20]) (fun _ => []) :=
  Tri_to (aparse_t m [49, 48, 46, 49, 46, 48, 46, 48, 47, 56] (by decide)) (by kernel_rfl)
theorem lvAddr (m : Int) : Tri Tryd.prog 25 [.string ⟨#[49, 46, 50, 46, 51, 46, 52]⟩] [maxLen0 m] [] (fun _ : Unit => True) (fun _ => .tuple #[.int .u32 16909060, .int .i64 0]) (fun _ => []) :=
  Tri_to (aaddr_t m [49, 46, 50, 46, 51, 46, 52] (by decide)) (by kernel_rfl)
theorem lvPut : Tri Tryd.prog 31 [pfV 167837696 16] [] [] (fun _ : OA => True) (fun x => .tuple #[.slice x.1 3 x.2, .int .i64 0]) (fun x => [ownB x [16, 10, 1]]) := by
  have := pput_t 167837696 (by decide) 16 (by kernel_rfl)
  rw [show pfB 167837696 16 = [16, 10, 1] by kernel_rfl] at this
  exact this
theorem lvGet (A : Option Addr) (c : Nat) : Tri Tryd.prog 32 [.slice A 3 c] [arr bE 1 A [8, 10, 7]] [] (fun _ : Unit => True) (fun _ => .tuple #[pfV 167772160 8, .int .i64 2, .int .i64 0]) (fun _ => []) :=
  pget_t A c [8, 10, 7] (by decide) 167772160 8 (by kernel_rfl)
theorem lvShow : Tri Tryd.prog 24 [pfV 167837696 16] [tab1] [] (fun _ : Unit => True) (fun _ => .string ⟨#[49, 48, 46, 49, 46, 48, 46, 48, 47, 49, 54]⟩) (fun _ => []) :=
  Tri_to (show_t 167837696 (by decide) 16) (by kernel_rfl)
theorem lvDotted : Tri Tryd.prog 26 [.int .u32 16909060] [tab1] [] (fun _ : Unit => True) (fun _ => .string ⟨#[49, 46, 50, 46, 51, 46, 52]⟩) (fun _ => []) :=
  Tri_to (dotted_t 16909060 (by decide)) (by kernel_rfl)
theorem lvIn : Tri Tryd.prog 21 [pfV 167772160 8, pfV 167837696 16] [] [] (fun _ : Unit => True) (fun _ => .bool true) (fun _ => []) :=
  Tri_to (awithin_t 167772160 (by decide) 8 167837696 (by decide) 16) (by kernel_rfl)
theorem lvOut : Tri Tryd.prog 21 [pfV 167837696 16, pfV 167772160 8] [] [] (fun _ : Unit => True) (fun _ => .bool false) (fun _ => []) :=
  Tri_to (awithin_t 167837696 (by decide) 16 167772160 (by decide) 8) (by kernel_rfl)
theorem lvHolds : Tri Tryd.prog 17 [pfV 167772160 8, .int .u32 184549375] [] [] (fun _ : Unit => True) (fun _ => .bool true) (fun _ => []) :=
  Tri_to (aholds_t 167772160 (by decide) 8 184549375 (by decide)) (by kernel_rfl)
theorem lvCmp : Tri Tryd.prog 19 [pfV 167772160 8, pfV 167837696 16] [] [] (fun _ : Unit => True) (fun _ => .int .i64 (-1)) (fun _ => []) :=
  Tri_to (pcmp_t 167772160 8 167837696 16) (by kernel_rfl)
theorem lvBit : Tri Tryd.prog 15 [.int .u32 2147483648, .int .i64 0] [] [] (fun _ : Unit => True) (fun _ => .int .i64 1) (fun _ => []) :=
  Tri_to (abit_t 2147483648 (by decide) 0) (by kernel_rfl)
theorem lvCheck : Tri Tryd.prog 14 [pfV 1 0] [] [] (fun _ : Unit => True) (fun _ => .int .i64 20) (fun _ => []) :=
  Tri_to (addrCheck_t 1 (by decide) 0) (by kernel_rfl)
@[reducible] def sh8 : List UInt8 := [49, 48, 46, 49, 46, 48, 46, 48, 47, 49, 54]
set_option maxHeartbeats 16000000 in
theorem alives_t (m : Int) : Tri Tryd.prog 11 [] [tab1, maxLen0 m] [] (fun _ : Unit => True) (fun _ => .bool true) (fun _ => []) := by
  have c1 := lvMake
  have c2 := lvParse m
  have c3 := lvParse2 m
  have c4 := lvAddr m
  have c5 := lvPut
  have c6 := lvGet
  have c7 := lvShow
  have c8 := lvDotted
  have c9 := lvIn
  have d1 := lvOut
  have d2 := lvHolds
  have d3 := lvCmp
  have d4 := lvBit
  have d5 := lvCheck
  have e0 : [[Value.int .u8 8], [Value.int .u8 10], [Value.int .u8 7]] = List.map bE [8, 10, 7] := rfl
  dsimp only [pfV] at c1 c2 c3 c5 c6 c7 c9 d1 d2 d3 d5
  refine Tri_of (N := Tryd.f11.ntmps) (c := bodyOf Tryd.f11) Tryd.func11 rfl rfl rfl rfl (fun w0 S0 => ?_)
  repeat' (first | refine SW ?_ | (with_reducible refine HO_rw (congrArg Value.bool (sba_eq _ _)) ?_) | refine SD ?_ | (refine HO_k 12 rfl ?_; refine HO_callq rfl rfl rfl rfl (c1) (fun _ _ => rfl) (trivial) rfl rfl sqA ?_) | (refine HO_k 12 rfl ?_; refine HO_callq rfl rfl rfl rfl (c2) (fun _ _ => rfl) (srcsA) rfl rfl sqA ?_) | (refine HO_k 12 rfl ?_; refine HO_callq rfl rfl rfl rfl (c3) (fun _ _ => rfl) (srcsA) rfl rfl sqA ?_) | (refine HO_k 12 rfl ?_; refine HO_callq rfl rfl rfl rfl (c4) (fun _ _ => rfl) (srcsA) rfl rfl sqA ?_) | (refine HO_k 12 rfl ?_; refine HO_call rfl rfl rfl rfl (c5) rfl (trivial) rfl rfl soA ?_; intro ⟨xA, xc⟩ hx; dsimp only [List.cons_append, List.nil_append]) | (refine HO_k 12 rfl ?_; refine HO_callq rfl rfl rfl rfl (c6 _ _) (fun _ _ => rfl) (by first | exact AllSrc.own 0 rfl rfl trivial | exact AllSrc.own 1 rfl rfl trivial | exact AllSrc.own 2 rfl rfl trivial | exact AllSrc.own 3 rfl rfl trivial | exact AllSrc.own 4 rfl rfl trivial | exact AllSrc.own 5 rfl rfl trivial) rfl rfl sqA ?_) | (refine HO_k 12 rfl ?_; refine HO_callq rfl rfl rfl rfl (c7) (fun _ _ => rfl) (srcsA) rfl rfl sqA ?_) | (refine HO_k 12 rfl ?_; refine HO_callq rfl rfl rfl rfl (c8) (fun _ _ => rfl) (srcsA) rfl rfl sqA ?_) | (refine HO_k 12 rfl ?_; refine HO_callq rfl rfl rfl rfl (c9) (fun _ _ => rfl) (trivial) rfl rfl sqA ?_) | (refine HO_k 12 rfl ?_; refine HO_callq rfl rfl rfl rfl (d1) (fun _ _ => rfl) (trivial) rfl rfl sqA ?_) | (refine HO_k 12 rfl ?_; refine HO_callq rfl rfl rfl rfl (d2) (fun _ _ => rfl) (trivial) rfl rfl sqA ?_) | (refine HO_k 12 rfl ?_; refine HO_callq rfl rfl rfl rfl (d3) (fun _ _ => rfl) (trivial) rfl rfl sqA ?_) | (refine HO_k 12 rfl ?_; refine HO_callq rfl rfl rfl rfl (d4) (fun _ _ => rfl) (trivial) rfl rfl sqA ?_) | (refine HO_k 12 rfl ?_; refine HO_callq rfl rfl rfl rfl (d5) (fun _ _ => rfl) (trivial) rfl rfl sqA ?_) | (refine HO_k 7 rfl ?_; (first | refine HO_b2sk (l := [16, 10, 1]) 0 rfl rfl rfl rfl rfl rfl rfl rfl rdA ?_ | refine HO_b2sk (l := [16, 10, 1]) 1 rfl rfl rfl rfl rfl rfl rfl rfl rdA ?_ | refine HO_b2sk (l := [16, 10, 1]) 2 rfl rfl rfl rfl rfl rfl rfl rfl rdA ?_ | refine HO_b2sk (l := [16, 10, 1]) 3 rfl rfl rfl rfl rfl rfl rfl rfl rdA ?_ | refine HO_b2sk (l := [16, 10, 1]) 4 rfl rfl rfl rfl rfl rfl rfl rfl rdA ?_ | refine HO_b2sk (l := [16, 10, 1]) 5 rfl rfl rfl rfl rfl rfl rfl rfl rdA ?_ | refine HO_b2sk (l := [16, 10, 1]) 6 rfl rfl rfl rfl rfl rfl rfl rfl rdA ?_ | refine HO_b2sk (l := [16, 10, 1]) 7 rfl rfl rfl rfl rfl rfl rfl rfl rdA ?_ | refine HO_b2sk (l := [16, 10, 1]) 8 rfl rfl rfl rfl rfl rfl rfl rfl rdA ?_ | refine HO_b2sk (l := [16, 10, 1]) 9 rfl rfl rfl rfl rfl rfl rfl rfl rdA ?_)) | exact HO_seg rfl rfl | refine S1 ?_ | (refine S2 ?_; intro _) | (refine S3 ?_; intro _ _) | (refine S4 ?_; intro _ _ _) | (refine HO_g 2 rfl ?_; (first | apply HO_and rfl rfl rfl rfl rfl rfl rfl rfl rfl | apply HO_or rfl rfl rfl rfl rfl rfl rfl rfl rfl)) | refine S5 ?_ | (intro hb; try replace hb := simB hb; try exact kill hb))
  ((first | apply HX_ret | apply HX_retn); (repeat (first | exact Res_nil | apply Res_tmp rfl | apply Res_ce rfl rfl rfl)); unfold RetQ; refine ⟨(), trivial, ?_, Keeps.nil⟩)
  rfl
end Go.Proofs.YtdeeokkkcfkbjaaDoor
