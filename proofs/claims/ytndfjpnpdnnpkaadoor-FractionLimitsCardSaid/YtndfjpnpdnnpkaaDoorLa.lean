/- FractionLimits: what the code does, part by part: of the calls' results it is told what the plain law says of them, and it answers true. (printed by wip/limits_gen.py) -/
import Derived.Test.YtndfjpnpdnnpkaaDoorCz
import Derived.Test.YtndfjpnpdnnpkaaDoorFs
import Derived.Test.YtndfjpnpdnnpkaaDoorFx8
import Derived.Test.YtndfjpnpdnnpkaaDoorFpw
namespace Go.Proofs.YtndfjpnpdnnpkaaDoor.Cx
open Go Go.Proofs Go.RowKit Go.Proofs.YtndfjpnpdnnpkaaDoorW Go.Proofs.YtndfjpnpdnnpkaaDoorW.PrintWords
set_option maxRecDepth 100000
set_option linter.unusedVariables false
set_option linter.unusedSimpArgs false
theorem l0 (K : Nat) (w0 : World) (hGL : F.GL w0) (p q ea eb p1 q1 xN xD yN yD M0 M1 M2 D0 D1 D2 : Int) (ng : Bool) (hp : wrap64 p = p) (hq : wrap64 q = q) (hp1 : Int.tmod p 125 = p1) (hq1 : Int.tmod q 125 = q1) (ha : wrap64 (p1 - 62) = ea) (hb : wrap64 (q1 - 62) = eb) (hx : F.wireloomlaw02_power.f ea = some (xN, xD)) (hy : F.wireloomlaw02_power.f eb = some (yN, yD)) (hM : F.wireloomlaw02_mul.f K xN xD yN yD = some (M0, M1, M2)) (hD : F.wireloomlaw02_div.f K xN xD yN yD = some (D0, D1, D2)) (H : ∀ (g13 g12 g11 g10 : Nat), ∀ a w, Sl 179 [(2, .bool ng), (7, .bool true), (8, .int .i64 ea), (9, .int .i64 eb), (10, pt g10 0), (11, pt g11 0), (12, pt g12 0), (13, pt g13 0)] a → Bl w0 [(g13, .cells #[.int .i64 D0, .int .i64 D1, .int .i64 D2] 31 (0, 0)), (g12, .cells #[.int .i64 M0, .int .i64 M1, .int .i64 M2] 31 (0, 0)), (g11, .cells #[.int .i64 yN, .int .i64 yD] 25 (0, 0)), (g10, .cells #[.int .i64 xN, .int .i64 xD] 25 (0, 0))] w → (restOf Tryd.f8 10).wp Tryd.prog (bodyPost Tryd.prog Tryd.f8 fun e w' => e = .returned (.bool true) ∧ Below w0.heap.size w0 w') a w) :
  Calls Tryd.prog 8 #[.int .u8 p, .int .u8 q, .bool ng] w0 fun e w' => e = .returned (.bool true) ∧ Below w0.heap.size w0 w' := by
 refine Cx.start (n := 179) Tryd.func8 rfl rfl rfl (fun a hs => ?_)
 have hB := Bl.start w0
 replace hs : Sl 179 [(0, .int .u8 p), (1, .int .u8 q), (2, .bool ng)] a := hs
 refine c_list ?_
 refine l_fit (v := .bool false) (fit_free rfl (ok_assign rfl rfl)) rfl rfl hs hB (fun a w hs hB => ?_)
 refine l_nil ?_
 replace hs := hs.sub (l := [(6, .bool false), (0, .int .u8 p), (1, .int .u8 q), (2, .bool ng)]) (⟨rfl, rfl, rfl, rfl, trivial⟩)
 refine c_list ?_
 refine l_fit (v := .bool true) (fit_free rfl (ok_call (args := #[]) rfl Tryd.func9 (by kernel_rfl) rfl rfl (fun w hB => (F.wireloomlaw02_examples.calls K true w (F.GL.below hGL hB.below) rfl).mono fun e w' ⟨he, hb⟩ => ⟨he, hB.step hb⟩))) rfl rfl hs hB (fun a w hs hB => ?_)
 refine l_fit (v := .bool true) (fit_free rfl (ok_assign rfl rfl)) rfl rfl hs hB (fun a w hs hB => ?_)
 refine l_nil ?_
 replace hs := hs.sub (l := [(7, .bool true), (6, .bool false), (0, .int .u8 p), (1, .int .u8 q), (2, .bool ng)]) (⟨rfl, rfl, rfl, rfl, rfl, trivial⟩)
 refine wp_seq ?_
 refine c_list ?_
 refine l_fit (v := .bool true) (fit_free rfl (ok_move rfl rfl)) rfl rfl hs hB (fun a w hs hB => ?_)
 refine l_fit (v := .bool false) (fit_free rfl (ok_not (b := true) rfl rfl)) rfl rfl hs hB (fun a w hs hB => ?_)
 refine l_nil ?_
 replace hs := hs.sub (l := [(23, .bool false), (7, .bool true), (6, .bool false), (0, .int .u8 p), (1, .int .u8 q), (2, .bool ng)]) (⟨rfl, rfl, rfl, rfl, rfl, rfl, trivial⟩)
 refine c_false hs rfl ?_
 refine wp_skip ?_
 refine then_n ?_
 replace hs := hs.sub (l := [(7, .bool true), (6, .bool false), (0, .int .u8 p), (1, .int .u8 q), (2, .bool ng)]) (⟨rfl, rfl, rfl, rfl, rfl, trivial⟩)
 refine c_list ?_
 refine l_fit (v := .int .u8 p) (fit_free rfl (ok_move rfl rfl)) rfl rfl hs hB (fun a w hs hB => ?_)
 refine l_fit (v := .int .i64 p) (fit_free rfl (ok_conv5 rfl rfl (hp))) rfl rfl hs hB (fun a w hs hB => ?_)
 refine l_fit (v := .int .i64 p1) (fit_free rfl (ok_rem3 rfl rfl rfl (by decide) (hp1))) rfl rfl hs hB (fun a w hs hB => ?_)
 refine l_fit (v := .int .i64 ea) (fit_free rfl (ok_sub3 rfl rfl rfl (ha))) rfl rfl hs hB (fun a w hs hB => ?_)
 refine l_fit (v := .int .i64 ea) (fit_free rfl (ok_assign rfl rfl)) rfl rfl hs hB (fun a w hs hB => ?_)
 refine l_nil ?_
 replace hs := hs.sub (l := [(8, .int .i64 ea), (7, .bool true), (6, .bool false), (1, .int .u8 q), (2, .bool ng)]) (⟨rfl, rfl, rfl, rfl, rfl, trivial⟩)
 refine c_list ?_
 refine l_fit (v := .int .u8 q) (fit_free rfl (ok_move rfl rfl)) rfl rfl hs hB (fun a w hs hB => ?_)
 refine l_fit (v := .int .i64 q) (fit_free rfl (ok_conv5 rfl rfl (hq))) rfl rfl hs hB (fun a w hs hB => ?_)
 refine l_fit (v := .int .i64 q1) (fit_free rfl (ok_rem3 rfl rfl rfl (by decide) (hq1))) rfl rfl hs hB (fun a w hs hB => ?_)
 refine l_fit (v := .int .i64 eb) (fit_free rfl (ok_sub3 rfl rfl rfl (hb))) rfl rfl hs hB (fun a w hs hB => ?_)
 refine l_fit (v := .int .i64 eb) (fit_free rfl (ok_assign rfl rfl)) rfl rfl hs hB (fun a w hs hB => ?_)
 refine l_nil ?_
 replace hs := hs.sub (l := [(9, .int .i64 eb), (8, .int .i64 ea), (7, .bool true), (6, .bool false), (2, .bool ng)]) (⟨rfl, rfl, rfl, rfl, rfl, trivial⟩)
 refine c_list ?_
 refine l_fit (v := .int .i64 ea) (fit_free rfl (ok_move rfl rfl)) rfl rfl hs hB (fun a w hs hB => ?_)
 refine l_fit (v := .agg #[.int .i64 xN, .int .i64 xD]) (fit_free rfl (ok_call (args := #[.int .i64 ea]) rfl Tryd.func27 (by kernel_rfl) rfl rfl (viaB fun w => F.wireloomlaw02_power.calls _ _ _ w hx))) rfl rfl hs hB (fun a w hs hB => ?_)
 refine l_alloc25 rfl rfl rfl rfl hs hB (fun g10 a w hs hB => ?_)
 refine l_store25 (k := 0) (cs' := #[.int .i64 xN, .int .i64 xD]) rfl rfl rfl rfl rfl rfl rfl rfl hs hB (fun w hB => ?_)
 replace hB : Bl w0 [(g10, .cells #[.int .i64 xN, .int .i64 xD] 25 (0, 0))] w := hB
 refine l_nil ?_
 replace hs := hs.sub (l := [(10, pt g10 0), (9, .int .i64 eb), (8, .int .i64 ea), (7, .bool true), (6, .bool false), (2, .bool ng)]) (⟨rfl, rfl, rfl, rfl, rfl, rfl, trivial⟩)
 refine c_list ?_
 refine l_fit (v := .int .i64 eb) (fit_free rfl (ok_move rfl rfl)) rfl rfl hs hB (fun a w hs hB => ?_)
 refine l_fit (v := .agg #[.int .i64 yN, .int .i64 yD]) (fit_free rfl (ok_call (args := #[.int .i64 eb]) rfl Tryd.func27 (by kernel_rfl) rfl rfl (viaB fun w => F.wireloomlaw02_power.calls _ _ _ w hy))) rfl rfl hs hB (fun a w hs hB => ?_)
 refine l_alloc25 rfl rfl rfl rfl hs hB (fun g11 a w hs hB => ?_)
 refine l_store25 (k := 0) (cs' := #[.int .i64 yN, .int .i64 yD]) rfl rfl rfl rfl rfl rfl rfl rfl hs hB (fun w hB => ?_)
 replace hB : Bl w0 [(g11, .cells #[.int .i64 yN, .int .i64 yD] 25 (0, 0)), (g10, .cells #[.int .i64 xN, .int .i64 xD] 25 (0, 0))] w := hB
 refine l_nil ?_
 replace hs := hs.sub (l := [(11, pt g11 0), (10, pt g10 0), (9, .int .i64 eb), (8, .int .i64 ea), (7, .bool true), (6, .bool false), (2, .bool ng)]) (⟨rfl, rfl, rfl, rfl, rfl, rfl, rfl, trivial⟩)
 refine c_list ?_
 refine l_fit (v := .agg #[.int .i64 xN, .int .i64 xD]) (fit_free rfl (ok_load25 (k := 1) rfl rfl rfl rfl rfl)) rfl rfl hs hB (fun a w hs hB => ?_)
 refine l_fit (v := .agg #[.int .i64 yN, .int .i64 yD]) (fit_free rfl (ok_load25 (k := 0) rfl rfl rfl rfl rfl)) rfl rfl hs hB (fun a w hs hB => ?_)
 refine l_fit (v := .agg #[.int .i64 M0, .int .i64 M1, .int .i64 M2]) (fit_free rfl (ok_call (args := #[.agg #[.int .i64 xN, .int .i64 xD], .agg #[.int .i64 yN, .int .i64 yD]]) rfl Tryd.func15 (by kernel_rfl) rfl rfl (viaB fun w => F.wireloomlaw02_mul.calls K _ _ _ _ _ _ _ w hM))) rfl rfl hs hB (fun a w hs hB => ?_)
 refine l_alloc31 rfl rfl rfl rfl hs hB (fun g12 a w hs hB => ?_)
 refine l_store31 (k := 0) (cs' := #[.int .i64 M0, .int .i64 M1, .int .i64 M2]) rfl rfl rfl rfl rfl rfl rfl rfl hs hB (fun w hB => ?_)
 replace hB : Bl w0 [(g12, .cells #[.int .i64 M0, .int .i64 M1, .int .i64 M2] 31 (0, 0)), (g11, .cells #[.int .i64 yN, .int .i64 yD] 25 (0, 0)), (g10, .cells #[.int .i64 xN, .int .i64 xD] 25 (0, 0))] w := hB
 refine l_nil ?_
 replace hs := hs.sub (l := [(12, pt g12 0), (11, pt g11 0), (10, pt g10 0), (9, .int .i64 eb), (8, .int .i64 ea), (7, .bool true), (6, .bool false), (2, .bool ng)]) (⟨rfl, rfl, rfl, rfl, rfl, rfl, rfl, rfl, trivial⟩)
 refine c_list ?_
 refine l_fit (v := .agg #[.int .i64 xN, .int .i64 xD]) (fit_free rfl (ok_load25 (k := 2) rfl rfl rfl rfl rfl)) rfl rfl hs hB (fun a w hs hB => ?_)
 refine l_fit (v := .agg #[.int .i64 yN, .int .i64 yD]) (fit_free rfl (ok_load25 (k := 1) rfl rfl rfl rfl rfl)) rfl rfl hs hB (fun a w hs hB => ?_)
 refine l_fit (v := .agg #[.int .i64 D0, .int .i64 D1, .int .i64 D2]) (fit_free rfl (ok_call (args := #[.agg #[.int .i64 xN, .int .i64 xD], .agg #[.int .i64 yN, .int .i64 yD]]) rfl Tryd.func22 (by kernel_rfl) rfl rfl (viaB fun w => F.wireloomlaw02_div.calls K _ _ _ _ _ _ _ w hD))) rfl rfl hs hB (fun a w hs hB => ?_)
 refine l_alloc31 rfl rfl rfl rfl hs hB (fun g13 a w hs hB => ?_)
 refine l_store31 (k := 0) (cs' := #[.int .i64 D0, .int .i64 D1, .int .i64 D2]) rfl rfl rfl rfl rfl rfl rfl rfl hs hB (fun w hB => ?_)
 replace hB : Bl w0 [(g13, .cells #[.int .i64 D0, .int .i64 D1, .int .i64 D2] 31 (0, 0)), (g12, .cells #[.int .i64 M0, .int .i64 M1, .int .i64 M2] 31 (0, 0)), (g11, .cells #[.int .i64 yN, .int .i64 yD] 25 (0, 0)), (g10, .cells #[.int .i64 xN, .int .i64 xD] 25 (0, 0))] w := hB
 refine l_nil ?_
 replace hs := hs.sub (l := [(13, pt g13 0), (12, pt g12 0), (11, pt g11 0), (10, pt g10 0), (9, .int .i64 eb), (8, .int .i64 ea), (7, .bool true), (6, .bool false), (2, .bool ng)]) (⟨rfl, rfl, rfl, rfl, rfl, rfl, rfl, rfl, rfl, trivial⟩)
 replace hs := hs.sub (l := [(2, .bool ng), (7, .bool true), (8, .int .i64 ea), (9, .int .i64 eb), (10, pt g10 0), (11, pt g11 0), (12, pt g12 0), (13, pt g13 0)]) (⟨rfl, rfl, rfl, rfl, rfl, rfl, rfl, rfl, trivial⟩)
 exact H g13 g12 g11 g10  a w hs hB

theorem l10oo (K : Nat) (w0 : World) (g13 g12 g11 g10 : Nat) (ea eb m d xN xD yN yD M0 M1 D0 D1 : Int) (ng : Bool) (hm : wrap64 (ea + eb) = m) (hd : wrap64 (ea - eb) = d) (hm1 : -62 ≤ m ∧ m ≤ 62) (hm2 : F.wireloomlaw02_power.f m = some (M0, M1)) (hd1 : -62 ≤ d ∧ d ≤ 62) (hd2 : F.wireloomlaw02_power.f d = some (D0, D1)) (H : ∀ a w, Sl 179 [(2, .bool ng), (7, .bool true), (8, .int .i64 ea), (9, .int .i64 eb), (10, pt g10 0), (11, pt g11 0)] a → Bl w0 [(g11, .cells #[.int .i64 yN, .int .i64 yD] 25 (0, 0)), (g10, .cells #[.int .i64 xN, .int .i64 xD] 25 (0, 0))] w → (restOf Tryd.f8 12).wp Tryd.prog (bodyPost Tryd.prog Tryd.f8 fun e w' => e = .returned (.bool true) ∧ Below w0.heap.size w0 w') a w) :
  ∀ a w, Sl 179 [(2, .bool ng), (7, .bool true), (8, .int .i64 ea), (9, .int .i64 eb), (10, pt g10 0), (11, pt g11 0), (12, pt g12 0), (13, pt g13 0)] a → Bl w0 [(g13, .cells #[.int .i64 D0, .int .i64 D1, .int .i64 0] 31 (0, 0)), (g12, .cells #[.int .i64 M0, .int .i64 M1, .int .i64 0] 31 (0, 0)), (g11, .cells #[.int .i64 yN, .int .i64 yD] 25 (0, 0)), (g10, .cells #[.int .i64 xN, .int .i64 xD] 25 (0, 0))] w → (restOf Tryd.f8 10).wp Tryd.prog (bodyPost Tryd.prog Tryd.f8 fun e w' => e = .returned (.bool true) ∧ Below w0.heap.size w0 w') a w := by
 intro a w hs hB
 conv => arg 2; whnf
 refine wp_seq ?_
 refine wp_seq ?_
 replace hs := hs.sub (l := [(2, .bool ng), (7, .bool true), (8, .int .i64 ea), (9, .int .i64 eb), (10, pt g10 0), (11, pt g11 0), (12, pt g12 0), (13, pt g13 0)]) (⟨rfl, rfl, rfl, rfl, rfl, rfl, rfl, rfl, trivial⟩)
 refine conf_region (n := 179) (sl := [(2, .bool ng), (7, .bool true), (8, .int .i64 ea), (9, .int .i64 eb), (10, pt g10 0), (11, pt g11 0), (12, pt g12 0), (13, pt g13 0)]) (vs := [pt g12 2, .int .i64 0, .bool true, .int .i64 ea, .int .i64 eb, .int .i64 m, .bool true, .bool true, .int .i64 ea, .int .i64 eb, .int .i64 m, .bool true, .bool true, .bool false, .bool false, pt g12 2, .int .i64 0, .bool true, .bool true, pt g12 0, .agg #[.int .i64 M0, .int .i64 M1], .int .i64 ea, .int .i64 eb, .int .i64 m, .agg #[.int .i64 M0, .int .i64 M1], .bool false, .bool false, .bool false, .bool false, pt g13 2, .int .i64 0, .bool true, .int .i64 ea, .int .i64 eb, .int .i64 d, .bool true, .bool true, .int .i64 ea, .int .i64 eb, .int .i64 d, .bool true, .bool true, .bool false, .bool false, .bool false, pt g13 2, .int .i64 0, .bool true, .bool true, pt g13 0, .agg #[.int .i64 D0, .int .i64 D1], .int .i64 ea, .int .i64 eb, .int .i64 d, .agg #[.int .i64 D0, .int .i64 D1], .bool false, .bool false, .bool false]) (B := Bl w0 [(g13, .cells #[.int .i64 D0, .int .i64 D1, .int .i64 0] 31 (0, 0)), (g12, .cells #[.int .i64 M0, .int .i64 M1, .int .i64 0] 31 (0, 0)), (g11, .cells #[.int .i64 yN, .int .i64 yD] 25 (0, 0)), (g10, .cells #[.int .i64 xN, .int .i64 xD] 25 (0, 0))]) (by kernel_rfl) [2, 7, 8, 9, 10, 11, 12, 13] rfl (by kernel_rfl) rfl (AllFitL.all ⟨fit_free rfl (ok_fieldAddr31_1 rfl rfl),
   fit_free rfl (ok_load29 (k := 1) rfl rfl rfl rfl),
   fit_free rfl (ok_eq29 rfl rfl rfl (by decide)),
   fit_free rfl (ok_move rfl rfl),
   fit_free rfl (ok_move rfl rfl),
   fit_free rfl (ok_add3 rfl rfl rfl (hm)),
   fit_free rfl (ok_geq3 rfl rfl rfl (by simp <;> omega)),
   fit_free rfl (ok_move rfl rfl),
   fit_on rfl rfl rfl (ok_move rfl rfl),
   fit_on rfl rfl rfl (ok_move rfl rfl),
   fit_on rfl rfl rfl (ok_add3 rfl rfl rfl (hm)),
   fit_on rfl rfl rfl (ok_leq3 rfl rfl rfl (by simp <;> omega)),
   fit_free rfl (ok_pick_t rfl rfl rfl),
   fit_free rfl (ok_neq4 (a0 := true) (b0 := true) rfl rfl rfl (rfl)),
   fit_free rfl (ok_move rfl rfl),
   fit_on rfl rfl rfl (ok_fieldAddr31_1 rfl rfl),
   fit_on rfl rfl rfl (ok_load29 (k := 1) rfl rfl rfl rfl),
   fit_on rfl rfl rfl (ok_eq29 rfl rfl rfl (by decide)),
   fit_on rfl rfl rfl (ok_move rfl rfl),
   fit_on rfl rfl rfl (ok_fieldAddr31_0 rfl rfl),
   fit_on rfl rfl rfl (ok_load25 (k := 1) rfl rfl rfl rfl rfl),
   fit_on rfl rfl rfl (ok_move rfl rfl),
   fit_on rfl rfl rfl (ok_move rfl rfl),
   fit_on rfl rfl rfl (ok_add3 rfl rfl rfl (hm)),
   fit_on rfl rfl rfl (ok_call (args := #[.int .i64 m]) rfl Tryd.func27 (by kernel_rfl) rfl rfl (viaB fun w => F.wireloomlaw02_power.calls _ _ _ w hm2)),
   fit_on rfl rfl rfl (ok_neq25 rfl rfl rfl (by simp)),
   fit_on rfl rfl rfl (ok_pick_t rfl rfl rfl),
   fit_free rfl (ok_pick_f rfl rfl rfl),
   fit_free rfl (ok_move rfl rfl),
   fit_on rfl rfl rfl (ok_fieldAddr31_1 rfl rfl),
   fit_on rfl rfl rfl (ok_load29 (k := 0) rfl rfl rfl rfl),
   fit_on rfl rfl rfl (ok_eq29 rfl rfl rfl (by decide)),
   fit_on rfl rfl rfl (ok_move rfl rfl),
   fit_on rfl rfl rfl (ok_move rfl rfl),
   fit_on rfl rfl rfl (ok_sub3 rfl rfl rfl (hd)),
   fit_on rfl rfl rfl (ok_geq3 rfl rfl rfl (by simp <;> omega)),
   fit_on rfl rfl rfl (ok_move rfl rfl),
   fit_on rfl rfl rfl (ok_move rfl rfl),
   fit_on rfl rfl rfl (ok_move rfl rfl),
   fit_on rfl rfl rfl (ok_sub3 rfl rfl rfl (hd)),
   fit_on rfl rfl rfl (ok_leq3 rfl rfl rfl (by simp <;> omega)),
   fit_on rfl rfl rfl (ok_pick_t rfl rfl rfl),
   fit_on rfl rfl rfl (ok_neq4 (a0 := true) (b0 := true) rfl rfl rfl (rfl)),
   fit_free rfl (ok_pick_f rfl rfl rfl),
   fit_free rfl (ok_move rfl rfl),
   fit_on rfl rfl rfl (ok_fieldAddr31_1 rfl rfl),
   fit_on rfl rfl rfl (ok_load29 (k := 0) rfl rfl rfl rfl),
   fit_on rfl rfl rfl (ok_eq29 rfl rfl rfl (by decide)),
   fit_on rfl rfl rfl (ok_move rfl rfl),
   fit_on rfl rfl rfl (ok_fieldAddr31_0 rfl rfl),
   fit_on rfl rfl rfl (ok_load25 (k := 0) rfl rfl rfl rfl rfl),
   fit_on rfl rfl rfl (ok_move rfl rfl),
   fit_on rfl rfl rfl (ok_move rfl rfl),
   fit_on rfl rfl rfl (ok_sub3 rfl rfl rfl (hd)),
   fit_on rfl rfl rfl (ok_call (args := #[.int .i64 d]) rfl Tryd.func27 (by kernel_rfl) rfl rfl (viaB fun w => F.wireloomlaw02_power.calls _ _ _ w hd2)),
   fit_on rfl rfl rfl (ok_neq25 rfl rfl rfl (by simp)),
   fit_on rfl rfl rfl (ok_pick_t rfl rfl rfl),
   fit_free rfl (ok_pick_f rfl rfl rfl),
   trivial⟩) hs hB.drew (fun a w hs hB => ?_)
 replace hs := hs.sub (l := [(99, .bool false), (2, .bool ng), (7, .bool true), (8, .int .i64 ea), (9, .int .i64 eb), (10, pt g10 0), (11, pt g11 0)]) (⟨rfl, rfl, rfl, rfl, rfl, rfl, rfl, trivial⟩)
 refine then_n ?_
 replace hs := hs.sub (l := [(99, .bool false), (2, .bool ng), (7, .bool true), (8, .int .i64 ea), (9, .int .i64 eb), (10, pt g10 0), (11, pt g11 0)]) (⟨rfl, rfl, rfl, rfl, rfl, rfl, rfl, trivial⟩)
 refine c_false hs rfl ?_
 refine wp_skip ?_
 refine then_n ?_
 replace hs := hs.sub (l := [(2, .bool ng), (7, .bool true), (8, .int .i64 ea), (9, .int .i64 eb), (10, pt g10 0), (11, pt g11 0)]) (⟨rfl, rfl, rfl, rfl, rfl, rfl, trivial⟩)
 replace hs := hs.sub (l := [(2, .bool ng), (7, .bool true), (8, .int .i64 ea), (9, .int .i64 eb), (10, pt g10 0), (11, pt g11 0)]) (⟨rfl, rfl, rfl, rfl, rfl, rfl, trivial⟩)
 replace hB : Bl w0 [(g11, .cells #[.int .i64 yN, .int .i64 yD] 25 (0, 0)), (g10, .cells #[.int .i64 xN, .int .i64 xD] 25 (0, 0))] w := hB.keep [false, false, true, true]
 exact H  a w hs hB

theorem l10ol (K : Nat) (w0 : World) (g13 g12 g11 g10 : Nat) (ea eb m d xN xD yN yD M0 M1 D0 D1 D2 : Int) (ng : Bool) (hm : wrap64 (ea + eb) = m) (hd : wrap64 (ea - eb) = d) (hm1 : -62 ≤ m ∧ m ≤ 62) (hm2 : F.wireloomlaw02_power.f m = some (M0, M1)) (hd1 : d < -62) (hd2 : D2 ≠ 0) (H : ∀ a w, Sl 179 [(2, .bool ng), (7, .bool true), (8, .int .i64 ea), (9, .int .i64 eb), (10, pt g10 0), (11, pt g11 0)] a → Bl w0 [(g11, .cells #[.int .i64 yN, .int .i64 yD] 25 (0, 0)), (g10, .cells #[.int .i64 xN, .int .i64 xD] 25 (0, 0))] w → (restOf Tryd.f8 12).wp Tryd.prog (bodyPost Tryd.prog Tryd.f8 fun e w' => e = .returned (.bool true) ∧ Below w0.heap.size w0 w') a w) :
  ∀ a w, Sl 179 [(2, .bool ng), (7, .bool true), (8, .int .i64 ea), (9, .int .i64 eb), (10, pt g10 0), (11, pt g11 0), (12, pt g12 0), (13, pt g13 0)] a → Bl w0 [(g13, .cells #[.int .i64 D0, .int .i64 D1, .int .i64 D2] 31 (0, 0)), (g12, .cells #[.int .i64 M0, .int .i64 M1, .int .i64 0] 31 (0, 0)), (g11, .cells #[.int .i64 yN, .int .i64 yD] 25 (0, 0)), (g10, .cells #[.int .i64 xN, .int .i64 xD] 25 (0, 0))] w → (restOf Tryd.f8 10).wp Tryd.prog (bodyPost Tryd.prog Tryd.f8 fun e w' => e = .returned (.bool true) ∧ Below w0.heap.size w0 w') a w := by
 intro a w hs hB
 conv => arg 2; whnf
 refine wp_seq ?_
 refine wp_seq ?_
 replace hs := hs.sub (l := [(2, .bool ng), (7, .bool true), (8, .int .i64 ea), (9, .int .i64 eb), (10, pt g10 0), (11, pt g11 0), (12, pt g12 0), (13, pt g13 0)]) (⟨rfl, rfl, rfl, rfl, rfl, rfl, rfl, rfl, trivial⟩)
 refine conf_region (n := 179) (sl := [(2, .bool ng), (7, .bool true), (8, .int .i64 ea), (9, .int .i64 eb), (10, pt g10 0), (11, pt g11 0), (12, pt g12 0), (13, pt g13 0)]) (vs := [pt g12 2, .int .i64 0, .bool true, .int .i64 ea, .int .i64 eb, .int .i64 m, .bool true, .bool true, .int .i64 ea, .int .i64 eb, .int .i64 m, .bool true, .bool true, .bool false, .bool false, pt g12 2, .int .i64 0, .bool true, .bool true, pt g12 0, .agg #[.int .i64 M0, .int .i64 M1], .int .i64 ea, .int .i64 eb, .int .i64 m, .agg #[.int .i64 M0, .int .i64 M1], .bool false, .bool false, .bool false, .bool false, pt g13 2, .int .i64 D2, .bool false, .int .i64 ea, .int .i64 eb, .int .i64 d, .bool false, .bool false, undef, undef, undef, undef, .bool false, .bool false, .bool false, .bool false, pt g13 2, .int .i64 D2, .bool false, .bool false, undef, undef, undef, undef, undef, undef, undef, .bool false, .bool false]) (B := Bl w0 [(g13, .cells #[.int .i64 D0, .int .i64 D1, .int .i64 D2] 31 (0, 0)), (g12, .cells #[.int .i64 M0, .int .i64 M1, .int .i64 0] 31 (0, 0)), (g11, .cells #[.int .i64 yN, .int .i64 yD] 25 (0, 0)), (g10, .cells #[.int .i64 xN, .int .i64 xD] 25 (0, 0))]) (by kernel_rfl) [2, 7, 8, 9, 10, 11, 12, 13] rfl (by kernel_rfl) rfl (AllFitL.all ⟨fit_free rfl (ok_fieldAddr31_1 rfl rfl),
   fit_free rfl (ok_load29 (k := 1) rfl rfl rfl rfl),
   fit_free rfl (ok_eq29 rfl rfl rfl (by decide)),
   fit_free rfl (ok_move rfl rfl),
   fit_free rfl (ok_move rfl rfl),
   fit_free rfl (ok_add3 rfl rfl rfl (hm)),
   fit_free rfl (ok_geq3 rfl rfl rfl (by simp <;> omega)),
   fit_free rfl (ok_move rfl rfl),
   fit_on rfl rfl rfl (ok_move rfl rfl),
   fit_on rfl rfl rfl (ok_move rfl rfl),
   fit_on rfl rfl rfl (ok_add3 rfl rfl rfl (hm)),
   fit_on rfl rfl rfl (ok_leq3 rfl rfl rfl (by simp <;> omega)),
   fit_free rfl (ok_pick_t rfl rfl rfl),
   fit_free rfl (ok_neq4 (a0 := true) (b0 := true) rfl rfl rfl (rfl)),
   fit_free rfl (ok_move rfl rfl),
   fit_on rfl rfl rfl (ok_fieldAddr31_1 rfl rfl),
   fit_on rfl rfl rfl (ok_load29 (k := 1) rfl rfl rfl rfl),
   fit_on rfl rfl rfl (ok_eq29 rfl rfl rfl (by decide)),
   fit_on rfl rfl rfl (ok_move rfl rfl),
   fit_on rfl rfl rfl (ok_fieldAddr31_0 rfl rfl),
   fit_on rfl rfl rfl (ok_load25 (k := 1) rfl rfl rfl rfl rfl),
   fit_on rfl rfl rfl (ok_move rfl rfl),
   fit_on rfl rfl rfl (ok_move rfl rfl),
   fit_on rfl rfl rfl (ok_add3 rfl rfl rfl (hm)),
   fit_on rfl rfl rfl (ok_call (args := #[.int .i64 m]) rfl Tryd.func27 (by kernel_rfl) rfl rfl (viaB fun w => F.wireloomlaw02_power.calls _ _ _ w hm2)),
   fit_on rfl rfl rfl (ok_neq25 rfl rfl rfl (by simp)),
   fit_on rfl rfl rfl (ok_pick_t rfl rfl rfl),
   fit_free rfl (ok_pick_f rfl rfl rfl),
   fit_free rfl (ok_move rfl rfl),
   fit_on rfl rfl rfl (ok_fieldAddr31_1 rfl rfl),
   fit_on rfl rfl rfl (ok_load29 (k := 0) rfl rfl rfl rfl),
   fit_on rfl rfl rfl (ok_eq29 rfl rfl rfl (decide_eq_false hd2)),
   fit_on rfl rfl rfl (ok_move rfl rfl),
   fit_on rfl rfl rfl (ok_move rfl rfl),
   fit_on rfl rfl rfl (ok_sub3 rfl rfl rfl (hd)),
   fit_on rfl rfl rfl (ok_geq3 rfl rfl rfl (by simp <;> omega)),
   fit_on rfl rfl rfl (ok_move rfl rfl),
   fit_off rfl rfl rfl rfl,
   fit_off rfl rfl rfl rfl,
   fit_off rfl rfl rfl rfl,
   fit_off rfl rfl rfl rfl,
   fit_on rfl rfl rfl (ok_pick_f rfl rfl rfl),
   fit_on rfl rfl rfl (ok_neq4 (a0 := false) (b0 := false) rfl rfl rfl (rfl)),
   fit_free rfl (ok_pick_f rfl rfl rfl),
   fit_free rfl (ok_move rfl rfl),
   fit_on rfl rfl rfl (ok_fieldAddr31_1 rfl rfl),
   fit_on rfl rfl rfl (ok_load29 (k := 0) rfl rfl rfl rfl),
   fit_on rfl rfl rfl (ok_eq29 rfl rfl rfl (decide_eq_false hd2)),
   fit_on rfl rfl rfl (ok_move rfl rfl),
   fit_off rfl rfl rfl rfl,
   fit_off rfl rfl rfl rfl,
   fit_off rfl rfl rfl rfl,
   fit_off rfl rfl rfl rfl,
   fit_off rfl rfl rfl rfl,
   fit_off rfl rfl rfl rfl,
   fit_off rfl rfl rfl rfl,
   fit_on rfl rfl rfl (ok_pick_f rfl rfl rfl),
   fit_free rfl (ok_pick_f rfl rfl rfl),
   trivial⟩) hs hB.drew (fun a w hs hB => ?_)
 replace hs := hs.sub (l := [(99, .bool false), (2, .bool ng), (7, .bool true), (8, .int .i64 ea), (9, .int .i64 eb), (10, pt g10 0), (11, pt g11 0)]) (⟨rfl, rfl, rfl, rfl, rfl, rfl, rfl, trivial⟩)
 refine then_n ?_
 replace hs := hs.sub (l := [(99, .bool false), (2, .bool ng), (7, .bool true), (8, .int .i64 ea), (9, .int .i64 eb), (10, pt g10 0), (11, pt g11 0)]) (⟨rfl, rfl, rfl, rfl, rfl, rfl, rfl, trivial⟩)
 refine c_false hs rfl ?_
 refine wp_skip ?_
 refine then_n ?_
 replace hs := hs.sub (l := [(2, .bool ng), (7, .bool true), (8, .int .i64 ea), (9, .int .i64 eb), (10, pt g10 0), (11, pt g11 0)]) (⟨rfl, rfl, rfl, rfl, rfl, rfl, trivial⟩)
 replace hs := hs.sub (l := [(2, .bool ng), (7, .bool true), (8, .int .i64 ea), (9, .int .i64 eb), (10, pt g10 0), (11, pt g11 0)]) (⟨rfl, rfl, rfl, rfl, rfl, rfl, trivial⟩)
 replace hB : Bl w0 [(g11, .cells #[.int .i64 yN, .int .i64 yD] 25 (0, 0)), (g10, .cells #[.int .i64 xN, .int .i64 xD] 25 (0, 0))] w := hB.keep [false, false, true, true]
 exact H  a w hs hB

theorem l10oh (K : Nat) (w0 : World) (g13 g12 g11 g10 : Nat) (ea eb m d xN xD yN yD M0 M1 D0 D1 D2 : Int) (ng : Bool) (hm : wrap64 (ea + eb) = m) (hd : wrap64 (ea - eb) = d) (hm1 : -62 ≤ m ∧ m ≤ 62) (hm2 : F.wireloomlaw02_power.f m = some (M0, M1)) (hd1 : 62 < d) (hd2 : D2 ≠ 0) (H : ∀ a w, Sl 179 [(2, .bool ng), (7, .bool true), (8, .int .i64 ea), (9, .int .i64 eb), (10, pt g10 0), (11, pt g11 0)] a → Bl w0 [(g11, .cells #[.int .i64 yN, .int .i64 yD] 25 (0, 0)), (g10, .cells #[.int .i64 xN, .int .i64 xD] 25 (0, 0))] w → (restOf Tryd.f8 12).wp Tryd.prog (bodyPost Tryd.prog Tryd.f8 fun e w' => e = .returned (.bool true) ∧ Below w0.heap.size w0 w') a w) :
  ∀ a w, Sl 179 [(2, .bool ng), (7, .bool true), (8, .int .i64 ea), (9, .int .i64 eb), (10, pt g10 0), (11, pt g11 0), (12, pt g12 0), (13, pt g13 0)] a → Bl w0 [(g13, .cells #[.int .i64 D0, .int .i64 D1, .int .i64 D2] 31 (0, 0)), (g12, .cells #[.int .i64 M0, .int .i64 M1, .int .i64 0] 31 (0, 0)), (g11, .cells #[.int .i64 yN, .int .i64 yD] 25 (0, 0)), (g10, .cells #[.int .i64 xN, .int .i64 xD] 25 (0, 0))] w → (restOf Tryd.f8 10).wp Tryd.prog (bodyPost Tryd.prog Tryd.f8 fun e w' => e = .returned (.bool true) ∧ Below w0.heap.size w0 w') a w := by
 intro a w hs hB
 conv => arg 2; whnf
 refine wp_seq ?_
 refine wp_seq ?_
 replace hs := hs.sub (l := [(2, .bool ng), (7, .bool true), (8, .int .i64 ea), (9, .int .i64 eb), (10, pt g10 0), (11, pt g11 0), (12, pt g12 0), (13, pt g13 0)]) (⟨rfl, rfl, rfl, rfl, rfl, rfl, rfl, rfl, trivial⟩)
 refine conf_region (n := 179) (sl := [(2, .bool ng), (7, .bool true), (8, .int .i64 ea), (9, .int .i64 eb), (10, pt g10 0), (11, pt g11 0), (12, pt g12 0), (13, pt g13 0)]) (vs := [pt g12 2, .int .i64 0, .bool true, .int .i64 ea, .int .i64 eb, .int .i64 m, .bool true, .bool true, .int .i64 ea, .int .i64 eb, .int .i64 m, .bool true, .bool true, .bool false, .bool false, pt g12 2, .int .i64 0, .bool true, .bool true, pt g12 0, .agg #[.int .i64 M0, .int .i64 M1], .int .i64 ea, .int .i64 eb, .int .i64 m, .agg #[.int .i64 M0, .int .i64 M1], .bool false, .bool false, .bool false, .bool false, pt g13 2, .int .i64 D2, .bool false, .int .i64 ea, .int .i64 eb, .int .i64 d, .bool true, .bool true, .int .i64 ea, .int .i64 eb, .int .i64 d, .bool false, .bool false, .bool false, .bool false, .bool false, pt g13 2, .int .i64 D2, .bool false, .bool false, undef, undef, undef, undef, undef, undef, undef, .bool false, .bool false]) (B := Bl w0 [(g13, .cells #[.int .i64 D0, .int .i64 D1, .int .i64 D2] 31 (0, 0)), (g12, .cells #[.int .i64 M0, .int .i64 M1, .int .i64 0] 31 (0, 0)), (g11, .cells #[.int .i64 yN, .int .i64 yD] 25 (0, 0)), (g10, .cells #[.int .i64 xN, .int .i64 xD] 25 (0, 0))]) (by kernel_rfl) [2, 7, 8, 9, 10, 11, 12, 13] rfl (by kernel_rfl) rfl (AllFitL.all ⟨fit_free rfl (ok_fieldAddr31_1 rfl rfl),
   fit_free rfl (ok_load29 (k := 1) rfl rfl rfl rfl),
   fit_free rfl (ok_eq29 rfl rfl rfl (by decide)),
   fit_free rfl (ok_move rfl rfl),
   fit_free rfl (ok_move rfl rfl),
   fit_free rfl (ok_add3 rfl rfl rfl (hm)),
   fit_free rfl (ok_geq3 rfl rfl rfl (by simp <;> omega)),
   fit_free rfl (ok_move rfl rfl),
   fit_on rfl rfl rfl (ok_move rfl rfl),
   fit_on rfl rfl rfl (ok_move rfl rfl),
   fit_on rfl rfl rfl (ok_add3 rfl rfl rfl (hm)),
   fit_on rfl rfl rfl (ok_leq3 rfl rfl rfl (by simp <;> omega)),
   fit_free rfl (ok_pick_t rfl rfl rfl),
   fit_free rfl (ok_neq4 (a0 := true) (b0 := true) rfl rfl rfl (rfl)),
   fit_free rfl (ok_move rfl rfl),
   fit_on rfl rfl rfl (ok_fieldAddr31_1 rfl rfl),
   fit_on rfl rfl rfl (ok_load29 (k := 1) rfl rfl rfl rfl),
   fit_on rfl rfl rfl (ok_eq29 rfl rfl rfl (by decide)),
   fit_on rfl rfl rfl (ok_move rfl rfl),
   fit_on rfl rfl rfl (ok_fieldAddr31_0 rfl rfl),
   fit_on rfl rfl rfl (ok_load25 (k := 1) rfl rfl rfl rfl rfl),
   fit_on rfl rfl rfl (ok_move rfl rfl),
   fit_on rfl rfl rfl (ok_move rfl rfl),
   fit_on rfl rfl rfl (ok_add3 rfl rfl rfl (hm)),
   fit_on rfl rfl rfl (ok_call (args := #[.int .i64 m]) rfl Tryd.func27 (by kernel_rfl) rfl rfl (viaB fun w => F.wireloomlaw02_power.calls _ _ _ w hm2)),
   fit_on rfl rfl rfl (ok_neq25 rfl rfl rfl (by simp)),
   fit_on rfl rfl rfl (ok_pick_t rfl rfl rfl),
   fit_free rfl (ok_pick_f rfl rfl rfl),
   fit_free rfl (ok_move rfl rfl),
   fit_on rfl rfl rfl (ok_fieldAddr31_1 rfl rfl),
   fit_on rfl rfl rfl (ok_load29 (k := 0) rfl rfl rfl rfl),
   fit_on rfl rfl rfl (ok_eq29 rfl rfl rfl (decide_eq_false hd2)),
   fit_on rfl rfl rfl (ok_move rfl rfl),
   fit_on rfl rfl rfl (ok_move rfl rfl),
   fit_on rfl rfl rfl (ok_sub3 rfl rfl rfl (hd)),
   fit_on rfl rfl rfl (ok_geq3 rfl rfl rfl (by simp <;> omega)),
   fit_on rfl rfl rfl (ok_move rfl rfl),
   fit_on rfl rfl rfl (ok_move rfl rfl),
   fit_on rfl rfl rfl (ok_move rfl rfl),
   fit_on rfl rfl rfl (ok_sub3 rfl rfl rfl (hd)),
   fit_on rfl rfl rfl (ok_leq3 rfl rfl rfl (by simp <;> omega)),
   fit_on rfl rfl rfl (ok_pick_t rfl rfl rfl),
   fit_on rfl rfl rfl (ok_neq4 (a0 := false) (b0 := false) rfl rfl rfl (rfl)),
   fit_free rfl (ok_pick_f rfl rfl rfl),
   fit_free rfl (ok_move rfl rfl),
   fit_on rfl rfl rfl (ok_fieldAddr31_1 rfl rfl),
   fit_on rfl rfl rfl (ok_load29 (k := 0) rfl rfl rfl rfl),
   fit_on rfl rfl rfl (ok_eq29 rfl rfl rfl (decide_eq_false hd2)),
   fit_on rfl rfl rfl (ok_move rfl rfl),
   fit_off rfl rfl rfl rfl,
   fit_off rfl rfl rfl rfl,
   fit_off rfl rfl rfl rfl,
   fit_off rfl rfl rfl rfl,
   fit_off rfl rfl rfl rfl,
   fit_off rfl rfl rfl rfl,
   fit_off rfl rfl rfl rfl,
   fit_on rfl rfl rfl (ok_pick_f rfl rfl rfl),
   fit_free rfl (ok_pick_f rfl rfl rfl),
   trivial⟩) hs hB.drew (fun a w hs hB => ?_)
 replace hs := hs.sub (l := [(99, .bool false), (2, .bool ng), (7, .bool true), (8, .int .i64 ea), (9, .int .i64 eb), (10, pt g10 0), (11, pt g11 0)]) (⟨rfl, rfl, rfl, rfl, rfl, rfl, rfl, trivial⟩)
 refine then_n ?_
 replace hs := hs.sub (l := [(99, .bool false), (2, .bool ng), (7, .bool true), (8, .int .i64 ea), (9, .int .i64 eb), (10, pt g10 0), (11, pt g11 0)]) (⟨rfl, rfl, rfl, rfl, rfl, rfl, rfl, trivial⟩)
 refine c_false hs rfl ?_
 refine wp_skip ?_
 refine then_n ?_
 replace hs := hs.sub (l := [(2, .bool ng), (7, .bool true), (8, .int .i64 ea), (9, .int .i64 eb), (10, pt g10 0), (11, pt g11 0)]) (⟨rfl, rfl, rfl, rfl, rfl, rfl, trivial⟩)
 replace hs := hs.sub (l := [(2, .bool ng), (7, .bool true), (8, .int .i64 ea), (9, .int .i64 eb), (10, pt g10 0), (11, pt g11 0)]) (⟨rfl, rfl, rfl, rfl, rfl, rfl, trivial⟩)
 replace hB : Bl w0 [(g11, .cells #[.int .i64 yN, .int .i64 yD] 25 (0, 0)), (g10, .cells #[.int .i64 xN, .int .i64 xD] 25 (0, 0))] w := hB.keep [false, false, true, true]
 exact H  a w hs hB

theorem l10lo (K : Nat) (w0 : World) (g13 g12 g11 g10 : Nat) (ea eb m d xN xD yN yD M0 M1 M2 D0 D1 : Int) (ng : Bool) (hm : wrap64 (ea + eb) = m) (hd : wrap64 (ea - eb) = d) (hm1 : m < -62) (hm2 : M2 ≠ 0) (hd1 : -62 ≤ d ∧ d ≤ 62) (hd2 : F.wireloomlaw02_power.f d = some (D0, D1)) (H : ∀ a w, Sl 179 [(2, .bool ng), (7, .bool true), (8, .int .i64 ea), (9, .int .i64 eb), (10, pt g10 0), (11, pt g11 0)] a → Bl w0 [(g11, .cells #[.int .i64 yN, .int .i64 yD] 25 (0, 0)), (g10, .cells #[.int .i64 xN, .int .i64 xD] 25 (0, 0))] w → (restOf Tryd.f8 12).wp Tryd.prog (bodyPost Tryd.prog Tryd.f8 fun e w' => e = .returned (.bool true) ∧ Below w0.heap.size w0 w') a w) :
  ∀ a w, Sl 179 [(2, .bool ng), (7, .bool true), (8, .int .i64 ea), (9, .int .i64 eb), (10, pt g10 0), (11, pt g11 0), (12, pt g12 0), (13, pt g13 0)] a → Bl w0 [(g13, .cells #[.int .i64 D0, .int .i64 D1, .int .i64 0] 31 (0, 0)), (g12, .cells #[.int .i64 M0, .int .i64 M1, .int .i64 M2] 31 (0, 0)), (g11, .cells #[.int .i64 yN, .int .i64 yD] 25 (0, 0)), (g10, .cells #[.int .i64 xN, .int .i64 xD] 25 (0, 0))] w → (restOf Tryd.f8 10).wp Tryd.prog (bodyPost Tryd.prog Tryd.f8 fun e w' => e = .returned (.bool true) ∧ Below w0.heap.size w0 w') a w := by
 intro a w hs hB
 conv => arg 2; whnf
 refine wp_seq ?_
 refine wp_seq ?_
 replace hs := hs.sub (l := [(2, .bool ng), (7, .bool true), (8, .int .i64 ea), (9, .int .i64 eb), (10, pt g10 0), (11, pt g11 0), (12, pt g12 0), (13, pt g13 0)]) (⟨rfl, rfl, rfl, rfl, rfl, rfl, rfl, rfl, trivial⟩)
 refine conf_region (n := 179) (sl := [(2, .bool ng), (7, .bool true), (8, .int .i64 ea), (9, .int .i64 eb), (10, pt g10 0), (11, pt g11 0), (12, pt g12 0), (13, pt g13 0)]) (vs := [pt g12 2, .int .i64 M2, .bool false, .int .i64 ea, .int .i64 eb, .int .i64 m, .bool false, .bool false, undef, undef, undef, undef, .bool false, .bool false, .bool false, pt g12 2, .int .i64 M2, .bool false, .bool false, undef, undef, undef, undef, undef, undef, undef, .bool false, .bool false, .bool false, pt g13 2, .int .i64 0, .bool true, .int .i64 ea, .int .i64 eb, .int .i64 d, .bool true, .bool true, .int .i64 ea, .int .i64 eb, .int .i64 d, .bool true, .bool true, .bool false, .bool false, .bool false, pt g13 2, .int .i64 0, .bool true, .bool true, pt g13 0, .agg #[.int .i64 D0, .int .i64 D1], .int .i64 ea, .int .i64 eb, .int .i64 d, .agg #[.int .i64 D0, .int .i64 D1], .bool false, .bool false, .bool false]) (B := Bl w0 [(g13, .cells #[.int .i64 D0, .int .i64 D1, .int .i64 0] 31 (0, 0)), (g12, .cells #[.int .i64 M0, .int .i64 M1, .int .i64 M2] 31 (0, 0)), (g11, .cells #[.int .i64 yN, .int .i64 yD] 25 (0, 0)), (g10, .cells #[.int .i64 xN, .int .i64 xD] 25 (0, 0))]) (by kernel_rfl) [2, 7, 8, 9, 10, 11, 12, 13] rfl (by kernel_rfl) rfl (AllFitL.all ⟨fit_free rfl (ok_fieldAddr31_1 rfl rfl),
   fit_free rfl (ok_load29 (k := 1) rfl rfl rfl rfl),
   fit_free rfl (ok_eq29 rfl rfl rfl (decide_eq_false hm2)),
   fit_free rfl (ok_move rfl rfl),
   fit_free rfl (ok_move rfl rfl),
   fit_free rfl (ok_add3 rfl rfl rfl (hm)),
   fit_free rfl (ok_geq3 rfl rfl rfl (by simp <;> omega)),
   fit_free rfl (ok_move rfl rfl),
   fit_off rfl rfl rfl rfl,
   fit_off rfl rfl rfl rfl,
   fit_off rfl rfl rfl rfl,
   fit_off rfl rfl rfl rfl,
   fit_free rfl (ok_pick_f rfl rfl rfl),
   fit_free rfl (ok_neq4 (a0 := false) (b0 := false) rfl rfl rfl (rfl)),
   fit_free rfl (ok_move rfl rfl),
   fit_on rfl rfl rfl (ok_fieldAddr31_1 rfl rfl),
   fit_on rfl rfl rfl (ok_load29 (k := 1) rfl rfl rfl rfl),
   fit_on rfl rfl rfl (ok_eq29 rfl rfl rfl (decide_eq_false hm2)),
   fit_on rfl rfl rfl (ok_move rfl rfl),
   fit_off rfl rfl rfl rfl,
   fit_off rfl rfl rfl rfl,
   fit_off rfl rfl rfl rfl,
   fit_off rfl rfl rfl rfl,
   fit_off rfl rfl rfl rfl,
   fit_off rfl rfl rfl rfl,
   fit_off rfl rfl rfl rfl,
   fit_on rfl rfl rfl (ok_pick_f rfl rfl rfl),
   fit_free rfl (ok_pick_f rfl rfl rfl),
   fit_free rfl (ok_move rfl rfl),
   fit_on rfl rfl rfl (ok_fieldAddr31_1 rfl rfl),
   fit_on rfl rfl rfl (ok_load29 (k := 0) rfl rfl rfl rfl),
   fit_on rfl rfl rfl (ok_eq29 rfl rfl rfl (by decide)),
   fit_on rfl rfl rfl (ok_move rfl rfl),
   fit_on rfl rfl rfl (ok_move rfl rfl),
   fit_on rfl rfl rfl (ok_sub3 rfl rfl rfl (hd)),
   fit_on rfl rfl rfl (ok_geq3 rfl rfl rfl (by simp <;> omega)),
   fit_on rfl rfl rfl (ok_move rfl rfl),
   fit_on rfl rfl rfl (ok_move rfl rfl),
   fit_on rfl rfl rfl (ok_move rfl rfl),
   fit_on rfl rfl rfl (ok_sub3 rfl rfl rfl (hd)),
   fit_on rfl rfl rfl (ok_leq3 rfl rfl rfl (by simp <;> omega)),
   fit_on rfl rfl rfl (ok_pick_t rfl rfl rfl),
   fit_on rfl rfl rfl (ok_neq4 (a0 := true) (b0 := true) rfl rfl rfl (rfl)),
   fit_free rfl (ok_pick_f rfl rfl rfl),
   fit_free rfl (ok_move rfl rfl),
   fit_on rfl rfl rfl (ok_fieldAddr31_1 rfl rfl),
   fit_on rfl rfl rfl (ok_load29 (k := 0) rfl rfl rfl rfl),
   fit_on rfl rfl rfl (ok_eq29 rfl rfl rfl (by decide)),
   fit_on rfl rfl rfl (ok_move rfl rfl),
   fit_on rfl rfl rfl (ok_fieldAddr31_0 rfl rfl),
   fit_on rfl rfl rfl (ok_load25 (k := 0) rfl rfl rfl rfl rfl),
   fit_on rfl rfl rfl (ok_move rfl rfl),
   fit_on rfl rfl rfl (ok_move rfl rfl),
   fit_on rfl rfl rfl (ok_sub3 rfl rfl rfl (hd)),
   fit_on rfl rfl rfl (ok_call (args := #[.int .i64 d]) rfl Tryd.func27 (by kernel_rfl) rfl rfl (viaB fun w => F.wireloomlaw02_power.calls _ _ _ w hd2)),
   fit_on rfl rfl rfl (ok_neq25 rfl rfl rfl (by simp)),
   fit_on rfl rfl rfl (ok_pick_t rfl rfl rfl),
   fit_free rfl (ok_pick_f rfl rfl rfl),
   trivial⟩) hs hB.drew (fun a w hs hB => ?_)
 replace hs := hs.sub (l := [(99, .bool false), (2, .bool ng), (7, .bool true), (8, .int .i64 ea), (9, .int .i64 eb), (10, pt g10 0), (11, pt g11 0)]) (⟨rfl, rfl, rfl, rfl, rfl, rfl, rfl, trivial⟩)
 refine then_n ?_
 replace hs := hs.sub (l := [(99, .bool false), (2, .bool ng), (7, .bool true), (8, .int .i64 ea), (9, .int .i64 eb), (10, pt g10 0), (11, pt g11 0)]) (⟨rfl, rfl, rfl, rfl, rfl, rfl, rfl, trivial⟩)
 refine c_false hs rfl ?_
 refine wp_skip ?_
 refine then_n ?_
 replace hs := hs.sub (l := [(2, .bool ng), (7, .bool true), (8, .int .i64 ea), (9, .int .i64 eb), (10, pt g10 0), (11, pt g11 0)]) (⟨rfl, rfl, rfl, rfl, rfl, rfl, trivial⟩)
 replace hs := hs.sub (l := [(2, .bool ng), (7, .bool true), (8, .int .i64 ea), (9, .int .i64 eb), (10, pt g10 0), (11, pt g11 0)]) (⟨rfl, rfl, rfl, rfl, rfl, rfl, trivial⟩)
 replace hB : Bl w0 [(g11, .cells #[.int .i64 yN, .int .i64 yD] 25 (0, 0)), (g10, .cells #[.int .i64 xN, .int .i64 xD] 25 (0, 0))] w := hB.keep [false, false, true, true]
 exact H  a w hs hB

theorem l10ll (K : Nat) (w0 : World) (g13 g12 g11 g10 : Nat) (ea eb m d xN xD yN yD M0 M1 M2 D0 D1 D2 : Int) (ng : Bool) (hm : wrap64 (ea + eb) = m) (hd : wrap64 (ea - eb) = d) (hm1 : m < -62) (hm2 : M2 ≠ 0) (hd1 : d < -62) (hd2 : D2 ≠ 0) (H : ∀ a w, Sl 179 [(2, .bool ng), (7, .bool true), (8, .int .i64 ea), (9, .int .i64 eb), (10, pt g10 0), (11, pt g11 0)] a → Bl w0 [(g11, .cells #[.int .i64 yN, .int .i64 yD] 25 (0, 0)), (g10, .cells #[.int .i64 xN, .int .i64 xD] 25 (0, 0))] w → (restOf Tryd.f8 12).wp Tryd.prog (bodyPost Tryd.prog Tryd.f8 fun e w' => e = .returned (.bool true) ∧ Below w0.heap.size w0 w') a w) :
  ∀ a w, Sl 179 [(2, .bool ng), (7, .bool true), (8, .int .i64 ea), (9, .int .i64 eb), (10, pt g10 0), (11, pt g11 0), (12, pt g12 0), (13, pt g13 0)] a → Bl w0 [(g13, .cells #[.int .i64 D0, .int .i64 D1, .int .i64 D2] 31 (0, 0)), (g12, .cells #[.int .i64 M0, .int .i64 M1, .int .i64 M2] 31 (0, 0)), (g11, .cells #[.int .i64 yN, .int .i64 yD] 25 (0, 0)), (g10, .cells #[.int .i64 xN, .int .i64 xD] 25 (0, 0))] w → (restOf Tryd.f8 10).wp Tryd.prog (bodyPost Tryd.prog Tryd.f8 fun e w' => e = .returned (.bool true) ∧ Below w0.heap.size w0 w') a w := by
 intro a w hs hB
 conv => arg 2; whnf
 refine wp_seq ?_
 refine wp_seq ?_
 replace hs := hs.sub (l := [(2, .bool ng), (7, .bool true), (8, .int .i64 ea), (9, .int .i64 eb), (10, pt g10 0), (11, pt g11 0), (12, pt g12 0), (13, pt g13 0)]) (⟨rfl, rfl, rfl, rfl, rfl, rfl, rfl, rfl, trivial⟩)
 refine conf_region (n := 179) (sl := [(2, .bool ng), (7, .bool true), (8, .int .i64 ea), (9, .int .i64 eb), (10, pt g10 0), (11, pt g11 0), (12, pt g12 0), (13, pt g13 0)]) (vs := [pt g12 2, .int .i64 M2, .bool false, .int .i64 ea, .int .i64 eb, .int .i64 m, .bool false, .bool false, undef, undef, undef, undef, .bool false, .bool false, .bool false, pt g12 2, .int .i64 M2, .bool false, .bool false, undef, undef, undef, undef, undef, undef, undef, .bool false, .bool false, .bool false, pt g13 2, .int .i64 D2, .bool false, .int .i64 ea, .int .i64 eb, .int .i64 d, .bool false, .bool false, undef, undef, undef, undef, .bool false, .bool false, .bool false, .bool false, pt g13 2, .int .i64 D2, .bool false, .bool false, undef, undef, undef, undef, undef, undef, undef, .bool false, .bool false]) (B := Bl w0 [(g13, .cells #[.int .i64 D0, .int .i64 D1, .int .i64 D2] 31 (0, 0)), (g12, .cells #[.int .i64 M0, .int .i64 M1, .int .i64 M2] 31 (0, 0)), (g11, .cells #[.int .i64 yN, .int .i64 yD] 25 (0, 0)), (g10, .cells #[.int .i64 xN, .int .i64 xD] 25 (0, 0))]) (by kernel_rfl) [2, 7, 8, 9, 10, 11, 12, 13] rfl (by kernel_rfl) rfl (AllFitL.all ⟨fit_free rfl (ok_fieldAddr31_1 rfl rfl),
   fit_free rfl (ok_load29 (k := 1) rfl rfl rfl rfl),
   fit_free rfl (ok_eq29 rfl rfl rfl (decide_eq_false hm2)),
   fit_free rfl (ok_move rfl rfl),
   fit_free rfl (ok_move rfl rfl),
   fit_free rfl (ok_add3 rfl rfl rfl (hm)),
   fit_free rfl (ok_geq3 rfl rfl rfl (by simp <;> omega)),
   fit_free rfl (ok_move rfl rfl),
   fit_off rfl rfl rfl rfl,
   fit_off rfl rfl rfl rfl,
   fit_off rfl rfl rfl rfl,
   fit_off rfl rfl rfl rfl,
   fit_free rfl (ok_pick_f rfl rfl rfl),
   fit_free rfl (ok_neq4 (a0 := false) (b0 := false) rfl rfl rfl (rfl)),
   fit_free rfl (ok_move rfl rfl),
   fit_on rfl rfl rfl (ok_fieldAddr31_1 rfl rfl),
   fit_on rfl rfl rfl (ok_load29 (k := 1) rfl rfl rfl rfl),
   fit_on rfl rfl rfl (ok_eq29 rfl rfl rfl (decide_eq_false hm2)),
   fit_on rfl rfl rfl (ok_move rfl rfl),
   fit_off rfl rfl rfl rfl,
   fit_off rfl rfl rfl rfl,
   fit_off rfl rfl rfl rfl,
   fit_off rfl rfl rfl rfl,
   fit_off rfl rfl rfl rfl,
   fit_off rfl rfl rfl rfl,
   fit_off rfl rfl rfl rfl,
   fit_on rfl rfl rfl (ok_pick_f rfl rfl rfl),
   fit_free rfl (ok_pick_f rfl rfl rfl),
   fit_free rfl (ok_move rfl rfl),
   fit_on rfl rfl rfl (ok_fieldAddr31_1 rfl rfl),
   fit_on rfl rfl rfl (ok_load29 (k := 0) rfl rfl rfl rfl),
   fit_on rfl rfl rfl (ok_eq29 rfl rfl rfl (decide_eq_false hd2)),
   fit_on rfl rfl rfl (ok_move rfl rfl),
   fit_on rfl rfl rfl (ok_move rfl rfl),
   fit_on rfl rfl rfl (ok_sub3 rfl rfl rfl (hd)),
   fit_on rfl rfl rfl (ok_geq3 rfl rfl rfl (by simp <;> omega)),
   fit_on rfl rfl rfl (ok_move rfl rfl),
   fit_off rfl rfl rfl rfl,
   fit_off rfl rfl rfl rfl,
   fit_off rfl rfl rfl rfl,
   fit_off rfl rfl rfl rfl,
   fit_on rfl rfl rfl (ok_pick_f rfl rfl rfl),
   fit_on rfl rfl rfl (ok_neq4 (a0 := false) (b0 := false) rfl rfl rfl (rfl)),
   fit_free rfl (ok_pick_f rfl rfl rfl),
   fit_free rfl (ok_move rfl rfl),
   fit_on rfl rfl rfl (ok_fieldAddr31_1 rfl rfl),
   fit_on rfl rfl rfl (ok_load29 (k := 0) rfl rfl rfl rfl),
   fit_on rfl rfl rfl (ok_eq29 rfl rfl rfl (decide_eq_false hd2)),
   fit_on rfl rfl rfl (ok_move rfl rfl),
   fit_off rfl rfl rfl rfl,
   fit_off rfl rfl rfl rfl,
   fit_off rfl rfl rfl rfl,
   fit_off rfl rfl rfl rfl,
   fit_off rfl rfl rfl rfl,
   fit_off rfl rfl rfl rfl,
   fit_off rfl rfl rfl rfl,
   fit_on rfl rfl rfl (ok_pick_f rfl rfl rfl),
   fit_free rfl (ok_pick_f rfl rfl rfl),
   trivial⟩) hs hB.drew (fun a w hs hB => ?_)
 replace hs := hs.sub (l := [(99, .bool false), (2, .bool ng), (7, .bool true), (8, .int .i64 ea), (9, .int .i64 eb), (10, pt g10 0), (11, pt g11 0)]) (⟨rfl, rfl, rfl, rfl, rfl, rfl, rfl, trivial⟩)
 refine then_n ?_
 replace hs := hs.sub (l := [(99, .bool false), (2, .bool ng), (7, .bool true), (8, .int .i64 ea), (9, .int .i64 eb), (10, pt g10 0), (11, pt g11 0)]) (⟨rfl, rfl, rfl, rfl, rfl, rfl, rfl, trivial⟩)
 refine c_false hs rfl ?_
 refine wp_skip ?_
 refine then_n ?_
 replace hs := hs.sub (l := [(2, .bool ng), (7, .bool true), (8, .int .i64 ea), (9, .int .i64 eb), (10, pt g10 0), (11, pt g11 0)]) (⟨rfl, rfl, rfl, rfl, rfl, rfl, trivial⟩)
 replace hs := hs.sub (l := [(2, .bool ng), (7, .bool true), (8, .int .i64 ea), (9, .int .i64 eb), (10, pt g10 0), (11, pt g11 0)]) (⟨rfl, rfl, rfl, rfl, rfl, rfl, trivial⟩)
 replace hB : Bl w0 [(g11, .cells #[.int .i64 yN, .int .i64 yD] 25 (0, 0)), (g10, .cells #[.int .i64 xN, .int .i64 xD] 25 (0, 0))] w := hB.keep [false, false, true, true]
 exact H  a w hs hB

theorem l10lh (K : Nat) (w0 : World) (g13 g12 g11 g10 : Nat) (ea eb m d xN xD yN yD M0 M1 M2 D0 D1 D2 : Int) (ng : Bool) (hm : wrap64 (ea + eb) = m) (hd : wrap64 (ea - eb) = d) (hm1 : m < -62) (hm2 : M2 ≠ 0) (hd1 : 62 < d) (hd2 : D2 ≠ 0) (H : ∀ a w, Sl 179 [(2, .bool ng), (7, .bool true), (8, .int .i64 ea), (9, .int .i64 eb), (10, pt g10 0), (11, pt g11 0)] a → Bl w0 [(g11, .cells #[.int .i64 yN, .int .i64 yD] 25 (0, 0)), (g10, .cells #[.int .i64 xN, .int .i64 xD] 25 (0, 0))] w → (restOf Tryd.f8 12).wp Tryd.prog (bodyPost Tryd.prog Tryd.f8 fun e w' => e = .returned (.bool true) ∧ Below w0.heap.size w0 w') a w) :
  ∀ a w, Sl 179 [(2, .bool ng), (7, .bool true), (8, .int .i64 ea), (9, .int .i64 eb), (10, pt g10 0), (11, pt g11 0), (12, pt g12 0), (13, pt g13 0)] a → Bl w0 [(g13, .cells #[.int .i64 D0, .int .i64 D1, .int .i64 D2] 31 (0, 0)), (g12, .cells #[.int .i64 M0, .int .i64 M1, .int .i64 M2] 31 (0, 0)), (g11, .cells #[.int .i64 yN, .int .i64 yD] 25 (0, 0)), (g10, .cells #[.int .i64 xN, .int .i64 xD] 25 (0, 0))] w → (restOf Tryd.f8 10).wp Tryd.prog (bodyPost Tryd.prog Tryd.f8 fun e w' => e = .returned (.bool true) ∧ Below w0.heap.size w0 w') a w := by
 intro a w hs hB
 conv => arg 2; whnf
 refine wp_seq ?_
 refine wp_seq ?_
 replace hs := hs.sub (l := [(2, .bool ng), (7, .bool true), (8, .int .i64 ea), (9, .int .i64 eb), (10, pt g10 0), (11, pt g11 0), (12, pt g12 0), (13, pt g13 0)]) (⟨rfl, rfl, rfl, rfl, rfl, rfl, rfl, rfl, trivial⟩)
 refine conf_region (n := 179) (sl := [(2, .bool ng), (7, .bool true), (8, .int .i64 ea), (9, .int .i64 eb), (10, pt g10 0), (11, pt g11 0), (12, pt g12 0), (13, pt g13 0)]) (vs := [pt g12 2, .int .i64 M2, .bool false, .int .i64 ea, .int .i64 eb, .int .i64 m, .bool false, .bool false, undef, undef, undef, undef, .bool false, .bool false, .bool false, pt g12 2, .int .i64 M2, .bool false, .bool false, undef, undef, undef, undef, undef, undef, undef, .bool false, .bool false, .bool false, pt g13 2, .int .i64 D2, .bool false, .int .i64 ea, .int .i64 eb, .int .i64 d, .bool true, .bool true, .int .i64 ea, .int .i64 eb, .int .i64 d, .bool false, .bool false, .bool false, .bool false, .bool false, pt g13 2, .int .i64 D2, .bool false, .bool false, undef, undef, undef, undef, undef, undef, undef, .bool false, .bool false]) (B := Bl w0 [(g13, .cells #[.int .i64 D0, .int .i64 D1, .int .i64 D2] 31 (0, 0)), (g12, .cells #[.int .i64 M0, .int .i64 M1, .int .i64 M2] 31 (0, 0)), (g11, .cells #[.int .i64 yN, .int .i64 yD] 25 (0, 0)), (g10, .cells #[.int .i64 xN, .int .i64 xD] 25 (0, 0))]) (by kernel_rfl) [2, 7, 8, 9, 10, 11, 12, 13] rfl (by kernel_rfl) rfl (AllFitL.all ⟨fit_free rfl (ok_fieldAddr31_1 rfl rfl),
   fit_free rfl (ok_load29 (k := 1) rfl rfl rfl rfl),
   fit_free rfl (ok_eq29 rfl rfl rfl (decide_eq_false hm2)),
   fit_free rfl (ok_move rfl rfl),
   fit_free rfl (ok_move rfl rfl),
   fit_free rfl (ok_add3 rfl rfl rfl (hm)),
   fit_free rfl (ok_geq3 rfl rfl rfl (by simp <;> omega)),
   fit_free rfl (ok_move rfl rfl),
   fit_off rfl rfl rfl rfl,
   fit_off rfl rfl rfl rfl,
   fit_off rfl rfl rfl rfl,
   fit_off rfl rfl rfl rfl,
   fit_free rfl (ok_pick_f rfl rfl rfl),
   fit_free rfl (ok_neq4 (a0 := false) (b0 := false) rfl rfl rfl (rfl)),
   fit_free rfl (ok_move rfl rfl),
   fit_on rfl rfl rfl (ok_fieldAddr31_1 rfl rfl),
   fit_on rfl rfl rfl (ok_load29 (k := 1) rfl rfl rfl rfl),
   fit_on rfl rfl rfl (ok_eq29 rfl rfl rfl (decide_eq_false hm2)),
   fit_on rfl rfl rfl (ok_move rfl rfl),
   fit_off rfl rfl rfl rfl,
   fit_off rfl rfl rfl rfl,
   fit_off rfl rfl rfl rfl,
   fit_off rfl rfl rfl rfl,
   fit_off rfl rfl rfl rfl,
   fit_off rfl rfl rfl rfl,
   fit_off rfl rfl rfl rfl,
   fit_on rfl rfl rfl (ok_pick_f rfl rfl rfl),
   fit_free rfl (ok_pick_f rfl rfl rfl),
   fit_free rfl (ok_move rfl rfl),
   fit_on rfl rfl rfl (ok_fieldAddr31_1 rfl rfl),
   fit_on rfl rfl rfl (ok_load29 (k := 0) rfl rfl rfl rfl),
   fit_on rfl rfl rfl (ok_eq29 rfl rfl rfl (decide_eq_false hd2)),
   fit_on rfl rfl rfl (ok_move rfl rfl),
   fit_on rfl rfl rfl (ok_move rfl rfl),
   fit_on rfl rfl rfl (ok_sub3 rfl rfl rfl (hd)),
   fit_on rfl rfl rfl (ok_geq3 rfl rfl rfl (by simp <;> omega)),
   fit_on rfl rfl rfl (ok_move rfl rfl),
   fit_on rfl rfl rfl (ok_move rfl rfl),
   fit_on rfl rfl rfl (ok_move rfl rfl),
   fit_on rfl rfl rfl (ok_sub3 rfl rfl rfl (hd)),
   fit_on rfl rfl rfl (ok_leq3 rfl rfl rfl (by simp <;> omega)),
   fit_on rfl rfl rfl (ok_pick_t rfl rfl rfl),
   fit_on rfl rfl rfl (ok_neq4 (a0 := false) (b0 := false) rfl rfl rfl (rfl)),
   fit_free rfl (ok_pick_f rfl rfl rfl),
   fit_free rfl (ok_move rfl rfl),
   fit_on rfl rfl rfl (ok_fieldAddr31_1 rfl rfl),
   fit_on rfl rfl rfl (ok_load29 (k := 0) rfl rfl rfl rfl),
   fit_on rfl rfl rfl (ok_eq29 rfl rfl rfl (decide_eq_false hd2)),
   fit_on rfl rfl rfl (ok_move rfl rfl),
   fit_off rfl rfl rfl rfl,
   fit_off rfl rfl rfl rfl,
   fit_off rfl rfl rfl rfl,
   fit_off rfl rfl rfl rfl,
   fit_off rfl rfl rfl rfl,
   fit_off rfl rfl rfl rfl,
   fit_off rfl rfl rfl rfl,
   fit_on rfl rfl rfl (ok_pick_f rfl rfl rfl),
   fit_free rfl (ok_pick_f rfl rfl rfl),
   trivial⟩) hs hB.drew (fun a w hs hB => ?_)
 replace hs := hs.sub (l := [(99, .bool false), (2, .bool ng), (7, .bool true), (8, .int .i64 ea), (9, .int .i64 eb), (10, pt g10 0), (11, pt g11 0)]) (⟨rfl, rfl, rfl, rfl, rfl, rfl, rfl, trivial⟩)
 refine then_n ?_
 replace hs := hs.sub (l := [(99, .bool false), (2, .bool ng), (7, .bool true), (8, .int .i64 ea), (9, .int .i64 eb), (10, pt g10 0), (11, pt g11 0)]) (⟨rfl, rfl, rfl, rfl, rfl, rfl, rfl, trivial⟩)
 refine c_false hs rfl ?_
 refine wp_skip ?_
 refine then_n ?_
 replace hs := hs.sub (l := [(2, .bool ng), (7, .bool true), (8, .int .i64 ea), (9, .int .i64 eb), (10, pt g10 0), (11, pt g11 0)]) (⟨rfl, rfl, rfl, rfl, rfl, rfl, trivial⟩)
 replace hs := hs.sub (l := [(2, .bool ng), (7, .bool true), (8, .int .i64 ea), (9, .int .i64 eb), (10, pt g10 0), (11, pt g11 0)]) (⟨rfl, rfl, rfl, rfl, rfl, rfl, trivial⟩)
 replace hB : Bl w0 [(g11, .cells #[.int .i64 yN, .int .i64 yD] 25 (0, 0)), (g10, .cells #[.int .i64 xN, .int .i64 xD] 25 (0, 0))] w := hB.keep [false, false, true, true]
 exact H  a w hs hB

theorem l10ho (K : Nat) (w0 : World) (g13 g12 g11 g10 : Nat) (ea eb m d xN xD yN yD M0 M1 M2 D0 D1 : Int) (ng : Bool) (hm : wrap64 (ea + eb) = m) (hd : wrap64 (ea - eb) = d) (hm1 : 62 < m) (hm2 : M2 ≠ 0) (hd1 : -62 ≤ d ∧ d ≤ 62) (hd2 : F.wireloomlaw02_power.f d = some (D0, D1)) (H : ∀ a w, Sl 179 [(2, .bool ng), (7, .bool true), (8, .int .i64 ea), (9, .int .i64 eb), (10, pt g10 0), (11, pt g11 0)] a → Bl w0 [(g11, .cells #[.int .i64 yN, .int .i64 yD] 25 (0, 0)), (g10, .cells #[.int .i64 xN, .int .i64 xD] 25 (0, 0))] w → (restOf Tryd.f8 12).wp Tryd.prog (bodyPost Tryd.prog Tryd.f8 fun e w' => e = .returned (.bool true) ∧ Below w0.heap.size w0 w') a w) :
  ∀ a w, Sl 179 [(2, .bool ng), (7, .bool true), (8, .int .i64 ea), (9, .int .i64 eb), (10, pt g10 0), (11, pt g11 0), (12, pt g12 0), (13, pt g13 0)] a → Bl w0 [(g13, .cells #[.int .i64 D0, .int .i64 D1, .int .i64 0] 31 (0, 0)), (g12, .cells #[.int .i64 M0, .int .i64 M1, .int .i64 M2] 31 (0, 0)), (g11, .cells #[.int .i64 yN, .int .i64 yD] 25 (0, 0)), (g10, .cells #[.int .i64 xN, .int .i64 xD] 25 (0, 0))] w → (restOf Tryd.f8 10).wp Tryd.prog (bodyPost Tryd.prog Tryd.f8 fun e w' => e = .returned (.bool true) ∧ Below w0.heap.size w0 w') a w := by
 intro a w hs hB
 conv => arg 2; whnf
 refine wp_seq ?_
 refine wp_seq ?_
 replace hs := hs.sub (l := [(2, .bool ng), (7, .bool true), (8, .int .i64 ea), (9, .int .i64 eb), (10, pt g10 0), (11, pt g11 0), (12, pt g12 0), (13, pt g13 0)]) (⟨rfl, rfl, rfl, rfl, rfl, rfl, rfl, rfl, trivial⟩)
 refine conf_region (n := 179) (sl := [(2, .bool ng), (7, .bool true), (8, .int .i64 ea), (9, .int .i64 eb), (10, pt g10 0), (11, pt g11 0), (12, pt g12 0), (13, pt g13 0)]) (vs := [pt g12 2, .int .i64 M2, .bool false, .int .i64 ea, .int .i64 eb, .int .i64 m, .bool true, .bool true, .int .i64 ea, .int .i64 eb, .int .i64 m, .bool false, .bool false, .bool false, .bool false, pt g12 2, .int .i64 M2, .bool false, .bool false, undef, undef, undef, undef, undef, undef, undef, .bool false, .bool false, .bool false, pt g13 2, .int .i64 0, .bool true, .int .i64 ea, .int .i64 eb, .int .i64 d, .bool true, .bool true, .int .i64 ea, .int .i64 eb, .int .i64 d, .bool true, .bool true, .bool false, .bool false, .bool false, pt g13 2, .int .i64 0, .bool true, .bool true, pt g13 0, .agg #[.int .i64 D0, .int .i64 D1], .int .i64 ea, .int .i64 eb, .int .i64 d, .agg #[.int .i64 D0, .int .i64 D1], .bool false, .bool false, .bool false]) (B := Bl w0 [(g13, .cells #[.int .i64 D0, .int .i64 D1, .int .i64 0] 31 (0, 0)), (g12, .cells #[.int .i64 M0, .int .i64 M1, .int .i64 M2] 31 (0, 0)), (g11, .cells #[.int .i64 yN, .int .i64 yD] 25 (0, 0)), (g10, .cells #[.int .i64 xN, .int .i64 xD] 25 (0, 0))]) (by kernel_rfl) [2, 7, 8, 9, 10, 11, 12, 13] rfl (by kernel_rfl) rfl (AllFitL.all ⟨fit_free rfl (ok_fieldAddr31_1 rfl rfl),
   fit_free rfl (ok_load29 (k := 1) rfl rfl rfl rfl),
   fit_free rfl (ok_eq29 rfl rfl rfl (decide_eq_false hm2)),
   fit_free rfl (ok_move rfl rfl),
   fit_free rfl (ok_move rfl rfl),
   fit_free rfl (ok_add3 rfl rfl rfl (hm)),
   fit_free rfl (ok_geq3 rfl rfl rfl (by simp <;> omega)),
   fit_free rfl (ok_move rfl rfl),
   fit_on rfl rfl rfl (ok_move rfl rfl),
   fit_on rfl rfl rfl (ok_move rfl rfl),
   fit_on rfl rfl rfl (ok_add3 rfl rfl rfl (hm)),
   fit_on rfl rfl rfl (ok_leq3 rfl rfl rfl (by simp <;> omega)),
   fit_free rfl (ok_pick_t rfl rfl rfl),
   fit_free rfl (ok_neq4 (a0 := false) (b0 := false) rfl rfl rfl (rfl)),
   fit_free rfl (ok_move rfl rfl),
   fit_on rfl rfl rfl (ok_fieldAddr31_1 rfl rfl),
   fit_on rfl rfl rfl (ok_load29 (k := 1) rfl rfl rfl rfl),
   fit_on rfl rfl rfl (ok_eq29 rfl rfl rfl (decide_eq_false hm2)),
   fit_on rfl rfl rfl (ok_move rfl rfl),
   fit_off rfl rfl rfl rfl,
   fit_off rfl rfl rfl rfl,
   fit_off rfl rfl rfl rfl,
   fit_off rfl rfl rfl rfl,
   fit_off rfl rfl rfl rfl,
   fit_off rfl rfl rfl rfl,
   fit_off rfl rfl rfl rfl,
   fit_on rfl rfl rfl (ok_pick_f rfl rfl rfl),
   fit_free rfl (ok_pick_f rfl rfl rfl),
   fit_free rfl (ok_move rfl rfl),
   fit_on rfl rfl rfl (ok_fieldAddr31_1 rfl rfl),
   fit_on rfl rfl rfl (ok_load29 (k := 0) rfl rfl rfl rfl),
   fit_on rfl rfl rfl (ok_eq29 rfl rfl rfl (by decide)),
   fit_on rfl rfl rfl (ok_move rfl rfl),
   fit_on rfl rfl rfl (ok_move rfl rfl),
   fit_on rfl rfl rfl (ok_sub3 rfl rfl rfl (hd)),
   fit_on rfl rfl rfl (ok_geq3 rfl rfl rfl (by simp <;> omega)),
   fit_on rfl rfl rfl (ok_move rfl rfl),
   fit_on rfl rfl rfl (ok_move rfl rfl),
   fit_on rfl rfl rfl (ok_move rfl rfl),
   fit_on rfl rfl rfl (ok_sub3 rfl rfl rfl (hd)),
   fit_on rfl rfl rfl (ok_leq3 rfl rfl rfl (by simp <;> omega)),
   fit_on rfl rfl rfl (ok_pick_t rfl rfl rfl),
   fit_on rfl rfl rfl (ok_neq4 (a0 := true) (b0 := true) rfl rfl rfl (rfl)),
   fit_free rfl (ok_pick_f rfl rfl rfl),
   fit_free rfl (ok_move rfl rfl),
   fit_on rfl rfl rfl (ok_fieldAddr31_1 rfl rfl),
   fit_on rfl rfl rfl (ok_load29 (k := 0) rfl rfl rfl rfl),
   fit_on rfl rfl rfl (ok_eq29 rfl rfl rfl (by decide)),
   fit_on rfl rfl rfl (ok_move rfl rfl),
   fit_on rfl rfl rfl (ok_fieldAddr31_0 rfl rfl),
   fit_on rfl rfl rfl (ok_load25 (k := 0) rfl rfl rfl rfl rfl),
   fit_on rfl rfl rfl (ok_move rfl rfl),
   fit_on rfl rfl rfl (ok_move rfl rfl),
   fit_on rfl rfl rfl (ok_sub3 rfl rfl rfl (hd)),
   fit_on rfl rfl rfl (ok_call (args := #[.int .i64 d]) rfl Tryd.func27 (by kernel_rfl) rfl rfl (viaB fun w => F.wireloomlaw02_power.calls _ _ _ w hd2)),
   fit_on rfl rfl rfl (ok_neq25 rfl rfl rfl (by simp)),
   fit_on rfl rfl rfl (ok_pick_t rfl rfl rfl),
   fit_free rfl (ok_pick_f rfl rfl rfl),
   trivial⟩) hs hB.drew (fun a w hs hB => ?_)
 replace hs := hs.sub (l := [(99, .bool false), (2, .bool ng), (7, .bool true), (8, .int .i64 ea), (9, .int .i64 eb), (10, pt g10 0), (11, pt g11 0)]) (⟨rfl, rfl, rfl, rfl, rfl, rfl, rfl, trivial⟩)
 refine then_n ?_
 replace hs := hs.sub (l := [(99, .bool false), (2, .bool ng), (7, .bool true), (8, .int .i64 ea), (9, .int .i64 eb), (10, pt g10 0), (11, pt g11 0)]) (⟨rfl, rfl, rfl, rfl, rfl, rfl, rfl, trivial⟩)
 refine c_false hs rfl ?_
 refine wp_skip ?_
 refine then_n ?_
 replace hs := hs.sub (l := [(2, .bool ng), (7, .bool true), (8, .int .i64 ea), (9, .int .i64 eb), (10, pt g10 0), (11, pt g11 0)]) (⟨rfl, rfl, rfl, rfl, rfl, rfl, trivial⟩)
 replace hs := hs.sub (l := [(2, .bool ng), (7, .bool true), (8, .int .i64 ea), (9, .int .i64 eb), (10, pt g10 0), (11, pt g11 0)]) (⟨rfl, rfl, rfl, rfl, rfl, rfl, trivial⟩)
 replace hB : Bl w0 [(g11, .cells #[.int .i64 yN, .int .i64 yD] 25 (0, 0)), (g10, .cells #[.int .i64 xN, .int .i64 xD] 25 (0, 0))] w := hB.keep [false, false, true, true]
 exact H  a w hs hB

theorem l10hl (K : Nat) (w0 : World) (g13 g12 g11 g10 : Nat) (ea eb m d xN xD yN yD M0 M1 M2 D0 D1 D2 : Int) (ng : Bool) (hm : wrap64 (ea + eb) = m) (hd : wrap64 (ea - eb) = d) (hm1 : 62 < m) (hm2 : M2 ≠ 0) (hd1 : d < -62) (hd2 : D2 ≠ 0) (H : ∀ a w, Sl 179 [(2, .bool ng), (7, .bool true), (8, .int .i64 ea), (9, .int .i64 eb), (10, pt g10 0), (11, pt g11 0)] a → Bl w0 [(g11, .cells #[.int .i64 yN, .int .i64 yD] 25 (0, 0)), (g10, .cells #[.int .i64 xN, .int .i64 xD] 25 (0, 0))] w → (restOf Tryd.f8 12).wp Tryd.prog (bodyPost Tryd.prog Tryd.f8 fun e w' => e = .returned (.bool true) ∧ Below w0.heap.size w0 w') a w) :
  ∀ a w, Sl 179 [(2, .bool ng), (7, .bool true), (8, .int .i64 ea), (9, .int .i64 eb), (10, pt g10 0), (11, pt g11 0), (12, pt g12 0), (13, pt g13 0)] a → Bl w0 [(g13, .cells #[.int .i64 D0, .int .i64 D1, .int .i64 D2] 31 (0, 0)), (g12, .cells #[.int .i64 M0, .int .i64 M1, .int .i64 M2] 31 (0, 0)), (g11, .cells #[.int .i64 yN, .int .i64 yD] 25 (0, 0)), (g10, .cells #[.int .i64 xN, .int .i64 xD] 25 (0, 0))] w → (restOf Tryd.f8 10).wp Tryd.prog (bodyPost Tryd.prog Tryd.f8 fun e w' => e = .returned (.bool true) ∧ Below w0.heap.size w0 w') a w := by
 intro a w hs hB
 conv => arg 2; whnf
 refine wp_seq ?_
 refine wp_seq ?_
 replace hs := hs.sub (l := [(2, .bool ng), (7, .bool true), (8, .int .i64 ea), (9, .int .i64 eb), (10, pt g10 0), (11, pt g11 0), (12, pt g12 0), (13, pt g13 0)]) (⟨rfl, rfl, rfl, rfl, rfl, rfl, rfl, rfl, trivial⟩)
 refine conf_region (n := 179) (sl := [(2, .bool ng), (7, .bool true), (8, .int .i64 ea), (9, .int .i64 eb), (10, pt g10 0), (11, pt g11 0), (12, pt g12 0), (13, pt g13 0)]) (vs := [pt g12 2, .int .i64 M2, .bool false, .int .i64 ea, .int .i64 eb, .int .i64 m, .bool true, .bool true, .int .i64 ea, .int .i64 eb, .int .i64 m, .bool false, .bool false, .bool false, .bool false, pt g12 2, .int .i64 M2, .bool false, .bool false, undef, undef, undef, undef, undef, undef, undef, .bool false, .bool false, .bool false, pt g13 2, .int .i64 D2, .bool false, .int .i64 ea, .int .i64 eb, .int .i64 d, .bool false, .bool false, undef, undef, undef, undef, .bool false, .bool false, .bool false, .bool false, pt g13 2, .int .i64 D2, .bool false, .bool false, undef, undef, undef, undef, undef, undef, undef, .bool false, .bool false]) (B := Bl w0 [(g13, .cells #[.int .i64 D0, .int .i64 D1, .int .i64 D2] 31 (0, 0)), (g12, .cells #[.int .i64 M0, .int .i64 M1, .int .i64 M2] 31 (0, 0)), (g11, .cells #[.int .i64 yN, .int .i64 yD] 25 (0, 0)), (g10, .cells #[.int .i64 xN, .int .i64 xD] 25 (0, 0))]) (by kernel_rfl) [2, 7, 8, 9, 10, 11, 12, 13] rfl (by kernel_rfl) rfl (AllFitL.all ⟨fit_free rfl (ok_fieldAddr31_1 rfl rfl),
   fit_free rfl (ok_load29 (k := 1) rfl rfl rfl rfl),
   fit_free rfl (ok_eq29 rfl rfl rfl (decide_eq_false hm2)),
   fit_free rfl (ok_move rfl rfl),
   fit_free rfl (ok_move rfl rfl),
   fit_free rfl (ok_add3 rfl rfl rfl (hm)),
   fit_free rfl (ok_geq3 rfl rfl rfl (by simp <;> omega)),
   fit_free rfl (ok_move rfl rfl),
   fit_on rfl rfl rfl (ok_move rfl rfl),
   fit_on rfl rfl rfl (ok_move rfl rfl),
   fit_on rfl rfl rfl (ok_add3 rfl rfl rfl (hm)),
   fit_on rfl rfl rfl (ok_leq3 rfl rfl rfl (by simp <;> omega)),
   fit_free rfl (ok_pick_t rfl rfl rfl),
   fit_free rfl (ok_neq4 (a0 := false) (b0 := false) rfl rfl rfl (rfl)),
   fit_free rfl (ok_move rfl rfl),
   fit_on rfl rfl rfl (ok_fieldAddr31_1 rfl rfl),
   fit_on rfl rfl rfl (ok_load29 (k := 1) rfl rfl rfl rfl),
   fit_on rfl rfl rfl (ok_eq29 rfl rfl rfl (decide_eq_false hm2)),
   fit_on rfl rfl rfl (ok_move rfl rfl),
   fit_off rfl rfl rfl rfl,
   fit_off rfl rfl rfl rfl,
   fit_off rfl rfl rfl rfl,
   fit_off rfl rfl rfl rfl,
   fit_off rfl rfl rfl rfl,
   fit_off rfl rfl rfl rfl,
   fit_off rfl rfl rfl rfl,
   fit_on rfl rfl rfl (ok_pick_f rfl rfl rfl),
   fit_free rfl (ok_pick_f rfl rfl rfl),
   fit_free rfl (ok_move rfl rfl),
   fit_on rfl rfl rfl (ok_fieldAddr31_1 rfl rfl),
   fit_on rfl rfl rfl (ok_load29 (k := 0) rfl rfl rfl rfl),
   fit_on rfl rfl rfl (ok_eq29 rfl rfl rfl (decide_eq_false hd2)),
   fit_on rfl rfl rfl (ok_move rfl rfl),
   fit_on rfl rfl rfl (ok_move rfl rfl),
   fit_on rfl rfl rfl (ok_sub3 rfl rfl rfl (hd)),
   fit_on rfl rfl rfl (ok_geq3 rfl rfl rfl (by simp <;> omega)),
   fit_on rfl rfl rfl (ok_move rfl rfl),
   fit_off rfl rfl rfl rfl,
   fit_off rfl rfl rfl rfl,
   fit_off rfl rfl rfl rfl,
   fit_off rfl rfl rfl rfl,
   fit_on rfl rfl rfl (ok_pick_f rfl rfl rfl),
   fit_on rfl rfl rfl (ok_neq4 (a0 := false) (b0 := false) rfl rfl rfl (rfl)),
   fit_free rfl (ok_pick_f rfl rfl rfl),
   fit_free rfl (ok_move rfl rfl),
   fit_on rfl rfl rfl (ok_fieldAddr31_1 rfl rfl),
   fit_on rfl rfl rfl (ok_load29 (k := 0) rfl rfl rfl rfl),
   fit_on rfl rfl rfl (ok_eq29 rfl rfl rfl (decide_eq_false hd2)),
   fit_on rfl rfl rfl (ok_move rfl rfl),
   fit_off rfl rfl rfl rfl,
   fit_off rfl rfl rfl rfl,
   fit_off rfl rfl rfl rfl,
   fit_off rfl rfl rfl rfl,
   fit_off rfl rfl rfl rfl,
   fit_off rfl rfl rfl rfl,
   fit_off rfl rfl rfl rfl,
   fit_on rfl rfl rfl (ok_pick_f rfl rfl rfl),
   fit_free rfl (ok_pick_f rfl rfl rfl),
   trivial⟩) hs hB.drew (fun a w hs hB => ?_)
 replace hs := hs.sub (l := [(99, .bool false), (2, .bool ng), (7, .bool true), (8, .int .i64 ea), (9, .int .i64 eb), (10, pt g10 0), (11, pt g11 0)]) (⟨rfl, rfl, rfl, rfl, rfl, rfl, rfl, trivial⟩)
 refine then_n ?_
 replace hs := hs.sub (l := [(99, .bool false), (2, .bool ng), (7, .bool true), (8, .int .i64 ea), (9, .int .i64 eb), (10, pt g10 0), (11, pt g11 0)]) (⟨rfl, rfl, rfl, rfl, rfl, rfl, rfl, trivial⟩)
 refine c_false hs rfl ?_
 refine wp_skip ?_
 refine then_n ?_
 replace hs := hs.sub (l := [(2, .bool ng), (7, .bool true), (8, .int .i64 ea), (9, .int .i64 eb), (10, pt g10 0), (11, pt g11 0)]) (⟨rfl, rfl, rfl, rfl, rfl, rfl, trivial⟩)
 replace hs := hs.sub (l := [(2, .bool ng), (7, .bool true), (8, .int .i64 ea), (9, .int .i64 eb), (10, pt g10 0), (11, pt g11 0)]) (⟨rfl, rfl, rfl, rfl, rfl, rfl, trivial⟩)
 replace hB : Bl w0 [(g11, .cells #[.int .i64 yN, .int .i64 yD] 25 (0, 0)), (g10, .cells #[.int .i64 xN, .int .i64 xD] 25 (0, 0))] w := hB.keep [false, false, true, true]
 exact H  a w hs hB

theorem l10hh (K : Nat) (w0 : World) (g13 g12 g11 g10 : Nat) (ea eb m d xN xD yN yD M0 M1 M2 D0 D1 D2 : Int) (ng : Bool) (hm : wrap64 (ea + eb) = m) (hd : wrap64 (ea - eb) = d) (hm1 : 62 < m) (hm2 : M2 ≠ 0) (hd1 : 62 < d) (hd2 : D2 ≠ 0) (H : ∀ a w, Sl 179 [(2, .bool ng), (7, .bool true), (8, .int .i64 ea), (9, .int .i64 eb), (10, pt g10 0), (11, pt g11 0)] a → Bl w0 [(g11, .cells #[.int .i64 yN, .int .i64 yD] 25 (0, 0)), (g10, .cells #[.int .i64 xN, .int .i64 xD] 25 (0, 0))] w → (restOf Tryd.f8 12).wp Tryd.prog (bodyPost Tryd.prog Tryd.f8 fun e w' => e = .returned (.bool true) ∧ Below w0.heap.size w0 w') a w) :
  ∀ a w, Sl 179 [(2, .bool ng), (7, .bool true), (8, .int .i64 ea), (9, .int .i64 eb), (10, pt g10 0), (11, pt g11 0), (12, pt g12 0), (13, pt g13 0)] a → Bl w0 [(g13, .cells #[.int .i64 D0, .int .i64 D1, .int .i64 D2] 31 (0, 0)), (g12, .cells #[.int .i64 M0, .int .i64 M1, .int .i64 M2] 31 (0, 0)), (g11, .cells #[.int .i64 yN, .int .i64 yD] 25 (0, 0)), (g10, .cells #[.int .i64 xN, .int .i64 xD] 25 (0, 0))] w → (restOf Tryd.f8 10).wp Tryd.prog (bodyPost Tryd.prog Tryd.f8 fun e w' => e = .returned (.bool true) ∧ Below w0.heap.size w0 w') a w := by
 intro a w hs hB
 conv => arg 2; whnf
 refine wp_seq ?_
 refine wp_seq ?_
 replace hs := hs.sub (l := [(2, .bool ng), (7, .bool true), (8, .int .i64 ea), (9, .int .i64 eb), (10, pt g10 0), (11, pt g11 0), (12, pt g12 0), (13, pt g13 0)]) (⟨rfl, rfl, rfl, rfl, rfl, rfl, rfl, rfl, trivial⟩)
 refine conf_region (n := 179) (sl := [(2, .bool ng), (7, .bool true), (8, .int .i64 ea), (9, .int .i64 eb), (10, pt g10 0), (11, pt g11 0), (12, pt g12 0), (13, pt g13 0)]) (vs := [pt g12 2, .int .i64 M2, .bool false, .int .i64 ea, .int .i64 eb, .int .i64 m, .bool true, .bool true, .int .i64 ea, .int .i64 eb, .int .i64 m, .bool false, .bool false, .bool false, .bool false, pt g12 2, .int .i64 M2, .bool false, .bool false, undef, undef, undef, undef, undef, undef, undef, .bool false, .bool false, .bool false, pt g13 2, .int .i64 D2, .bool false, .int .i64 ea, .int .i64 eb, .int .i64 d, .bool true, .bool true, .int .i64 ea, .int .i64 eb, .int .i64 d, .bool false, .bool false, .bool false, .bool false, .bool false, pt g13 2, .int .i64 D2, .bool false, .bool false, undef, undef, undef, undef, undef, undef, undef, .bool false, .bool false]) (B := Bl w0 [(g13, .cells #[.int .i64 D0, .int .i64 D1, .int .i64 D2] 31 (0, 0)), (g12, .cells #[.int .i64 M0, .int .i64 M1, .int .i64 M2] 31 (0, 0)), (g11, .cells #[.int .i64 yN, .int .i64 yD] 25 (0, 0)), (g10, .cells #[.int .i64 xN, .int .i64 xD] 25 (0, 0))]) (by kernel_rfl) [2, 7, 8, 9, 10, 11, 12, 13] rfl (by kernel_rfl) rfl (AllFitL.all ⟨fit_free rfl (ok_fieldAddr31_1 rfl rfl),
   fit_free rfl (ok_load29 (k := 1) rfl rfl rfl rfl),
   fit_free rfl (ok_eq29 rfl rfl rfl (decide_eq_false hm2)),
   fit_free rfl (ok_move rfl rfl),
   fit_free rfl (ok_move rfl rfl),
   fit_free rfl (ok_add3 rfl rfl rfl (hm)),
   fit_free rfl (ok_geq3 rfl rfl rfl (by simp <;> omega)),
   fit_free rfl (ok_move rfl rfl),
   fit_on rfl rfl rfl (ok_move rfl rfl),
   fit_on rfl rfl rfl (ok_move rfl rfl),
   fit_on rfl rfl rfl (ok_add3 rfl rfl rfl (hm)),
   fit_on rfl rfl rfl (ok_leq3 rfl rfl rfl (by simp <;> omega)),
   fit_free rfl (ok_pick_t rfl rfl rfl),
   fit_free rfl (ok_neq4 (a0 := false) (b0 := false) rfl rfl rfl (rfl)),
   fit_free rfl (ok_move rfl rfl),
   fit_on rfl rfl rfl (ok_fieldAddr31_1 rfl rfl),
   fit_on rfl rfl rfl (ok_load29 (k := 1) rfl rfl rfl rfl),
   fit_on rfl rfl rfl (ok_eq29 rfl rfl rfl (decide_eq_false hm2)),
   fit_on rfl rfl rfl (ok_move rfl rfl),
   fit_off rfl rfl rfl rfl,
   fit_off rfl rfl rfl rfl,
   fit_off rfl rfl rfl rfl,
   fit_off rfl rfl rfl rfl,
   fit_off rfl rfl rfl rfl,
   fit_off rfl rfl rfl rfl,
   fit_off rfl rfl rfl rfl,
   fit_on rfl rfl rfl (ok_pick_f rfl rfl rfl),
   fit_free rfl (ok_pick_f rfl rfl rfl),
   fit_free rfl (ok_move rfl rfl),
   fit_on rfl rfl rfl (ok_fieldAddr31_1 rfl rfl),
   fit_on rfl rfl rfl (ok_load29 (k := 0) rfl rfl rfl rfl),
   fit_on rfl rfl rfl (ok_eq29 rfl rfl rfl (decide_eq_false hd2)),
   fit_on rfl rfl rfl (ok_move rfl rfl),
   fit_on rfl rfl rfl (ok_move rfl rfl),
   fit_on rfl rfl rfl (ok_sub3 rfl rfl rfl (hd)),
   fit_on rfl rfl rfl (ok_geq3 rfl rfl rfl (by simp <;> omega)),
   fit_on rfl rfl rfl (ok_move rfl rfl),
   fit_on rfl rfl rfl (ok_move rfl rfl),
   fit_on rfl rfl rfl (ok_move rfl rfl),
   fit_on rfl rfl rfl (ok_sub3 rfl rfl rfl (hd)),
   fit_on rfl rfl rfl (ok_leq3 rfl rfl rfl (by simp <;> omega)),
   fit_on rfl rfl rfl (ok_pick_t rfl rfl rfl),
   fit_on rfl rfl rfl (ok_neq4 (a0 := false) (b0 := false) rfl rfl rfl (rfl)),
   fit_free rfl (ok_pick_f rfl rfl rfl),
   fit_free rfl (ok_move rfl rfl),
   fit_on rfl rfl rfl (ok_fieldAddr31_1 rfl rfl),
   fit_on rfl rfl rfl (ok_load29 (k := 0) rfl rfl rfl rfl),
   fit_on rfl rfl rfl (ok_eq29 rfl rfl rfl (decide_eq_false hd2)),
   fit_on rfl rfl rfl (ok_move rfl rfl),
   fit_off rfl rfl rfl rfl,
   fit_off rfl rfl rfl rfl,
   fit_off rfl rfl rfl rfl,
   fit_off rfl rfl rfl rfl,
   fit_off rfl rfl rfl rfl,
   fit_off rfl rfl rfl rfl,
   fit_off rfl rfl rfl rfl,
   fit_on rfl rfl rfl (ok_pick_f rfl rfl rfl),
   fit_free rfl (ok_pick_f rfl rfl rfl),
   trivial⟩) hs hB.drew (fun a w hs hB => ?_)
 replace hs := hs.sub (l := [(99, .bool false), (2, .bool ng), (7, .bool true), (8, .int .i64 ea), (9, .int .i64 eb), (10, pt g10 0), (11, pt g11 0)]) (⟨rfl, rfl, rfl, rfl, rfl, rfl, rfl, trivial⟩)
 refine then_n ?_
 replace hs := hs.sub (l := [(99, .bool false), (2, .bool ng), (7, .bool true), (8, .int .i64 ea), (9, .int .i64 eb), (10, pt g10 0), (11, pt g11 0)]) (⟨rfl, rfl, rfl, rfl, rfl, rfl, rfl, trivial⟩)
 refine c_false hs rfl ?_
 refine wp_skip ?_
 refine then_n ?_
 replace hs := hs.sub (l := [(2, .bool ng), (7, .bool true), (8, .int .i64 ea), (9, .int .i64 eb), (10, pt g10 0), (11, pt g11 0)]) (⟨rfl, rfl, rfl, rfl, rfl, rfl, trivial⟩)
 replace hs := hs.sub (l := [(2, .bool ng), (7, .bool true), (8, .int .i64 ea), (9, .int .i64 eb), (10, pt g10 0), (11, pt g11 0)]) (⟨rfl, rfl, rfl, rfl, rfl, rfl, trivial⟩)
 replace hB : Bl w0 [(g11, .cells #[.int .i64 yN, .int .i64 yD] 25 (0, 0)), (g10, .cells #[.int .i64 xN, .int .i64 xD] 25 (0, 0))] w := hB.keep [false, false, true, true]
 exact H  a w hs hB

theorem l12fe (K : Nat) (w0 : World) (g11 g10 : Nat) (ea eb hi S0 S1 xN xD yN yD : Int) (ng : Bool) (hS : F.wireloomlaw02_add.f K xN xD yN yD = some (S0, S1, 2)) (h1 : (if ea < eb then eb else ea) = hi) (h2 : (if eb < ea then eb else ea) = hi) (h3 : ¬ hi ≤ 61) (H : ∀ a w, Sl 179 [(2, .bool ng), (7, .bool true)] a → Bl w0 [] w → (restOf Tryd.f8 20).wp Tryd.prog (bodyPost Tryd.prog Tryd.f8 fun e w' => e = .returned (.bool true) ∧ Below w0.heap.size w0 w') a w) :
  ∀ a w, Sl 179 [(2, .bool ng), (7, .bool true), (8, .int .i64 ea), (9, .int .i64 eb), (10, pt g10 0), (11, pt g11 0)] a → Bl w0 [(g11, .cells #[.int .i64 yN, .int .i64 yD] 25 (0, 0)), (g10, .cells #[.int .i64 xN, .int .i64 xD] 25 (0, 0))] w → (restOf Tryd.f8 12).wp Tryd.prog (bodyPost Tryd.prog Tryd.f8 fun e w' => e = .returned (.bool true) ∧ Below w0.heap.size w0 w') a w := by
 intro a w hs hB
 conv => arg 2; whnf
 refine c_list ?_
 refine l_fit (v := .int .i64 ea) (fit_free rfl (ok_move rfl rfl)) rfl rfl hs hB (fun a w hs hB => ?_)
 refine l_fit (v := .int .i64 eb) (fit_free rfl (ok_move rfl rfl)) rfl rfl hs hB (fun a w hs hB => ?_)
 refine l_fit (v := .int .i64 hi) (fit_free rfl (ok_max3 rfl rfl rfl (h1))) rfl rfl hs hB (fun a w hs hB => ?_)
 refine l_fit (v := .int .i64 hi) (fit_free rfl (ok_assign rfl rfl)) rfl rfl hs hB (fun a w hs hB => ?_)
 refine l_nil ?_
 replace hs := hs.sub (l := [(14, .int .i64 hi), (2, .bool ng), (7, .bool true), (8, .int .i64 ea), (9, .int .i64 eb), (10, pt g10 0), (11, pt g11 0)]) (⟨rfl, rfl, rfl, rfl, rfl, rfl, rfl, trivial⟩)
 refine c_list ?_
 refine l_fit (v := .int .i64 ea) (fit_free rfl (ok_move rfl rfl)) rfl rfl hs hB (fun a w hs hB => ?_)
 refine l_fit (v := .int .i64 eb) (fit_free rfl (ok_move rfl rfl)) rfl rfl hs hB (fun a w hs hB => ?_)
 refine l_fit (v := .int .i64 hi) (fit_free rfl (ok_min3 rfl rfl rfl (h2))) rfl rfl hs hB (fun a w hs hB => ?_)
 refine l_fit (v := .int .i64 hi) (fit_free rfl (ok_assign rfl rfl)) rfl rfl hs hB (fun a w hs hB => ?_)
 refine l_nil ?_
 replace hs := hs.sub (l := [(15, .int .i64 hi), (14, .int .i64 hi), (2, .bool ng), (7, .bool true), (10, pt g10 0), (11, pt g11 0)]) (⟨rfl, rfl, rfl, rfl, rfl, rfl, trivial⟩)
 refine c_list ?_
 refine l_fit (v := .agg #[.int .i64 xN, .int .i64 xD]) (fit_free rfl (ok_load25 (k := 1) rfl rfl rfl rfl rfl)) rfl rfl hs hB (fun a w hs hB => ?_)
 refine l_fit (v := .agg #[.int .i64 yN, .int .i64 yD]) (fit_free rfl (ok_load25 (k := 0) rfl rfl rfl rfl rfl)) rfl rfl hs hB (fun a w hs hB => ?_)
 refine l_fit (v := .agg #[.int .i64 S0, .int .i64 S1, .int .i64 2]) (fit_free rfl (ok_call (args := #[.agg #[.int .i64 xN, .int .i64 xD], .agg #[.int .i64 yN, .int .i64 yD]]) rfl Tryd.func14 (by kernel_rfl) rfl rfl (viaB fun w => F.wireloomlaw02_add.calls K _ _ _ _ _ _ _ w hS))) rfl rfl hs hB (fun a w hs hB => ?_)
 refine l_alloc31 rfl rfl rfl rfl hs hB (fun g16 a w hs hB => ?_)
 refine l_store31 (k := 0) (cs' := #[.int .i64 S0, .int .i64 S1, .int .i64 2]) rfl rfl rfl rfl rfl rfl rfl rfl hs hB (fun w hB => ?_)
 replace hB : Bl w0 [(g16, .cells #[.int .i64 S0, .int .i64 S1, .int .i64 2] 31 (0, 0)), (g11, .cells #[.int .i64 yN, .int .i64 yD] 25 (0, 0)), (g10, .cells #[.int .i64 xN, .int .i64 xD] 25 (0, 0))] w := hB
 refine l_nil ?_
 replace hs := hs.sub (l := [(16, pt g16 0), (15, .int .i64 hi), (14, .int .i64 hi), (2, .bool ng), (7, .bool true)]) (⟨rfl, rfl, rfl, rfl, rfl, trivial⟩)
 refine c_list ?_
 refine l_fit (v := .int .i64 hi) (fit_free rfl (ok_move rfl rfl)) rfl rfl hs hB (fun a w hs hB => ?_)
 refine l_fit (v := .bool false) (fit_free rfl (ok_leq3 rfl rfl rfl (by simp <;> omega))) rfl rfl hs hB (fun a w hs hB => ?_)
 refine l_fit (v := .bool false) (fit_free rfl (ok_move rfl rfl)) rfl rfl hs hB (fun a w hs hB => ?_)
 refine l_fit (v := undef) (fit_off rfl rfl rfl rfl) rfl rfl hs hB (fun a w hs hB => ?_)
 refine l_fit (v := undef) (fit_off rfl rfl rfl rfl) rfl rfl hs hB (fun a w hs hB => ?_)
 refine l_fit (v := undef) (fit_off rfl rfl rfl rfl) rfl rfl hs hB (fun a w hs hB => ?_)
 refine l_fit (v := undef) (fit_off rfl rfl rfl rfl) rfl rfl hs hB (fun a w hs hB => ?_)
 refine l_fit (v := undef) (fit_off rfl rfl rfl rfl) rfl rfl hs hB (fun a w hs hB => ?_)
 refine l_fit (v := .bool false) (fit_free rfl (ok_pick_f rfl rfl rfl)) rfl rfl hs hB (fun a w hs hB => ?_)
 refine l_fit (v := .bool false) (fit_free rfl (ok_assign rfl rfl)) rfl rfl hs hB (fun a w hs hB => ?_)
 refine l_nil ?_
 replace hs := hs.sub (l := [(17, .bool false), (16, pt g16 0), (15, .int .i64 hi), (14, .int .i64 hi), (2, .bool ng), (7, .bool true)]) (⟨rfl, rfl, rfl, rfl, rfl, rfl, trivial⟩)
 refine wp_seq ?_
 refine c_list ?_
 refine l_fit (v := .int .i64 hi) (fit_free rfl (ok_move rfl rfl)) rfl rfl hs hB (fun a w hs hB => ?_)
 refine l_fit (v := .int .i64 hi) (fit_free rfl (ok_move rfl rfl)) rfl rfl hs hB (fun a w hs hB => ?_)
 refine l_fit (v := .bool true) (fit_free rfl (ok_eq3 rfl rfl rfl (by simp))) rfl rfl hs hB (fun a w hs hB => ?_)
 refine l_nil ?_
 replace hs := hs.sub (l := [(120, .bool true), (17, .bool false), (16, pt g16 0), (14, .int .i64 hi), (2, .bool ng), (7, .bool true)]) (⟨rfl, rfl, rfl, rfl, rfl, rfl, trivial⟩)
 refine c_true hs rfl ?_
 refine wp_region_list ?_
 refine l_fit (v := .int .i64 hi) (fit_free rfl (ok_move rfl rfl)) rfl rfl hs hB (fun a w hs hB => ?_)
 refine l_fit (v := .bool false) (fit_free rfl (ok_leq3 rfl rfl rfl (by simp <;> omega))) rfl rfl hs hB (fun a w hs hB => ?_)
 refine l_fit (v := .bool false) (fit_free rfl (ok_assign rfl rfl)) rfl rfl hs hB (fun a w hs hB => ?_)
 refine l_end ?_
 refine then_n ?_
 replace hs := hs.sub (l := [(17, .bool false), (16, pt g16 0), (2, .bool ng), (7, .bool true)]) (⟨rfl, rfl, rfl, rfl, trivial⟩)
 refine wp_seq ?_
 refine c_list ?_
 refine l_fit (v := pt g16 2) (fit_free rfl (ok_fieldAddr31_1 rfl rfl)) rfl rfl hs hB (fun a w hs hB => ?_)
 refine l_fit (v := .int .i64 2) (fit_free rfl (ok_load29 (k := 0) rfl rfl rfl rfl)) rfl rfl hs hB (fun a w hs hB => ?_)
 refine l_fit (v := .bool false) (fit_free rfl (ok_eq29 rfl rfl rfl (by decide))) rfl rfl hs hB (fun a w hs hB => ?_)
 refine l_fit (v := .bool false) (fit_free rfl (ok_move rfl rfl)) rfl rfl hs hB (fun a w hs hB => ?_)
 refine l_fit (v := .bool false) (fit_free rfl (ok_neq4 (a0 := false) (b0 := false) rfl rfl rfl (rfl))) rfl rfl hs hB (fun a w hs hB => ?_)
 refine l_fit (v := .bool false) (fit_free rfl (ok_move rfl rfl)) rfl rfl hs hB (fun a w hs hB => ?_)
 refine l_fit (v := pt g16 2) (fit_on rfl rfl rfl (ok_fieldAddr31_1 rfl rfl)) rfl rfl hs hB (fun a w hs hB => ?_)
 refine l_fit (v := .int .i64 2) (fit_on rfl rfl rfl (ok_load29 (k := 0) rfl rfl rfl rfl)) rfl rfl hs hB (fun a w hs hB => ?_)
 refine l_fit (v := .bool true) (fit_on rfl rfl rfl (ok_neq29 rfl rfl rfl (by decide))) rfl rfl hs hB (fun a w hs hB => ?_)
 refine l_fit (v := .bool true) (fit_on rfl rfl rfl (ok_move rfl rfl)) rfl rfl hs hB (fun a w hs hB => ?_)
 refine l_fit (v := pt g16 2) (fit_on rfl rfl rfl (ok_fieldAddr31_1 rfl rfl)) rfl rfl hs hB (fun a w hs hB => ?_)
 refine l_fit (v := .int .i64 2) (fit_on rfl rfl rfl (ok_load29 (k := 0) rfl rfl rfl rfl)) rfl rfl hs hB (fun a w hs hB => ?_)
 refine l_fit (v := .bool false) (fit_on rfl rfl rfl (ok_neq29 rfl rfl rfl (by decide))) rfl rfl hs hB (fun a w hs hB => ?_)
 refine l_fit (v := .bool false) (fit_on rfl rfl rfl (ok_pick_t rfl rfl rfl)) rfl rfl hs hB (fun a w hs hB => ?_)
 refine l_fit (v := .bool false) (fit_free rfl (ok_pick_f rfl rfl rfl)) rfl rfl hs hB (fun a w hs hB => ?_)
 refine l_nil ?_
 replace hs := hs.sub (l := [(137, .bool false), (2, .bool ng), (7, .bool true)]) (⟨rfl, rfl, rfl, trivial⟩)
 refine c_false hs rfl ?_
 refine wp_skip ?_
 refine then_n ?_
 replace hs := hs.sub (l := [(2, .bool ng), (7, .bool true)]) (⟨rfl, rfl, trivial⟩)
 replace hs := hs.sub (l := [(2, .bool ng), (7, .bool true)]) (⟨rfl, rfl, trivial⟩)
 replace hB : Bl w0 [] w := hB.keep [false, false, false]
 exact H  a w hs hB

theorem l12fn (K : Nat) (w0 : World) (g11 g10 : Nat) (ea eb hi S0 S1 xN xD yN yD lo : Int) (ng : Bool) (hS : F.wireloomlaw02_add.f K xN xD yN yD = some (S0, S1, 2)) (h1 : (if ea < eb then eb else ea) = hi) (h2 : (if eb < ea then eb else ea) = lo) (h3 : ¬ hi ≤ 61) (h4 : hi ≠ lo) (H : ∀ a w, Sl 179 [(2, .bool ng), (7, .bool true)] a → Bl w0 [] w → (restOf Tryd.f8 20).wp Tryd.prog (bodyPost Tryd.prog Tryd.f8 fun e w' => e = .returned (.bool true) ∧ Below w0.heap.size w0 w') a w) :
  ∀ a w, Sl 179 [(2, .bool ng), (7, .bool true), (8, .int .i64 ea), (9, .int .i64 eb), (10, pt g10 0), (11, pt g11 0)] a → Bl w0 [(g11, .cells #[.int .i64 yN, .int .i64 yD] 25 (0, 0)), (g10, .cells #[.int .i64 xN, .int .i64 xD] 25 (0, 0))] w → (restOf Tryd.f8 12).wp Tryd.prog (bodyPost Tryd.prog Tryd.f8 fun e w' => e = .returned (.bool true) ∧ Below w0.heap.size w0 w') a w := by
 intro a w hs hB
 conv => arg 2; whnf
 refine c_list ?_
 refine l_fit (v := .int .i64 ea) (fit_free rfl (ok_move rfl rfl)) rfl rfl hs hB (fun a w hs hB => ?_)
 refine l_fit (v := .int .i64 eb) (fit_free rfl (ok_move rfl rfl)) rfl rfl hs hB (fun a w hs hB => ?_)
 refine l_fit (v := .int .i64 hi) (fit_free rfl (ok_max3 rfl rfl rfl (h1))) rfl rfl hs hB (fun a w hs hB => ?_)
 refine l_fit (v := .int .i64 hi) (fit_free rfl (ok_assign rfl rfl)) rfl rfl hs hB (fun a w hs hB => ?_)
 refine l_nil ?_
 replace hs := hs.sub (l := [(14, .int .i64 hi), (2, .bool ng), (7, .bool true), (8, .int .i64 ea), (9, .int .i64 eb), (10, pt g10 0), (11, pt g11 0)]) (⟨rfl, rfl, rfl, rfl, rfl, rfl, rfl, trivial⟩)
 refine c_list ?_
 refine l_fit (v := .int .i64 ea) (fit_free rfl (ok_move rfl rfl)) rfl rfl hs hB (fun a w hs hB => ?_)
 refine l_fit (v := .int .i64 eb) (fit_free rfl (ok_move rfl rfl)) rfl rfl hs hB (fun a w hs hB => ?_)
 refine l_fit (v := .int .i64 lo) (fit_free rfl (ok_min3 rfl rfl rfl (h2))) rfl rfl hs hB (fun a w hs hB => ?_)
 refine l_fit (v := .int .i64 lo) (fit_free rfl (ok_assign rfl rfl)) rfl rfl hs hB (fun a w hs hB => ?_)
 refine l_nil ?_
 replace hs := hs.sub (l := [(15, .int .i64 lo), (14, .int .i64 hi), (2, .bool ng), (7, .bool true), (10, pt g10 0), (11, pt g11 0)]) (⟨rfl, rfl, rfl, rfl, rfl, rfl, trivial⟩)
 refine c_list ?_
 refine l_fit (v := .agg #[.int .i64 xN, .int .i64 xD]) (fit_free rfl (ok_load25 (k := 1) rfl rfl rfl rfl rfl)) rfl rfl hs hB (fun a w hs hB => ?_)
 refine l_fit (v := .agg #[.int .i64 yN, .int .i64 yD]) (fit_free rfl (ok_load25 (k := 0) rfl rfl rfl rfl rfl)) rfl rfl hs hB (fun a w hs hB => ?_)
 refine l_fit (v := .agg #[.int .i64 S0, .int .i64 S1, .int .i64 2]) (fit_free rfl (ok_call (args := #[.agg #[.int .i64 xN, .int .i64 xD], .agg #[.int .i64 yN, .int .i64 yD]]) rfl Tryd.func14 (by kernel_rfl) rfl rfl (viaB fun w => F.wireloomlaw02_add.calls K _ _ _ _ _ _ _ w hS))) rfl rfl hs hB (fun a w hs hB => ?_)
 refine l_alloc31 rfl rfl rfl rfl hs hB (fun g16 a w hs hB => ?_)
 refine l_store31 (k := 0) (cs' := #[.int .i64 S0, .int .i64 S1, .int .i64 2]) rfl rfl rfl rfl rfl rfl rfl rfl hs hB (fun w hB => ?_)
 replace hB : Bl w0 [(g16, .cells #[.int .i64 S0, .int .i64 S1, .int .i64 2] 31 (0, 0)), (g11, .cells #[.int .i64 yN, .int .i64 yD] 25 (0, 0)), (g10, .cells #[.int .i64 xN, .int .i64 xD] 25 (0, 0))] w := hB
 refine l_nil ?_
 replace hs := hs.sub (l := [(16, pt g16 0), (15, .int .i64 lo), (14, .int .i64 hi), (2, .bool ng), (7, .bool true)]) (⟨rfl, rfl, rfl, rfl, rfl, trivial⟩)
 refine c_list ?_
 refine l_fit (v := .int .i64 hi) (fit_free rfl (ok_move rfl rfl)) rfl rfl hs hB (fun a w hs hB => ?_)
 refine l_fit (v := .bool false) (fit_free rfl (ok_leq3 rfl rfl rfl (by simp <;> omega))) rfl rfl hs hB (fun a w hs hB => ?_)
 refine l_fit (v := .bool false) (fit_free rfl (ok_move rfl rfl)) rfl rfl hs hB (fun a w hs hB => ?_)
 refine l_fit (v := undef) (fit_off rfl rfl rfl rfl) rfl rfl hs hB (fun a w hs hB => ?_)
 refine l_fit (v := undef) (fit_off rfl rfl rfl rfl) rfl rfl hs hB (fun a w hs hB => ?_)
 refine l_fit (v := undef) (fit_off rfl rfl rfl rfl) rfl rfl hs hB (fun a w hs hB => ?_)
 refine l_fit (v := undef) (fit_off rfl rfl rfl rfl) rfl rfl hs hB (fun a w hs hB => ?_)
 refine l_fit (v := undef) (fit_off rfl rfl rfl rfl) rfl rfl hs hB (fun a w hs hB => ?_)
 refine l_fit (v := .bool false) (fit_free rfl (ok_pick_f rfl rfl rfl)) rfl rfl hs hB (fun a w hs hB => ?_)
 refine l_fit (v := .bool false) (fit_free rfl (ok_assign rfl rfl)) rfl rfl hs hB (fun a w hs hB => ?_)
 refine l_nil ?_
 replace hs := hs.sub (l := [(17, .bool false), (16, pt g16 0), (15, .int .i64 lo), (14, .int .i64 hi), (2, .bool ng), (7, .bool true)]) (⟨rfl, rfl, rfl, rfl, rfl, rfl, trivial⟩)
 refine wp_seq ?_
 refine c_list ?_
 refine l_fit (v := .int .i64 hi) (fit_free rfl (ok_move rfl rfl)) rfl rfl hs hB (fun a w hs hB => ?_)
 refine l_fit (v := .int .i64 lo) (fit_free rfl (ok_move rfl rfl)) rfl rfl hs hB (fun a w hs hB => ?_)
 refine l_fit (v := .bool false) (fit_free rfl (ok_eq3 rfl rfl rfl (decide_eq_false h4))) rfl rfl hs hB (fun a w hs hB => ?_)
 refine l_nil ?_
 replace hs := hs.sub (l := [(120, .bool false), (17, .bool false), (16, pt g16 0), (14, .int .i64 hi), (2, .bool ng), (7, .bool true)]) (⟨rfl, rfl, rfl, rfl, rfl, rfl, trivial⟩)
 refine c_false hs rfl ?_
 refine wp_skip ?_
 refine then_n ?_
 replace hs := hs.sub (l := [(17, .bool false), (16, pt g16 0), (2, .bool ng), (7, .bool true)]) (⟨rfl, rfl, rfl, rfl, trivial⟩)
 refine wp_seq ?_
 refine c_list ?_
 refine l_fit (v := pt g16 2) (fit_free rfl (ok_fieldAddr31_1 rfl rfl)) rfl rfl hs hB (fun a w hs hB => ?_)
 refine l_fit (v := .int .i64 2) (fit_free rfl (ok_load29 (k := 0) rfl rfl rfl rfl)) rfl rfl hs hB (fun a w hs hB => ?_)
 refine l_fit (v := .bool false) (fit_free rfl (ok_eq29 rfl rfl rfl (by decide))) rfl rfl hs hB (fun a w hs hB => ?_)
 refine l_fit (v := .bool false) (fit_free rfl (ok_move rfl rfl)) rfl rfl hs hB (fun a w hs hB => ?_)
 refine l_fit (v := .bool false) (fit_free rfl (ok_neq4 (a0 := false) (b0 := false) rfl rfl rfl (rfl))) rfl rfl hs hB (fun a w hs hB => ?_)
 refine l_fit (v := .bool false) (fit_free rfl (ok_move rfl rfl)) rfl rfl hs hB (fun a w hs hB => ?_)
 refine l_fit (v := pt g16 2) (fit_on rfl rfl rfl (ok_fieldAddr31_1 rfl rfl)) rfl rfl hs hB (fun a w hs hB => ?_)
 refine l_fit (v := .int .i64 2) (fit_on rfl rfl rfl (ok_load29 (k := 0) rfl rfl rfl rfl)) rfl rfl hs hB (fun a w hs hB => ?_)
 refine l_fit (v := .bool true) (fit_on rfl rfl rfl (ok_neq29 rfl rfl rfl (by decide))) rfl rfl hs hB (fun a w hs hB => ?_)
 refine l_fit (v := .bool true) (fit_on rfl rfl rfl (ok_move rfl rfl)) rfl rfl hs hB (fun a w hs hB => ?_)
 refine l_fit (v := pt g16 2) (fit_on rfl rfl rfl (ok_fieldAddr31_1 rfl rfl)) rfl rfl hs hB (fun a w hs hB => ?_)
 refine l_fit (v := .int .i64 2) (fit_on rfl rfl rfl (ok_load29 (k := 0) rfl rfl rfl rfl)) rfl rfl hs hB (fun a w hs hB => ?_)
 refine l_fit (v := .bool false) (fit_on rfl rfl rfl (ok_neq29 rfl rfl rfl (by decide))) rfl rfl hs hB (fun a w hs hB => ?_)
 refine l_fit (v := .bool false) (fit_on rfl rfl rfl (ok_pick_t rfl rfl rfl)) rfl rfl hs hB (fun a w hs hB => ?_)
 refine l_fit (v := .bool false) (fit_free rfl (ok_pick_f rfl rfl rfl)) rfl rfl hs hB (fun a w hs hB => ?_)
 refine l_nil ?_
 replace hs := hs.sub (l := [(137, .bool false), (2, .bool ng), (7, .bool true)]) (⟨rfl, rfl, rfl, trivial⟩)
 refine c_false hs rfl ?_
 refine wp_skip ?_
 refine then_n ?_
 replace hs := hs.sub (l := [(2, .bool ng), (7, .bool true)]) (⟨rfl, rfl, trivial⟩)
 replace hs := hs.sub (l := [(2, .bool ng), (7, .bool true)]) (⟨rfl, rfl, trivial⟩)
 replace hB : Bl w0 [] w := hB.keep [false, false, false]
 exact H  a w hs hB

theorem l12te (K : Nat) (w0 : World) (g11 g10 : Nat) (ea eb hi S0 S1 xN xD yN yD l0 df : Int) (ng : Bool) (hS : F.wireloomlaw02_add.f K xN xD yN yD = some (S0, S1, 0)) (h1 : (if ea < eb then eb else ea) = hi) (h2 : (if eb < ea then eb else ea) = hi) (h3 : hi ≤ 61) (h5 : (if 0 < hi then 0 else hi) = l0) (h6 : wrap64 (hi - l0) = df) (h7 : ¬ df ≤ 61) (H : ∀ a w, Sl 179 [(2, .bool ng), (7, .bool true)] a → Bl w0 [] w → (restOf Tryd.f8 20).wp Tryd.prog (bodyPost Tryd.prog Tryd.f8 fun e w' => e = .returned (.bool true) ∧ Below w0.heap.size w0 w') a w) :
  ∀ a w, Sl 179 [(2, .bool ng), (7, .bool true), (8, .int .i64 ea), (9, .int .i64 eb), (10, pt g10 0), (11, pt g11 0)] a → Bl w0 [(g11, .cells #[.int .i64 yN, .int .i64 yD] 25 (0, 0)), (g10, .cells #[.int .i64 xN, .int .i64 xD] 25 (0, 0))] w → (restOf Tryd.f8 12).wp Tryd.prog (bodyPost Tryd.prog Tryd.f8 fun e w' => e = .returned (.bool true) ∧ Below w0.heap.size w0 w') a w := by
 intro a w hs hB
 conv => arg 2; whnf
 refine c_list ?_
 refine l_fit (v := .int .i64 ea) (fit_free rfl (ok_move rfl rfl)) rfl rfl hs hB (fun a w hs hB => ?_)
 refine l_fit (v := .int .i64 eb) (fit_free rfl (ok_move rfl rfl)) rfl rfl hs hB (fun a w hs hB => ?_)
 refine l_fit (v := .int .i64 hi) (fit_free rfl (ok_max3 rfl rfl rfl (h1))) rfl rfl hs hB (fun a w hs hB => ?_)
 refine l_fit (v := .int .i64 hi) (fit_free rfl (ok_assign rfl rfl)) rfl rfl hs hB (fun a w hs hB => ?_)
 refine l_nil ?_
 replace hs := hs.sub (l := [(14, .int .i64 hi), (2, .bool ng), (7, .bool true), (8, .int .i64 ea), (9, .int .i64 eb), (10, pt g10 0), (11, pt g11 0)]) (⟨rfl, rfl, rfl, rfl, rfl, rfl, rfl, trivial⟩)
 refine c_list ?_
 refine l_fit (v := .int .i64 ea) (fit_free rfl (ok_move rfl rfl)) rfl rfl hs hB (fun a w hs hB => ?_)
 refine l_fit (v := .int .i64 eb) (fit_free rfl (ok_move rfl rfl)) rfl rfl hs hB (fun a w hs hB => ?_)
 refine l_fit (v := .int .i64 hi) (fit_free rfl (ok_min3 rfl rfl rfl (h2))) rfl rfl hs hB (fun a w hs hB => ?_)
 refine l_fit (v := .int .i64 hi) (fit_free rfl (ok_assign rfl rfl)) rfl rfl hs hB (fun a w hs hB => ?_)
 refine l_nil ?_
 replace hs := hs.sub (l := [(15, .int .i64 hi), (14, .int .i64 hi), (2, .bool ng), (7, .bool true), (10, pt g10 0), (11, pt g11 0)]) (⟨rfl, rfl, rfl, rfl, rfl, rfl, trivial⟩)
 refine c_list ?_
 refine l_fit (v := .agg #[.int .i64 xN, .int .i64 xD]) (fit_free rfl (ok_load25 (k := 1) rfl rfl rfl rfl rfl)) rfl rfl hs hB (fun a w hs hB => ?_)
 refine l_fit (v := .agg #[.int .i64 yN, .int .i64 yD]) (fit_free rfl (ok_load25 (k := 0) rfl rfl rfl rfl rfl)) rfl rfl hs hB (fun a w hs hB => ?_)
 refine l_fit (v := .agg #[.int .i64 S0, .int .i64 S1, .int .i64 0]) (fit_free rfl (ok_call (args := #[.agg #[.int .i64 xN, .int .i64 xD], .agg #[.int .i64 yN, .int .i64 yD]]) rfl Tryd.func14 (by kernel_rfl) rfl rfl (viaB fun w => F.wireloomlaw02_add.calls K _ _ _ _ _ _ _ w hS))) rfl rfl hs hB (fun a w hs hB => ?_)
 refine l_alloc31 rfl rfl rfl rfl hs hB (fun g16 a w hs hB => ?_)
 refine l_store31 (k := 0) (cs' := #[.int .i64 S0, .int .i64 S1, .int .i64 0]) rfl rfl rfl rfl rfl rfl rfl rfl hs hB (fun w hB => ?_)
 replace hB : Bl w0 [(g16, .cells #[.int .i64 S0, .int .i64 S1, .int .i64 0] 31 (0, 0)), (g11, .cells #[.int .i64 yN, .int .i64 yD] 25 (0, 0)), (g10, .cells #[.int .i64 xN, .int .i64 xD] 25 (0, 0))] w := hB
 refine l_nil ?_
 replace hs := hs.sub (l := [(16, pt g16 0), (15, .int .i64 hi), (14, .int .i64 hi), (2, .bool ng), (7, .bool true)]) (⟨rfl, rfl, rfl, rfl, rfl, trivial⟩)
 refine c_list ?_
 refine l_fit (v := .int .i64 hi) (fit_free rfl (ok_move rfl rfl)) rfl rfl hs hB (fun a w hs hB => ?_)
 refine l_fit (v := .bool true) (fit_free rfl (ok_leq3 rfl rfl rfl (by simp <;> omega))) rfl rfl hs hB (fun a w hs hB => ?_)
 refine l_fit (v := .bool true) (fit_free rfl (ok_move rfl rfl)) rfl rfl hs hB (fun a w hs hB => ?_)
 refine l_fit (v := .int .i64 hi) (fit_on rfl rfl rfl (ok_move rfl rfl)) rfl rfl hs hB (fun a w hs hB => ?_)
 refine l_fit (v := .int .i64 hi) (fit_on rfl rfl rfl (ok_move rfl rfl)) rfl rfl hs hB (fun a w hs hB => ?_)
 refine l_fit (v := .int .i64 l0) (fit_on rfl rfl rfl (ok_min3 rfl rfl rfl (h5))) rfl rfl hs hB (fun a w hs hB => ?_)
 refine l_fit (v := .int .i64 df) (fit_on rfl rfl rfl (ok_sub3 rfl rfl rfl (h6))) rfl rfl hs hB (fun a w hs hB => ?_)
 refine l_fit (v := .bool false) (fit_on rfl rfl rfl (ok_leq3 rfl rfl rfl (by simp <;> omega))) rfl rfl hs hB (fun a w hs hB => ?_)
 refine l_fit (v := .bool false) (fit_free rfl (ok_pick_t rfl rfl rfl)) rfl rfl hs hB (fun a w hs hB => ?_)
 refine l_fit (v := .bool false) (fit_free rfl (ok_assign rfl rfl)) rfl rfl hs hB (fun a w hs hB => ?_)
 refine l_nil ?_
 replace hs := hs.sub (l := [(17, .bool false), (16, pt g16 0), (15, .int .i64 hi), (14, .int .i64 hi), (2, .bool ng), (7, .bool true)]) (⟨rfl, rfl, rfl, rfl, rfl, rfl, trivial⟩)
 refine wp_seq ?_
 refine c_list ?_
 refine l_fit (v := .int .i64 hi) (fit_free rfl (ok_move rfl rfl)) rfl rfl hs hB (fun a w hs hB => ?_)
 refine l_fit (v := .int .i64 hi) (fit_free rfl (ok_move rfl rfl)) rfl rfl hs hB (fun a w hs hB => ?_)
 refine l_fit (v := .bool true) (fit_free rfl (ok_eq3 rfl rfl rfl (by simp))) rfl rfl hs hB (fun a w hs hB => ?_)
 refine l_nil ?_
 replace hs := hs.sub (l := [(120, .bool true), (17, .bool false), (16, pt g16 0), (14, .int .i64 hi), (2, .bool ng), (7, .bool true)]) (⟨rfl, rfl, rfl, rfl, rfl, rfl, trivial⟩)
 refine c_true hs rfl ?_
 refine wp_region_list ?_
 refine l_fit (v := .int .i64 hi) (fit_free rfl (ok_move rfl rfl)) rfl rfl hs hB (fun a w hs hB => ?_)
 refine l_fit (v := .bool true) (fit_free rfl (ok_leq3 rfl rfl rfl (by simp <;> omega))) rfl rfl hs hB (fun a w hs hB => ?_)
 refine l_fit (v := .bool true) (fit_free rfl (ok_assign rfl rfl)) rfl rfl hs hB (fun a w hs hB => ?_)
 refine l_end ?_
 refine then_n ?_
 replace hs := hs.sub (l := [(17, .bool true), (16, pt g16 0), (2, .bool ng), (7, .bool true)]) (⟨rfl, rfl, rfl, rfl, trivial⟩)
 refine wp_seq ?_
 refine c_list ?_
 refine l_fit (v := pt g16 2) (fit_free rfl (ok_fieldAddr31_1 rfl rfl)) rfl rfl hs hB (fun a w hs hB => ?_)
 refine l_fit (v := .int .i64 0) (fit_free rfl (ok_load29 (k := 0) rfl rfl rfl rfl)) rfl rfl hs hB (fun a w hs hB => ?_)
 refine l_fit (v := .bool true) (fit_free rfl (ok_eq29 rfl rfl rfl (by decide))) rfl rfl hs hB (fun a w hs hB => ?_)
 refine l_fit (v := .bool true) (fit_free rfl (ok_move rfl rfl)) rfl rfl hs hB (fun a w hs hB => ?_)
 refine l_fit (v := .bool false) (fit_free rfl (ok_neq4 (a0 := true) (b0 := true) rfl rfl rfl (rfl))) rfl rfl hs hB (fun a w hs hB => ?_)
 refine l_fit (v := .bool false) (fit_free rfl (ok_move rfl rfl)) rfl rfl hs hB (fun a w hs hB => ?_)
 refine l_fit (v := pt g16 2) (fit_on rfl rfl rfl (ok_fieldAddr31_1 rfl rfl)) rfl rfl hs hB (fun a w hs hB => ?_)
 refine l_fit (v := .int .i64 0) (fit_on rfl rfl rfl (ok_load29 (k := 0) rfl rfl rfl rfl)) rfl rfl hs hB (fun a w hs hB => ?_)
 refine l_fit (v := .bool false) (fit_on rfl rfl rfl (ok_neq29 rfl rfl rfl (by decide))) rfl rfl hs hB (fun a w hs hB => ?_)
 refine l_fit (v := .bool false) (fit_on rfl rfl rfl (ok_move rfl rfl)) rfl rfl hs hB (fun a w hs hB => ?_)
 refine l_fit (v := undef) (fit_off rfl rfl rfl rfl) rfl rfl hs hB (fun a w hs hB => ?_)
 refine l_fit (v := undef) (fit_off rfl rfl rfl rfl) rfl rfl hs hB (fun a w hs hB => ?_)
 refine l_fit (v := undef) (fit_off rfl rfl rfl rfl) rfl rfl hs hB (fun a w hs hB => ?_)
 refine l_fit (v := .bool false) (fit_on rfl rfl rfl (ok_pick_f rfl rfl rfl)) rfl rfl hs hB (fun a w hs hB => ?_)
 refine l_fit (v := .bool false) (fit_free rfl (ok_pick_f rfl rfl rfl)) rfl rfl hs hB (fun a w hs hB => ?_)
 refine l_nil ?_
 replace hs := hs.sub (l := [(137, .bool false), (2, .bool ng), (7, .bool true)]) (⟨rfl, rfl, rfl, trivial⟩)
 refine c_false hs rfl ?_
 refine wp_skip ?_
 refine then_n ?_
 replace hs := hs.sub (l := [(2, .bool ng), (7, .bool true)]) (⟨rfl, rfl, trivial⟩)
 replace hs := hs.sub (l := [(2, .bool ng), (7, .bool true)]) (⟨rfl, rfl, trivial⟩)
 replace hB : Bl w0 [] w := hB.keep [false, false, false]
 exact H  a w hs hB

theorem l12tn (K : Nat) (w0 : World) (g11 g10 : Nat) (ea eb hi S0 S1 xN xD yN yD lo l0 df : Int) (ng : Bool) (hS : F.wireloomlaw02_add.f K xN xD yN yD = some (S0, S1, 2)) (h1 : (if ea < eb then eb else ea) = hi) (h2 : (if eb < ea then eb else ea) = lo) (h3 : hi ≤ 61) (h4 : hi ≠ lo) (h5 : (if 0 < lo then 0 else lo) = l0) (h6 : wrap64 (hi - l0) = df) (h7 : ¬ df ≤ 61) (H : ∀ a w, Sl 179 [(2, .bool ng), (7, .bool true)] a → Bl w0 [] w → (restOf Tryd.f8 20).wp Tryd.prog (bodyPost Tryd.prog Tryd.f8 fun e w' => e = .returned (.bool true) ∧ Below w0.heap.size w0 w') a w) :
  ∀ a w, Sl 179 [(2, .bool ng), (7, .bool true), (8, .int .i64 ea), (9, .int .i64 eb), (10, pt g10 0), (11, pt g11 0)] a → Bl w0 [(g11, .cells #[.int .i64 yN, .int .i64 yD] 25 (0, 0)), (g10, .cells #[.int .i64 xN, .int .i64 xD] 25 (0, 0))] w → (restOf Tryd.f8 12).wp Tryd.prog (bodyPost Tryd.prog Tryd.f8 fun e w' => e = .returned (.bool true) ∧ Below w0.heap.size w0 w') a w := by
 intro a w hs hB
 conv => arg 2; whnf
 refine c_list ?_
 refine l_fit (v := .int .i64 ea) (fit_free rfl (ok_move rfl rfl)) rfl rfl hs hB (fun a w hs hB => ?_)
 refine l_fit (v := .int .i64 eb) (fit_free rfl (ok_move rfl rfl)) rfl rfl hs hB (fun a w hs hB => ?_)
 refine l_fit (v := .int .i64 hi) (fit_free rfl (ok_max3 rfl rfl rfl (h1))) rfl rfl hs hB (fun a w hs hB => ?_)
 refine l_fit (v := .int .i64 hi) (fit_free rfl (ok_assign rfl rfl)) rfl rfl hs hB (fun a w hs hB => ?_)
 refine l_nil ?_
 replace hs := hs.sub (l := [(14, .int .i64 hi), (2, .bool ng), (7, .bool true), (8, .int .i64 ea), (9, .int .i64 eb), (10, pt g10 0), (11, pt g11 0)]) (⟨rfl, rfl, rfl, rfl, rfl, rfl, rfl, trivial⟩)
 refine c_list ?_
 refine l_fit (v := .int .i64 ea) (fit_free rfl (ok_move rfl rfl)) rfl rfl hs hB (fun a w hs hB => ?_)
 refine l_fit (v := .int .i64 eb) (fit_free rfl (ok_move rfl rfl)) rfl rfl hs hB (fun a w hs hB => ?_)
 refine l_fit (v := .int .i64 lo) (fit_free rfl (ok_min3 rfl rfl rfl (h2))) rfl rfl hs hB (fun a w hs hB => ?_)
 refine l_fit (v := .int .i64 lo) (fit_free rfl (ok_assign rfl rfl)) rfl rfl hs hB (fun a w hs hB => ?_)
 refine l_nil ?_
 replace hs := hs.sub (l := [(15, .int .i64 lo), (14, .int .i64 hi), (2, .bool ng), (7, .bool true), (10, pt g10 0), (11, pt g11 0)]) (⟨rfl, rfl, rfl, rfl, rfl, rfl, trivial⟩)
 refine c_list ?_
 refine l_fit (v := .agg #[.int .i64 xN, .int .i64 xD]) (fit_free rfl (ok_load25 (k := 1) rfl rfl rfl rfl rfl)) rfl rfl hs hB (fun a w hs hB => ?_)
 refine l_fit (v := .agg #[.int .i64 yN, .int .i64 yD]) (fit_free rfl (ok_load25 (k := 0) rfl rfl rfl rfl rfl)) rfl rfl hs hB (fun a w hs hB => ?_)
 refine l_fit (v := .agg #[.int .i64 S0, .int .i64 S1, .int .i64 2]) (fit_free rfl (ok_call (args := #[.agg #[.int .i64 xN, .int .i64 xD], .agg #[.int .i64 yN, .int .i64 yD]]) rfl Tryd.func14 (by kernel_rfl) rfl rfl (viaB fun w => F.wireloomlaw02_add.calls K _ _ _ _ _ _ _ w hS))) rfl rfl hs hB (fun a w hs hB => ?_)
 refine l_alloc31 rfl rfl rfl rfl hs hB (fun g16 a w hs hB => ?_)
 refine l_store31 (k := 0) (cs' := #[.int .i64 S0, .int .i64 S1, .int .i64 2]) rfl rfl rfl rfl rfl rfl rfl rfl hs hB (fun w hB => ?_)
 replace hB : Bl w0 [(g16, .cells #[.int .i64 S0, .int .i64 S1, .int .i64 2] 31 (0, 0)), (g11, .cells #[.int .i64 yN, .int .i64 yD] 25 (0, 0)), (g10, .cells #[.int .i64 xN, .int .i64 xD] 25 (0, 0))] w := hB
 refine l_nil ?_
 replace hs := hs.sub (l := [(16, pt g16 0), (15, .int .i64 lo), (14, .int .i64 hi), (2, .bool ng), (7, .bool true)]) (⟨rfl, rfl, rfl, rfl, rfl, trivial⟩)
 refine c_list ?_
 refine l_fit (v := .int .i64 hi) (fit_free rfl (ok_move rfl rfl)) rfl rfl hs hB (fun a w hs hB => ?_)
 refine l_fit (v := .bool true) (fit_free rfl (ok_leq3 rfl rfl rfl (by simp <;> omega))) rfl rfl hs hB (fun a w hs hB => ?_)
 refine l_fit (v := .bool true) (fit_free rfl (ok_move rfl rfl)) rfl rfl hs hB (fun a w hs hB => ?_)
 refine l_fit (v := .int .i64 hi) (fit_on rfl rfl rfl (ok_move rfl rfl)) rfl rfl hs hB (fun a w hs hB => ?_)
 refine l_fit (v := .int .i64 lo) (fit_on rfl rfl rfl (ok_move rfl rfl)) rfl rfl hs hB (fun a w hs hB => ?_)
 refine l_fit (v := .int .i64 l0) (fit_on rfl rfl rfl (ok_min3 rfl rfl rfl (h5))) rfl rfl hs hB (fun a w hs hB => ?_)
 refine l_fit (v := .int .i64 df) (fit_on rfl rfl rfl (ok_sub3 rfl rfl rfl (h6))) rfl rfl hs hB (fun a w hs hB => ?_)
 refine l_fit (v := .bool false) (fit_on rfl rfl rfl (ok_leq3 rfl rfl rfl (by simp <;> omega))) rfl rfl hs hB (fun a w hs hB => ?_)
 refine l_fit (v := .bool false) (fit_free rfl (ok_pick_t rfl rfl rfl)) rfl rfl hs hB (fun a w hs hB => ?_)
 refine l_fit (v := .bool false) (fit_free rfl (ok_assign rfl rfl)) rfl rfl hs hB (fun a w hs hB => ?_)
 refine l_nil ?_
 replace hs := hs.sub (l := [(17, .bool false), (16, pt g16 0), (15, .int .i64 lo), (14, .int .i64 hi), (2, .bool ng), (7, .bool true)]) (⟨rfl, rfl, rfl, rfl, rfl, rfl, trivial⟩)
 refine wp_seq ?_
 refine c_list ?_
 refine l_fit (v := .int .i64 hi) (fit_free rfl (ok_move rfl rfl)) rfl rfl hs hB (fun a w hs hB => ?_)
 refine l_fit (v := .int .i64 lo) (fit_free rfl (ok_move rfl rfl)) rfl rfl hs hB (fun a w hs hB => ?_)
 refine l_fit (v := .bool false) (fit_free rfl (ok_eq3 rfl rfl rfl (decide_eq_false h4))) rfl rfl hs hB (fun a w hs hB => ?_)
 refine l_nil ?_
 replace hs := hs.sub (l := [(120, .bool false), (17, .bool false), (16, pt g16 0), (14, .int .i64 hi), (2, .bool ng), (7, .bool true)]) (⟨rfl, rfl, rfl, rfl, rfl, rfl, trivial⟩)
 refine c_false hs rfl ?_
 refine wp_skip ?_
 refine then_n ?_
 replace hs := hs.sub (l := [(17, .bool false), (16, pt g16 0), (2, .bool ng), (7, .bool true)]) (⟨rfl, rfl, rfl, rfl, trivial⟩)
 refine wp_seq ?_
 refine c_list ?_
 refine l_fit (v := pt g16 2) (fit_free rfl (ok_fieldAddr31_1 rfl rfl)) rfl rfl hs hB (fun a w hs hB => ?_)
 refine l_fit (v := .int .i64 2) (fit_free rfl (ok_load29 (k := 0) rfl rfl rfl rfl)) rfl rfl hs hB (fun a w hs hB => ?_)
 refine l_fit (v := .bool false) (fit_free rfl (ok_eq29 rfl rfl rfl (by decide))) rfl rfl hs hB (fun a w hs hB => ?_)
 refine l_fit (v := .bool false) (fit_free rfl (ok_move rfl rfl)) rfl rfl hs hB (fun a w hs hB => ?_)
 refine l_fit (v := .bool false) (fit_free rfl (ok_neq4 (a0 := false) (b0 := false) rfl rfl rfl (rfl))) rfl rfl hs hB (fun a w hs hB => ?_)
 refine l_fit (v := .bool false) (fit_free rfl (ok_move rfl rfl)) rfl rfl hs hB (fun a w hs hB => ?_)
 refine l_fit (v := pt g16 2) (fit_on rfl rfl rfl (ok_fieldAddr31_1 rfl rfl)) rfl rfl hs hB (fun a w hs hB => ?_)
 refine l_fit (v := .int .i64 2) (fit_on rfl rfl rfl (ok_load29 (k := 0) rfl rfl rfl rfl)) rfl rfl hs hB (fun a w hs hB => ?_)
 refine l_fit (v := .bool true) (fit_on rfl rfl rfl (ok_neq29 rfl rfl rfl (by decide))) rfl rfl hs hB (fun a w hs hB => ?_)
 refine l_fit (v := .bool true) (fit_on rfl rfl rfl (ok_move rfl rfl)) rfl rfl hs hB (fun a w hs hB => ?_)
 refine l_fit (v := pt g16 2) (fit_on rfl rfl rfl (ok_fieldAddr31_1 rfl rfl)) rfl rfl hs hB (fun a w hs hB => ?_)
 refine l_fit (v := .int .i64 2) (fit_on rfl rfl rfl (ok_load29 (k := 0) rfl rfl rfl rfl)) rfl rfl hs hB (fun a w hs hB => ?_)
 refine l_fit (v := .bool false) (fit_on rfl rfl rfl (ok_neq29 rfl rfl rfl (by decide))) rfl rfl hs hB (fun a w hs hB => ?_)
 refine l_fit (v := .bool false) (fit_on rfl rfl rfl (ok_pick_t rfl rfl rfl)) rfl rfl hs hB (fun a w hs hB => ?_)
 refine l_fit (v := .bool false) (fit_free rfl (ok_pick_f rfl rfl rfl)) rfl rfl hs hB (fun a w hs hB => ?_)
 refine l_nil ?_
 replace hs := hs.sub (l := [(137, .bool false), (2, .bool ng), (7, .bool true)]) (⟨rfl, rfl, rfl, trivial⟩)
 refine c_false hs rfl ?_
 refine wp_skip ?_
 refine then_n ?_
 replace hs := hs.sub (l := [(2, .bool ng), (7, .bool true)]) (⟨rfl, rfl, trivial⟩)
 replace hs := hs.sub (l := [(2, .bool ng), (7, .bool true)]) (⟨rfl, rfl, trivial⟩)
 replace hB : Bl w0 [] w := hB.keep [false, false, false]
 exact H  a w hs hB

theorem l12ee (K : Nat) (w0 : World) (g11 g10 : Nat) (ea eb hi S0 S1 xN xD yN yD l0 df : Int) (ng : Bool) (hS : F.wireloomlaw02_add.f K xN xD yN yD = some (S0, S1, 0)) (h1 : (if ea < eb then eb else ea) = hi) (h2 : (if eb < ea then eb else ea) = hi) (h3 : hi ≤ 61) (h5 : (if 0 < hi then 0 else hi) = l0) (h6 : wrap64 (hi - l0) = df) (h7 : df ≤ 61) (H : ∀ a w, Sl 179 [(2, .bool ng), (7, .bool true)] a → Bl w0 [] w → (restOf Tryd.f8 20).wp Tryd.prog (bodyPost Tryd.prog Tryd.f8 fun e w' => e = .returned (.bool true) ∧ Below w0.heap.size w0 w') a w) :
  ∀ a w, Sl 179 [(2, .bool ng), (7, .bool true), (8, .int .i64 ea), (9, .int .i64 eb), (10, pt g10 0), (11, pt g11 0)] a → Bl w0 [(g11, .cells #[.int .i64 yN, .int .i64 yD] 25 (0, 0)), (g10, .cells #[.int .i64 xN, .int .i64 xD] 25 (0, 0))] w → (restOf Tryd.f8 12).wp Tryd.prog (bodyPost Tryd.prog Tryd.f8 fun e w' => e = .returned (.bool true) ∧ Below w0.heap.size w0 w') a w := by
 intro a w hs hB
 conv => arg 2; whnf
 refine c_list ?_
 refine l_fit (v := .int .i64 ea) (fit_free rfl (ok_move rfl rfl)) rfl rfl hs hB (fun a w hs hB => ?_)
 refine l_fit (v := .int .i64 eb) (fit_free rfl (ok_move rfl rfl)) rfl rfl hs hB (fun a w hs hB => ?_)
 refine l_fit (v := .int .i64 hi) (fit_free rfl (ok_max3 rfl rfl rfl (h1))) rfl rfl hs hB (fun a w hs hB => ?_)
 refine l_fit (v := .int .i64 hi) (fit_free rfl (ok_assign rfl rfl)) rfl rfl hs hB (fun a w hs hB => ?_)
 refine l_nil ?_
 replace hs := hs.sub (l := [(14, .int .i64 hi), (2, .bool ng), (7, .bool true), (8, .int .i64 ea), (9, .int .i64 eb), (10, pt g10 0), (11, pt g11 0)]) (⟨rfl, rfl, rfl, rfl, rfl, rfl, rfl, trivial⟩)
 refine c_list ?_
 refine l_fit (v := .int .i64 ea) (fit_free rfl (ok_move rfl rfl)) rfl rfl hs hB (fun a w hs hB => ?_)
 refine l_fit (v := .int .i64 eb) (fit_free rfl (ok_move rfl rfl)) rfl rfl hs hB (fun a w hs hB => ?_)
 refine l_fit (v := .int .i64 hi) (fit_free rfl (ok_min3 rfl rfl rfl (h2))) rfl rfl hs hB (fun a w hs hB => ?_)
 refine l_fit (v := .int .i64 hi) (fit_free rfl (ok_assign rfl rfl)) rfl rfl hs hB (fun a w hs hB => ?_)
 refine l_nil ?_
 replace hs := hs.sub (l := [(15, .int .i64 hi), (14, .int .i64 hi), (2, .bool ng), (7, .bool true), (10, pt g10 0), (11, pt g11 0)]) (⟨rfl, rfl, rfl, rfl, rfl, rfl, trivial⟩)
 refine c_list ?_
 refine l_fit (v := .agg #[.int .i64 xN, .int .i64 xD]) (fit_free rfl (ok_load25 (k := 1) rfl rfl rfl rfl rfl)) rfl rfl hs hB (fun a w hs hB => ?_)
 refine l_fit (v := .agg #[.int .i64 yN, .int .i64 yD]) (fit_free rfl (ok_load25 (k := 0) rfl rfl rfl rfl rfl)) rfl rfl hs hB (fun a w hs hB => ?_)
 refine l_fit (v := .agg #[.int .i64 S0, .int .i64 S1, .int .i64 0]) (fit_free rfl (ok_call (args := #[.agg #[.int .i64 xN, .int .i64 xD], .agg #[.int .i64 yN, .int .i64 yD]]) rfl Tryd.func14 (by kernel_rfl) rfl rfl (viaB fun w => F.wireloomlaw02_add.calls K _ _ _ _ _ _ _ w hS))) rfl rfl hs hB (fun a w hs hB => ?_)
 refine l_alloc31 rfl rfl rfl rfl hs hB (fun g16 a w hs hB => ?_)
 refine l_store31 (k := 0) (cs' := #[.int .i64 S0, .int .i64 S1, .int .i64 0]) rfl rfl rfl rfl rfl rfl rfl rfl hs hB (fun w hB => ?_)
 replace hB : Bl w0 [(g16, .cells #[.int .i64 S0, .int .i64 S1, .int .i64 0] 31 (0, 0)), (g11, .cells #[.int .i64 yN, .int .i64 yD] 25 (0, 0)), (g10, .cells #[.int .i64 xN, .int .i64 xD] 25 (0, 0))] w := hB
 refine l_nil ?_
 replace hs := hs.sub (l := [(16, pt g16 0), (15, .int .i64 hi), (14, .int .i64 hi), (2, .bool ng), (7, .bool true)]) (⟨rfl, rfl, rfl, rfl, rfl, trivial⟩)
 refine c_list ?_
 refine l_fit (v := .int .i64 hi) (fit_free rfl (ok_move rfl rfl)) rfl rfl hs hB (fun a w hs hB => ?_)
 refine l_fit (v := .bool true) (fit_free rfl (ok_leq3 rfl rfl rfl (by simp <;> omega))) rfl rfl hs hB (fun a w hs hB => ?_)
 refine l_fit (v := .bool true) (fit_free rfl (ok_move rfl rfl)) rfl rfl hs hB (fun a w hs hB => ?_)
 refine l_fit (v := .int .i64 hi) (fit_on rfl rfl rfl (ok_move rfl rfl)) rfl rfl hs hB (fun a w hs hB => ?_)
 refine l_fit (v := .int .i64 hi) (fit_on rfl rfl rfl (ok_move rfl rfl)) rfl rfl hs hB (fun a w hs hB => ?_)
 refine l_fit (v := .int .i64 l0) (fit_on rfl rfl rfl (ok_min3 rfl rfl rfl (h5))) rfl rfl hs hB (fun a w hs hB => ?_)
 refine l_fit (v := .int .i64 df) (fit_on rfl rfl rfl (ok_sub3 rfl rfl rfl (h6))) rfl rfl hs hB (fun a w hs hB => ?_)
 refine l_fit (v := .bool true) (fit_on rfl rfl rfl (ok_leq3 rfl rfl rfl (by simp <;> omega))) rfl rfl hs hB (fun a w hs hB => ?_)
 refine l_fit (v := .bool true) (fit_free rfl (ok_pick_t rfl rfl rfl)) rfl rfl hs hB (fun a w hs hB => ?_)
 refine l_fit (v := .bool true) (fit_free rfl (ok_assign rfl rfl)) rfl rfl hs hB (fun a w hs hB => ?_)
 refine l_nil ?_
 replace hs := hs.sub (l := [(17, .bool true), (16, pt g16 0), (15, .int .i64 hi), (14, .int .i64 hi), (2, .bool ng), (7, .bool true)]) (⟨rfl, rfl, rfl, rfl, rfl, rfl, trivial⟩)
 refine wp_seq ?_
 refine c_list ?_
 refine l_fit (v := .int .i64 hi) (fit_free rfl (ok_move rfl rfl)) rfl rfl hs hB (fun a w hs hB => ?_)
 refine l_fit (v := .int .i64 hi) (fit_free rfl (ok_move rfl rfl)) rfl rfl hs hB (fun a w hs hB => ?_)
 refine l_fit (v := .bool true) (fit_free rfl (ok_eq3 rfl rfl rfl (by simp))) rfl rfl hs hB (fun a w hs hB => ?_)
 refine l_nil ?_
 replace hs := hs.sub (l := [(120, .bool true), (17, .bool true), (16, pt g16 0), (14, .int .i64 hi), (2, .bool ng), (7, .bool true)]) (⟨rfl, rfl, rfl, rfl, rfl, rfl, trivial⟩)
 refine c_true hs rfl ?_
 refine wp_region_list ?_
 refine l_fit (v := .int .i64 hi) (fit_free rfl (ok_move rfl rfl)) rfl rfl hs hB (fun a w hs hB => ?_)
 refine l_fit (v := .bool true) (fit_free rfl (ok_leq3 rfl rfl rfl (by simp <;> omega))) rfl rfl hs hB (fun a w hs hB => ?_)
 refine l_fit (v := .bool true) (fit_free rfl (ok_assign rfl rfl)) rfl rfl hs hB (fun a w hs hB => ?_)
 refine l_end ?_
 refine then_n ?_
 replace hs := hs.sub (l := [(17, .bool true), (16, pt g16 0), (2, .bool ng), (7, .bool true)]) (⟨rfl, rfl, rfl, rfl, trivial⟩)
 refine wp_seq ?_
 refine c_list ?_
 refine l_fit (v := pt g16 2) (fit_free rfl (ok_fieldAddr31_1 rfl rfl)) rfl rfl hs hB (fun a w hs hB => ?_)
 refine l_fit (v := .int .i64 0) (fit_free rfl (ok_load29 (k := 0) rfl rfl rfl rfl)) rfl rfl hs hB (fun a w hs hB => ?_)
 refine l_fit (v := .bool true) (fit_free rfl (ok_eq29 rfl rfl rfl (by decide))) rfl rfl hs hB (fun a w hs hB => ?_)
 refine l_fit (v := .bool true) (fit_free rfl (ok_move rfl rfl)) rfl rfl hs hB (fun a w hs hB => ?_)
 refine l_fit (v := .bool false) (fit_free rfl (ok_neq4 (a0 := true) (b0 := true) rfl rfl rfl (rfl))) rfl rfl hs hB (fun a w hs hB => ?_)
 refine l_fit (v := .bool false) (fit_free rfl (ok_move rfl rfl)) rfl rfl hs hB (fun a w hs hB => ?_)
 refine l_fit (v := pt g16 2) (fit_on rfl rfl rfl (ok_fieldAddr31_1 rfl rfl)) rfl rfl hs hB (fun a w hs hB => ?_)
 refine l_fit (v := .int .i64 0) (fit_on rfl rfl rfl (ok_load29 (k := 0) rfl rfl rfl rfl)) rfl rfl hs hB (fun a w hs hB => ?_)
 refine l_fit (v := .bool false) (fit_on rfl rfl rfl (ok_neq29 rfl rfl rfl (by decide))) rfl rfl hs hB (fun a w hs hB => ?_)
 refine l_fit (v := .bool false) (fit_on rfl rfl rfl (ok_move rfl rfl)) rfl rfl hs hB (fun a w hs hB => ?_)
 refine l_fit (v := undef) (fit_off rfl rfl rfl rfl) rfl rfl hs hB (fun a w hs hB => ?_)
 refine l_fit (v := undef) (fit_off rfl rfl rfl rfl) rfl rfl hs hB (fun a w hs hB => ?_)
 refine l_fit (v := undef) (fit_off rfl rfl rfl rfl) rfl rfl hs hB (fun a w hs hB => ?_)
 refine l_fit (v := .bool false) (fit_on rfl rfl rfl (ok_pick_f rfl rfl rfl)) rfl rfl hs hB (fun a w hs hB => ?_)
 refine l_fit (v := .bool false) (fit_free rfl (ok_pick_f rfl rfl rfl)) rfl rfl hs hB (fun a w hs hB => ?_)
 refine l_nil ?_
 replace hs := hs.sub (l := [(137, .bool false), (2, .bool ng), (7, .bool true)]) (⟨rfl, rfl, rfl, trivial⟩)
 refine c_false hs rfl ?_
 refine wp_skip ?_
 refine then_n ?_
 replace hs := hs.sub (l := [(2, .bool ng), (7, .bool true)]) (⟨rfl, rfl, trivial⟩)
 replace hs := hs.sub (l := [(2, .bool ng), (7, .bool true)]) (⟨rfl, rfl, trivial⟩)
 replace hB : Bl w0 [] w := hB.keep [false, false, false]
 exact H  a w hs hB

theorem l12en (K : Nat) (w0 : World) (g11 g10 : Nat) (ea eb hi S0 S1 xN xD yN yD lo l0 df : Int) (ng : Bool) (hS : F.wireloomlaw02_add.f K xN xD yN yD = some (S0, S1, 0)) (h1 : (if ea < eb then eb else ea) = hi) (h2 : (if eb < ea then eb else ea) = lo) (h3 : hi ≤ 61) (h4 : hi ≠ lo) (h5 : (if 0 < lo then 0 else lo) = l0) (h6 : wrap64 (hi - l0) = df) (h7 : df ≤ 61) (H : ∀ a w, Sl 179 [(2, .bool ng), (7, .bool true)] a → Bl w0 [] w → (restOf Tryd.f8 20).wp Tryd.prog (bodyPost Tryd.prog Tryd.f8 fun e w' => e = .returned (.bool true) ∧ Below w0.heap.size w0 w') a w) :
  ∀ a w, Sl 179 [(2, .bool ng), (7, .bool true), (8, .int .i64 ea), (9, .int .i64 eb), (10, pt g10 0), (11, pt g11 0)] a → Bl w0 [(g11, .cells #[.int .i64 yN, .int .i64 yD] 25 (0, 0)), (g10, .cells #[.int .i64 xN, .int .i64 xD] 25 (0, 0))] w → (restOf Tryd.f8 12).wp Tryd.prog (bodyPost Tryd.prog Tryd.f8 fun e w' => e = .returned (.bool true) ∧ Below w0.heap.size w0 w') a w := by
 intro a w hs hB
 conv => arg 2; whnf
 refine c_list ?_
 refine l_fit (v := .int .i64 ea) (fit_free rfl (ok_move rfl rfl)) rfl rfl hs hB (fun a w hs hB => ?_)
 refine l_fit (v := .int .i64 eb) (fit_free rfl (ok_move rfl rfl)) rfl rfl hs hB (fun a w hs hB => ?_)
 refine l_fit (v := .int .i64 hi) (fit_free rfl (ok_max3 rfl rfl rfl (h1))) rfl rfl hs hB (fun a w hs hB => ?_)
 refine l_fit (v := .int .i64 hi) (fit_free rfl (ok_assign rfl rfl)) rfl rfl hs hB (fun a w hs hB => ?_)
 refine l_nil ?_
 replace hs := hs.sub (l := [(14, .int .i64 hi), (2, .bool ng), (7, .bool true), (8, .int .i64 ea), (9, .int .i64 eb), (10, pt g10 0), (11, pt g11 0)]) (⟨rfl, rfl, rfl, rfl, rfl, rfl, rfl, trivial⟩)
 refine c_list ?_
 refine l_fit (v := .int .i64 ea) (fit_free rfl (ok_move rfl rfl)) rfl rfl hs hB (fun a w hs hB => ?_)
 refine l_fit (v := .int .i64 eb) (fit_free rfl (ok_move rfl rfl)) rfl rfl hs hB (fun a w hs hB => ?_)
 refine l_fit (v := .int .i64 lo) (fit_free rfl (ok_min3 rfl rfl rfl (h2))) rfl rfl hs hB (fun a w hs hB => ?_)
 refine l_fit (v := .int .i64 lo) (fit_free rfl (ok_assign rfl rfl)) rfl rfl hs hB (fun a w hs hB => ?_)
 refine l_nil ?_
 replace hs := hs.sub (l := [(15, .int .i64 lo), (14, .int .i64 hi), (2, .bool ng), (7, .bool true), (10, pt g10 0), (11, pt g11 0)]) (⟨rfl, rfl, rfl, rfl, rfl, rfl, trivial⟩)
 refine c_list ?_
 refine l_fit (v := .agg #[.int .i64 xN, .int .i64 xD]) (fit_free rfl (ok_load25 (k := 1) rfl rfl rfl rfl rfl)) rfl rfl hs hB (fun a w hs hB => ?_)
 refine l_fit (v := .agg #[.int .i64 yN, .int .i64 yD]) (fit_free rfl (ok_load25 (k := 0) rfl rfl rfl rfl rfl)) rfl rfl hs hB (fun a w hs hB => ?_)
 refine l_fit (v := .agg #[.int .i64 S0, .int .i64 S1, .int .i64 0]) (fit_free rfl (ok_call (args := #[.agg #[.int .i64 xN, .int .i64 xD], .agg #[.int .i64 yN, .int .i64 yD]]) rfl Tryd.func14 (by kernel_rfl) rfl rfl (viaB fun w => F.wireloomlaw02_add.calls K _ _ _ _ _ _ _ w hS))) rfl rfl hs hB (fun a w hs hB => ?_)
 refine l_alloc31 rfl rfl rfl rfl hs hB (fun g16 a w hs hB => ?_)
 refine l_store31 (k := 0) (cs' := #[.int .i64 S0, .int .i64 S1, .int .i64 0]) rfl rfl rfl rfl rfl rfl rfl rfl hs hB (fun w hB => ?_)
 replace hB : Bl w0 [(g16, .cells #[.int .i64 S0, .int .i64 S1, .int .i64 0] 31 (0, 0)), (g11, .cells #[.int .i64 yN, .int .i64 yD] 25 (0, 0)), (g10, .cells #[.int .i64 xN, .int .i64 xD] 25 (0, 0))] w := hB
 refine l_nil ?_
 replace hs := hs.sub (l := [(16, pt g16 0), (15, .int .i64 lo), (14, .int .i64 hi), (2, .bool ng), (7, .bool true)]) (⟨rfl, rfl, rfl, rfl, rfl, trivial⟩)
 refine c_list ?_
 refine l_fit (v := .int .i64 hi) (fit_free rfl (ok_move rfl rfl)) rfl rfl hs hB (fun a w hs hB => ?_)
 refine l_fit (v := .bool true) (fit_free rfl (ok_leq3 rfl rfl rfl (by simp <;> omega))) rfl rfl hs hB (fun a w hs hB => ?_)
 refine l_fit (v := .bool true) (fit_free rfl (ok_move rfl rfl)) rfl rfl hs hB (fun a w hs hB => ?_)
 refine l_fit (v := .int .i64 hi) (fit_on rfl rfl rfl (ok_move rfl rfl)) rfl rfl hs hB (fun a w hs hB => ?_)
 refine l_fit (v := .int .i64 lo) (fit_on rfl rfl rfl (ok_move rfl rfl)) rfl rfl hs hB (fun a w hs hB => ?_)
 refine l_fit (v := .int .i64 l0) (fit_on rfl rfl rfl (ok_min3 rfl rfl rfl (h5))) rfl rfl hs hB (fun a w hs hB => ?_)
 refine l_fit (v := .int .i64 df) (fit_on rfl rfl rfl (ok_sub3 rfl rfl rfl (h6))) rfl rfl hs hB (fun a w hs hB => ?_)
 refine l_fit (v := .bool true) (fit_on rfl rfl rfl (ok_leq3 rfl rfl rfl (by simp <;> omega))) rfl rfl hs hB (fun a w hs hB => ?_)
 refine l_fit (v := .bool true) (fit_free rfl (ok_pick_t rfl rfl rfl)) rfl rfl hs hB (fun a w hs hB => ?_)
 refine l_fit (v := .bool true) (fit_free rfl (ok_assign rfl rfl)) rfl rfl hs hB (fun a w hs hB => ?_)
 refine l_nil ?_
 replace hs := hs.sub (l := [(17, .bool true), (16, pt g16 0), (15, .int .i64 lo), (14, .int .i64 hi), (2, .bool ng), (7, .bool true)]) (⟨rfl, rfl, rfl, rfl, rfl, rfl, trivial⟩)
 refine wp_seq ?_
 refine c_list ?_
 refine l_fit (v := .int .i64 hi) (fit_free rfl (ok_move rfl rfl)) rfl rfl hs hB (fun a w hs hB => ?_)
 refine l_fit (v := .int .i64 lo) (fit_free rfl (ok_move rfl rfl)) rfl rfl hs hB (fun a w hs hB => ?_)
 refine l_fit (v := .bool false) (fit_free rfl (ok_eq3 rfl rfl rfl (decide_eq_false h4))) rfl rfl hs hB (fun a w hs hB => ?_)
 refine l_nil ?_
 replace hs := hs.sub (l := [(120, .bool false), (17, .bool true), (16, pt g16 0), (14, .int .i64 hi), (2, .bool ng), (7, .bool true)]) (⟨rfl, rfl, rfl, rfl, rfl, rfl, trivial⟩)
 refine c_false hs rfl ?_
 refine wp_skip ?_
 refine then_n ?_
 replace hs := hs.sub (l := [(17, .bool true), (16, pt g16 0), (2, .bool ng), (7, .bool true)]) (⟨rfl, rfl, rfl, rfl, trivial⟩)
 refine wp_seq ?_
 refine c_list ?_
 refine l_fit (v := pt g16 2) (fit_free rfl (ok_fieldAddr31_1 rfl rfl)) rfl rfl hs hB (fun a w hs hB => ?_)
 refine l_fit (v := .int .i64 0) (fit_free rfl (ok_load29 (k := 0) rfl rfl rfl rfl)) rfl rfl hs hB (fun a w hs hB => ?_)
 refine l_fit (v := .bool true) (fit_free rfl (ok_eq29 rfl rfl rfl (by decide))) rfl rfl hs hB (fun a w hs hB => ?_)
 refine l_fit (v := .bool true) (fit_free rfl (ok_move rfl rfl)) rfl rfl hs hB (fun a w hs hB => ?_)
 refine l_fit (v := .bool false) (fit_free rfl (ok_neq4 (a0 := true) (b0 := true) rfl rfl rfl (rfl))) rfl rfl hs hB (fun a w hs hB => ?_)
 refine l_fit (v := .bool false) (fit_free rfl (ok_move rfl rfl)) rfl rfl hs hB (fun a w hs hB => ?_)
 refine l_fit (v := pt g16 2) (fit_on rfl rfl rfl (ok_fieldAddr31_1 rfl rfl)) rfl rfl hs hB (fun a w hs hB => ?_)
 refine l_fit (v := .int .i64 0) (fit_on rfl rfl rfl (ok_load29 (k := 0) rfl rfl rfl rfl)) rfl rfl hs hB (fun a w hs hB => ?_)
 refine l_fit (v := .bool false) (fit_on rfl rfl rfl (ok_neq29 rfl rfl rfl (by decide))) rfl rfl hs hB (fun a w hs hB => ?_)
 refine l_fit (v := .bool false) (fit_on rfl rfl rfl (ok_move rfl rfl)) rfl rfl hs hB (fun a w hs hB => ?_)
 refine l_fit (v := undef) (fit_off rfl rfl rfl rfl) rfl rfl hs hB (fun a w hs hB => ?_)
 refine l_fit (v := undef) (fit_off rfl rfl rfl rfl) rfl rfl hs hB (fun a w hs hB => ?_)
 refine l_fit (v := undef) (fit_off rfl rfl rfl rfl) rfl rfl hs hB (fun a w hs hB => ?_)
 refine l_fit (v := .bool false) (fit_on rfl rfl rfl (ok_pick_f rfl rfl rfl)) rfl rfl hs hB (fun a w hs hB => ?_)
 refine l_fit (v := .bool false) (fit_free rfl (ok_pick_f rfl rfl rfl)) rfl rfl hs hB (fun a w hs hB => ?_)
 refine l_nil ?_
 replace hs := hs.sub (l := [(137, .bool false), (2, .bool ng), (7, .bool true)]) (⟨rfl, rfl, rfl, trivial⟩)
 refine c_false hs rfl ?_
 refine wp_skip ?_
 refine then_n ?_
 replace hs := hs.sub (l := [(2, .bool ng), (7, .bool true)]) (⟨rfl, rfl, trivial⟩)
 replace hs := hs.sub (l := [(2, .bool ng), (7, .bool true)]) (⟨rfl, rfl, trivial⟩)
 replace hB : Bl w0 [] w := hB.keep [false, false, false]
 exact H  a w hs hB

theorem l20p (K : Nat) (w0 : World)  (e1 : F.wireloomlaw02_sub.f K 4611686018427387904 1 1 1 = some (4611686018427387903, 1, 0)) (e2 : F.wireloomlaw02_add.f K 4611686018427387904 1 1 1 = some (0, 0, 2)) (e3 : F.wireloomlaw02_add.f K 4611686018427387903 1 1 1 = some (4611686018427387904, 1, 0)) (e4 : F.wireloomlaw02_sub.f K 4611686018427387904 1 1 2 = some (0, 0, 2)) :
  ∀ a w, Sl 179 [(2, .bool false), (7, .bool true)] a → Bl w0 [] w → (restOf Tryd.f8 20).wp Tryd.prog (bodyPost Tryd.prog Tryd.f8 fun e w' => e = .returned (.bool true) ∧ Below w0.heap.size w0 w') a w := by
 intro a w hs hB
 conv => arg 2; whnf
 refine c_list ?_
 refine l_fit (v := .agg #[.int .i64 1, .int .i64 1]) (fit_free rfl (ok_build25 rfl rfl rfl)) rfl rfl hs hB (fun a w hs hB => ?_)
 refine l_alloc25 rfl rfl rfl rfl hs hB (fun g18 a w hs hB => ?_)
 refine l_store25 (k := 0) (cs' := #[.int .i64 1, .int .i64 1]) rfl rfl rfl rfl rfl rfl rfl rfl hs hB (fun w hB => ?_)
 replace hB : Bl w0 [(g18, .cells #[.int .i64 1, .int .i64 1] 25 (0, 0))] w := hB
 refine l_nil ?_
 replace hs := hs.sub (l := [(18, pt g18 0), (2, .bool false), (7, .bool true)]) (⟨rfl, rfl, rfl, trivial⟩)
 refine c_list ?_
 refine l_fit (v := .int .i64 4611686018427387904) (fit_free rfl (ok_call (args := #[]) rfl Tryd.func28 (by kernel_rfl) rfl rfl (viaB fun w => (F.wireloomref02_Most.calls _ w rfl).mono fun e w' ⟨he, hb⟩ => ⟨he, hb.below⟩))) rfl rfl hs hB (fun a w hs hB => ?_)
 refine l_fit (v := .agg #[.int .i64 4611686018427387904, .int .i64 1]) (fit_free rfl (ok_build25 rfl rfl rfl)) rfl rfl hs hB (fun a w hs hB => ?_)
 refine l_alloc25 rfl rfl rfl rfl hs hB (fun g19 a w hs hB => ?_)
 refine l_store25 (k := 0) (cs' := #[.int .i64 4611686018427387904, .int .i64 1]) rfl rfl rfl rfl rfl rfl rfl rfl hs hB (fun w hB => ?_)
 replace hB : Bl w0 [(g19, .cells #[.int .i64 4611686018427387904, .int .i64 1] 25 (0, 0)), (g18, .cells #[.int .i64 1, .int .i64 1] 25 (0, 0))] w := hB
 refine l_nil ?_
 replace hs := hs.sub (l := [(19, pt g19 0), (18, pt g18 0), (2, .bool false), (7, .bool true)]) (⟨rfl, rfl, rfl, rfl, trivial⟩)
 refine wp_seq ?_
 refine c_list ?_
 refine l_fit (v := .bool false) (fit_free rfl (ok_move rfl rfl)) rfl rfl hs hB (fun a w hs hB => ?_)
 refine l_nil ?_
 replace hs := hs.sub (l := [(141, .bool false), (19, pt g19 0), (18, pt g18 0), (7, .bool true)]) (⟨rfl, rfl, rfl, rfl, trivial⟩)
 refine c_false hs rfl ?_
 refine wp_skip ?_
 refine then_n ?_
 replace hs := hs.sub (l := [(19, pt g19 0), (18, pt g18 0), (7, .bool true)]) (⟨rfl, rfl, rfl, trivial⟩)
 refine c_list ?_
 refine l_fit (v := .agg #[.int .i64 4611686018427387904, .int .i64 1]) (fit_free rfl (ok_load25 (k := 0) rfl rfl rfl rfl rfl)) rfl rfl hs hB (fun a w hs hB => ?_)
 refine l_fit (v := .agg #[.int .i64 1, .int .i64 1]) (fit_free rfl (ok_load25 (k := 1) rfl rfl rfl rfl rfl)) rfl rfl hs hB (fun a w hs hB => ?_)
 refine l_fit (v := .agg #[.int .i64 4611686018427387903, .int .i64 1, .int .i64 0]) (fit_free rfl (ok_call (args := #[.agg #[.int .i64 4611686018427387904, .int .i64 1], .agg #[.int .i64 1, .int .i64 1]]) rfl Tryd.func21 (by kernel_rfl) rfl rfl (viaB fun w => F.wireloomlaw02_sub.calls K _ _ _ _ _ _ _ w e1))) rfl rfl hs hB (fun a w hs hB => ?_)
 refine l_alloc31 rfl rfl rfl rfl hs hB (fun g20 a w hs hB => ?_)
 refine l_store31 (k := 0) (cs' := #[.int .i64 4611686018427387903, .int .i64 1, .int .i64 0]) rfl rfl rfl rfl rfl rfl rfl rfl hs hB (fun w hB => ?_)
 replace hB : Bl w0 [(g20, .cells #[.int .i64 4611686018427387903, .int .i64 1, .int .i64 0] 31 (0, 0)), (g19, .cells #[.int .i64 4611686018427387904, .int .i64 1] 25 (0, 0)), (g18, .cells #[.int .i64 1, .int .i64 1] 25 (0, 0))] w := hB
 refine l_nil ?_
 replace hs := hs.sub (l := [(20, pt g20 0), (19, pt g19 0), (18, pt g18 0), (7, .bool true)]) (⟨rfl, rfl, rfl, rfl, trivial⟩)
 refine wp_seq ?_
 replace hs := hs.sub (l := [(20, pt g20 0), (19, pt g19 0), (18, pt g18 0), (7, .bool true)]) (⟨rfl, rfl, rfl, rfl, trivial⟩)
 refine conf_region (n := 179) (sl := [(20, pt g20 0), (19, pt g19 0), (18, pt g18 0), (7, .bool true)]) (vs := [.bool true, .bool true, .agg #[.int .i64 4611686018427387904, .int .i64 1], .agg #[.int .i64 1, .int .i64 1], .agg #[.int .i64 0, .int .i64 0, .int .i64 2], .int .i64 2, .bool true, .bool true, .bool true, pt g20 2, .int .i64 0, .bool true, .bool true, .bool true, pt g20 0, .agg #[.int .i64 4611686018427387903, .int .i64 1], .agg #[.int .i64 1, .int .i64 1], .agg #[.int .i64 4611686018427387904, .int .i64 1, .int .i64 0], .agg #[.int .i64 4611686018427387904, .int .i64 1], .agg #[.int .i64 4611686018427387904, .int .i64 1], .bool true, .bool true, .bool true, .agg #[.int .i64 4611686018427387904, .int .i64 1], .agg #[.int .i64 1, .int .i64 2], .agg #[.int .i64 0, .int .i64 0, .int .i64 2], .int .i64 2, .bool true, .bool true, .bool true]) (B := Bl w0 [(g20, .cells #[.int .i64 4611686018427387903, .int .i64 1, .int .i64 0] 31 (0, 0)), (g19, .cells #[.int .i64 4611686018427387904, .int .i64 1] 25 (0, 0)), (g18, .cells #[.int .i64 1, .int .i64 1] 25 (0, 0))]) (by kernel_rfl) [20, 19, 18, 7] rfl (by kernel_rfl) rfl (AllFitL.all ⟨fit_free rfl (ok_move rfl rfl),
   fit_free rfl (ok_move rfl rfl),
   fit_on rfl rfl rfl (ok_load25 (k := 1) rfl rfl rfl rfl rfl),
   fit_on rfl rfl rfl (ok_load25 (k := 2) rfl rfl rfl rfl rfl),
   fit_on rfl rfl rfl (ok_call (args := #[.agg #[.int .i64 4611686018427387904, .int .i64 1], .agg #[.int .i64 1, .int .i64 1]]) rfl Tryd.func14 (by kernel_rfl) rfl rfl (viaB fun w => F.wireloomlaw02_add.calls K _ _ _ _ _ _ _ w e2)),
   fit_on rfl rfl rfl (ok_field31_1 rfl rfl),
   fit_on rfl rfl rfl (ok_eq29 rfl rfl rfl (by decide)),
   fit_free rfl (ok_pick_t rfl rfl rfl),
   fit_free rfl (ok_move rfl rfl),
   fit_on rfl rfl rfl (ok_fieldAddr31_1 rfl rfl),
   fit_on rfl rfl rfl (ok_load29 (k := 0) rfl rfl rfl rfl),
   fit_on rfl rfl rfl (ok_eq29 rfl rfl rfl (by decide)),
   fit_free rfl (ok_pick_t rfl rfl rfl),
   fit_free rfl (ok_move rfl rfl),
   fit_on rfl rfl rfl (ok_fieldAddr31_0 rfl rfl),
   fit_on rfl rfl rfl (ok_load25 (k := 0) rfl rfl rfl rfl rfl),
   fit_on rfl rfl rfl (ok_load25 (k := 2) rfl rfl rfl rfl rfl),
   fit_on rfl rfl rfl (ok_call (args := #[.agg #[.int .i64 4611686018427387903, .int .i64 1], .agg #[.int .i64 1, .int .i64 1]]) rfl Tryd.func14 (by kernel_rfl) rfl rfl (viaB fun w => F.wireloomlaw02_add.calls K _ _ _ _ _ _ _ w e3)),
   fit_on rfl rfl rfl (ok_field31_0 rfl rfl),
   fit_on rfl rfl rfl (ok_load25 (k := 1) rfl rfl rfl rfl rfl),
   fit_on rfl rfl rfl (ok_eq25 rfl rfl rfl (by simp)),
   fit_free rfl (ok_pick_t rfl rfl rfl),
   fit_free rfl (ok_move rfl rfl),
   fit_on rfl rfl rfl (ok_load25 (k := 1) rfl rfl rfl rfl rfl),
   fit_on rfl rfl rfl (ok_build25 rfl rfl rfl),
   fit_on rfl rfl rfl (ok_call (args := #[.agg #[.int .i64 4611686018427387904, .int .i64 1], .agg #[.int .i64 1, .int .i64 2]]) rfl Tryd.func21 (by kernel_rfl) rfl rfl (viaB fun w => F.wireloomlaw02_sub.calls K _ _ _ _ _ _ _ w e4)),
   fit_on rfl rfl rfl (ok_field31_1 rfl rfl),
   fit_on rfl rfl rfl (ok_eq29 rfl rfl rfl (by decide)),
   fit_free rfl (ok_pick_t rfl rfl rfl),
   fit_free rfl (ok_assign rfl rfl),
   trivial⟩) hs hB.drew (fun a w hs hB => ?_)
 replace hs := hs.sub (l := [(6, .bool true)]) (⟨rfl, trivial⟩)
 refine then_n ?_
 replace hs := hs.sub (l := [(6, .bool true)]) (⟨rfl, trivial⟩)
 refine wp_ret ?_
 exact c_ret rfl hs rfl ⟨rfl, hB.below⟩

theorem l20n (K : Nat) (w0 : World)  (e1 : F.wireloomlaw02_sub.f K (-4611686018427387904) 1 (-1) 1 = some (-4611686018427387903, 1, 0)) (e2 : F.wireloomlaw02_add.f K (-4611686018427387904) 1 (-1) 1 = some (0, 0, 2)) (e3 : F.wireloomlaw02_add.f K (-4611686018427387903) 1 (-1) 1 = some (-4611686018427387904, 1, 0)) (e4 : F.wireloomlaw02_sub.f K (-4611686018427387904) 1 1 2 = some (0, 0, 2)) :
  ∀ a w, Sl 179 [(2, .bool true), (7, .bool true)] a → Bl w0 [] w → (restOf Tryd.f8 20).wp Tryd.prog (bodyPost Tryd.prog Tryd.f8 fun e w' => e = .returned (.bool true) ∧ Below w0.heap.size w0 w') a w := by
 intro a w hs hB
 conv => arg 2; whnf
 refine c_list ?_
 refine l_fit (v := .agg #[.int .i64 1, .int .i64 1]) (fit_free rfl (ok_build25 rfl rfl rfl)) rfl rfl hs hB (fun a w hs hB => ?_)
 refine l_alloc25 rfl rfl rfl rfl hs hB (fun g18 a w hs hB => ?_)
 refine l_store25 (k := 0) (cs' := #[.int .i64 1, .int .i64 1]) rfl rfl rfl rfl rfl rfl rfl rfl hs hB (fun w hB => ?_)
 replace hB : Bl w0 [(g18, .cells #[.int .i64 1, .int .i64 1] 25 (0, 0))] w := hB
 refine l_nil ?_
 replace hs := hs.sub (l := [(18, pt g18 0), (2, .bool true), (7, .bool true)]) (⟨rfl, rfl, rfl, trivial⟩)
 refine c_list ?_
 refine l_fit (v := .int .i64 4611686018427387904) (fit_free rfl (ok_call (args := #[]) rfl Tryd.func28 (by kernel_rfl) rfl rfl (viaB fun w => (F.wireloomref02_Most.calls _ w rfl).mono fun e w' ⟨he, hb⟩ => ⟨he, hb.below⟩))) rfl rfl hs hB (fun a w hs hB => ?_)
 refine l_fit (v := .agg #[.int .i64 4611686018427387904, .int .i64 1]) (fit_free rfl (ok_build25 rfl rfl rfl)) rfl rfl hs hB (fun a w hs hB => ?_)
 refine l_alloc25 rfl rfl rfl rfl hs hB (fun g19 a w hs hB => ?_)
 refine l_store25 (k := 0) (cs' := #[.int .i64 4611686018427387904, .int .i64 1]) rfl rfl rfl rfl rfl rfl rfl rfl hs hB (fun w hB => ?_)
 replace hB : Bl w0 [(g19, .cells #[.int .i64 4611686018427387904, .int .i64 1] 25 (0, 0)), (g18, .cells #[.int .i64 1, .int .i64 1] 25 (0, 0))] w := hB
 refine l_nil ?_
 replace hs := hs.sub (l := [(19, pt g19 0), (18, pt g18 0), (2, .bool true), (7, .bool true)]) (⟨rfl, rfl, rfl, rfl, trivial⟩)
 refine wp_seq ?_
 refine c_list ?_
 refine l_fit (v := .bool true) (fit_free rfl (ok_move rfl rfl)) rfl rfl hs hB (fun a w hs hB => ?_)
 refine l_nil ?_
 replace hs := hs.sub (l := [(141, .bool true), (19, pt g19 0), (18, pt g18 0), (7, .bool true)]) (⟨rfl, rfl, rfl, rfl, trivial⟩)
 refine c_true hs rfl ?_
 refine c_list ?_
 refine l_fit (v := pt g18 0) (fit_free rfl (ok_fieldAddr25_0 rfl rfl)) rfl rfl hs hB (fun a w hs hB => ?_)
 refine l_store3 (k := 1) (cs' := #[.int .i64 (-1), .int .i64 1]) rfl rfl rfl rfl rfl rfl rfl rfl hs hB (fun w hB => ?_)
 replace hB : Bl w0 [(g19, .cells #[.int .i64 4611686018427387904, .int .i64 1] 25 (0, 0)), (g18, .cells #[.int .i64 (-1), .int .i64 1] 25 (0, 0))] w := hB
 refine l_nil ?_
 replace hs := hs.sub (l := [(19, pt g19 0), (18, pt g18 0), (7, .bool true)]) (⟨rfl, rfl, rfl, trivial⟩)
 refine wp_region_list ?_
 refine l_fit (v := pt g19 0) (fit_free rfl (ok_fieldAddr25_0 rfl rfl)) rfl rfl hs hB (fun a w hs hB => ?_)
 refine l_fit (v := .int .i64 4611686018427387904) (fit_free rfl (ok_load3 (k := 0) rfl rfl rfl rfl)) rfl rfl hs hB (fun a w hs hB => ?_)
 refine l_fit (v := .int .i64 (-4611686018427387904)) (fit_free rfl (ok_neg3 rfl rfl (by simp [wrap64]))) rfl rfl hs hB (fun a w hs hB => ?_)
 refine l_fit (v := pt g19 0) (fit_free rfl (ok_fieldAddr25_0 rfl rfl)) rfl rfl hs hB (fun a w hs hB => ?_)
 refine l_store3 (k := 0) (cs' := #[.int .i64 (-4611686018427387904), .int .i64 1]) rfl rfl rfl rfl rfl rfl rfl rfl hs hB (fun w hB => ?_)
 replace hB : Bl w0 [(g19, .cells #[.int .i64 (-4611686018427387904), .int .i64 1] 25 (0, 0)), (g18, .cells #[.int .i64 (-1), .int .i64 1] 25 (0, 0))] w := hB
 refine l_end ?_
 refine then_n ?_
 replace hs := hs.sub (l := [(19, pt g19 0), (18, pt g18 0), (7, .bool true)]) (⟨rfl, rfl, rfl, trivial⟩)
 refine c_list ?_
 refine l_fit (v := .agg #[.int .i64 (-4611686018427387904), .int .i64 1]) (fit_free rfl (ok_load25 (k := 0) rfl rfl rfl rfl rfl)) rfl rfl hs hB (fun a w hs hB => ?_)
 refine l_fit (v := .agg #[.int .i64 (-1), .int .i64 1]) (fit_free rfl (ok_load25 (k := 1) rfl rfl rfl rfl rfl)) rfl rfl hs hB (fun a w hs hB => ?_)
 refine l_fit (v := .agg #[.int .i64 (-4611686018427387903), .int .i64 1, .int .i64 0]) (fit_free rfl (ok_call (args := #[.agg #[.int .i64 (-4611686018427387904), .int .i64 1], .agg #[.int .i64 (-1), .int .i64 1]]) rfl Tryd.func21 (by kernel_rfl) rfl rfl (viaB fun w => F.wireloomlaw02_sub.calls K _ _ _ _ _ _ _ w e1))) rfl rfl hs hB (fun a w hs hB => ?_)
 refine l_alloc31 rfl rfl rfl rfl hs hB (fun g20 a w hs hB => ?_)
 refine l_store31 (k := 0) (cs' := #[.int .i64 (-4611686018427387903), .int .i64 1, .int .i64 0]) rfl rfl rfl rfl rfl rfl rfl rfl hs hB (fun w hB => ?_)
 replace hB : Bl w0 [(g20, .cells #[.int .i64 (-4611686018427387903), .int .i64 1, .int .i64 0] 31 (0, 0)), (g19, .cells #[.int .i64 (-4611686018427387904), .int .i64 1] 25 (0, 0)), (g18, .cells #[.int .i64 (-1), .int .i64 1] 25 (0, 0))] w := hB
 refine l_nil ?_
 replace hs := hs.sub (l := [(20, pt g20 0), (19, pt g19 0), (18, pt g18 0), (7, .bool true)]) (⟨rfl, rfl, rfl, rfl, trivial⟩)
 refine wp_seq ?_
 replace hs := hs.sub (l := [(20, pt g20 0), (19, pt g19 0), (18, pt g18 0), (7, .bool true)]) (⟨rfl, rfl, rfl, rfl, trivial⟩)
 refine conf_region (n := 179) (sl := [(20, pt g20 0), (19, pt g19 0), (18, pt g18 0), (7, .bool true)]) (vs := [.bool true, .bool true, .agg #[.int .i64 (-4611686018427387904), .int .i64 1], .agg #[.int .i64 (-1), .int .i64 1], .agg #[.int .i64 0, .int .i64 0, .int .i64 2], .int .i64 2, .bool true, .bool true, .bool true, pt g20 2, .int .i64 0, .bool true, .bool true, .bool true, pt g20 0, .agg #[.int .i64 (-4611686018427387903), .int .i64 1], .agg #[.int .i64 (-1), .int .i64 1], .agg #[.int .i64 (-4611686018427387904), .int .i64 1, .int .i64 0], .agg #[.int .i64 (-4611686018427387904), .int .i64 1], .agg #[.int .i64 (-4611686018427387904), .int .i64 1], .bool true, .bool true, .bool true, .agg #[.int .i64 (-4611686018427387904), .int .i64 1], .agg #[.int .i64 1, .int .i64 2], .agg #[.int .i64 0, .int .i64 0, .int .i64 2], .int .i64 2, .bool true, .bool true, .bool true]) (B := Bl w0 [(g20, .cells #[.int .i64 (-4611686018427387903), .int .i64 1, .int .i64 0] 31 (0, 0)), (g19, .cells #[.int .i64 (-4611686018427387904), .int .i64 1] 25 (0, 0)), (g18, .cells #[.int .i64 (-1), .int .i64 1] 25 (0, 0))]) (by kernel_rfl) [20, 19, 18, 7] rfl (by kernel_rfl) rfl (AllFitL.all ⟨fit_free rfl (ok_move rfl rfl),
   fit_free rfl (ok_move rfl rfl),
   fit_on rfl rfl rfl (ok_load25 (k := 1) rfl rfl rfl rfl rfl),
   fit_on rfl rfl rfl (ok_load25 (k := 2) rfl rfl rfl rfl rfl),
   fit_on rfl rfl rfl (ok_call (args := #[.agg #[.int .i64 (-4611686018427387904), .int .i64 1], .agg #[.int .i64 (-1), .int .i64 1]]) rfl Tryd.func14 (by kernel_rfl) rfl rfl (viaB fun w => F.wireloomlaw02_add.calls K _ _ _ _ _ _ _ w e2)),
   fit_on rfl rfl rfl (ok_field31_1 rfl rfl),
   fit_on rfl rfl rfl (ok_eq29 rfl rfl rfl (by decide)),
   fit_free rfl (ok_pick_t rfl rfl rfl),
   fit_free rfl (ok_move rfl rfl),
   fit_on rfl rfl rfl (ok_fieldAddr31_1 rfl rfl),
   fit_on rfl rfl rfl (ok_load29 (k := 0) rfl rfl rfl rfl),
   fit_on rfl rfl rfl (ok_eq29 rfl rfl rfl (by decide)),
   fit_free rfl (ok_pick_t rfl rfl rfl),
   fit_free rfl (ok_move rfl rfl),
   fit_on rfl rfl rfl (ok_fieldAddr31_0 rfl rfl),
   fit_on rfl rfl rfl (ok_load25 (k := 0) rfl rfl rfl rfl rfl),
   fit_on rfl rfl rfl (ok_load25 (k := 2) rfl rfl rfl rfl rfl),
   fit_on rfl rfl rfl (ok_call (args := #[.agg #[.int .i64 (-4611686018427387903), .int .i64 1], .agg #[.int .i64 (-1), .int .i64 1]]) rfl Tryd.func14 (by kernel_rfl) rfl rfl (viaB fun w => F.wireloomlaw02_add.calls K _ _ _ _ _ _ _ w e3)),
   fit_on rfl rfl rfl (ok_field31_0 rfl rfl),
   fit_on rfl rfl rfl (ok_load25 (k := 1) rfl rfl rfl rfl rfl),
   fit_on rfl rfl rfl (ok_eq25 rfl rfl rfl (by simp)),
   fit_free rfl (ok_pick_t rfl rfl rfl),
   fit_free rfl (ok_move rfl rfl),
   fit_on rfl rfl rfl (ok_load25 (k := 1) rfl rfl rfl rfl rfl),
   fit_on rfl rfl rfl (ok_build25 rfl rfl rfl),
   fit_on rfl rfl rfl (ok_call (args := #[.agg #[.int .i64 (-4611686018427387904), .int .i64 1], .agg #[.int .i64 1, .int .i64 2]]) rfl Tryd.func21 (by kernel_rfl) rfl rfl (viaB fun w => F.wireloomlaw02_sub.calls K _ _ _ _ _ _ _ w e4)),
   fit_on rfl rfl rfl (ok_field31_1 rfl rfl),
   fit_on rfl rfl rfl (ok_eq29 rfl rfl rfl (by decide)),
   fit_free rfl (ok_pick_t rfl rfl rfl),
   fit_free rfl (ok_assign rfl rfl),
   trivial⟩) hs hB.drew (fun a w hs hB => ?_)
 replace hs := hs.sub (l := [(6, .bool true)]) (⟨rfl, trivial⟩)
 refine then_n ?_
 replace hs := hs.sub (l := [(6, .bool true)]) (⟨rfl, trivial⟩)
 refine wp_ret ?_
 exact c_ret rfl hs rfl ⟨rfl, hB.below⟩
end Go.Proofs.YtndfjpnpdnnpkaaDoor.Cx
