/- FractionOrder: what the code does, part by part: of the calls' results it is told what the plain law says of them, and it answers true. (printed by wip/order_gen.py) -/
import Derived.Test.YtndfjpnpdnnpkaaDoorCy
import Derived.Test.YtndfjpnpdnnpkaaDoorFs
import Derived.Test.YtndfjpnpdnnpkaaDoorFx8
namespace Go.Proofs.YtndfjpnpdnnpkaaDoor.Cx
open Go Go.Proofs Go.RowKit Go.Proofs.YtndfjpnpdnnpkaaDoorW Go.Proofs.YtndfjpnpdnnpkaaDoorW.PrintWords
set_option maxRecDepth 100000
set_option linter.unusedVariables false
set_option linter.unusedSimpArgs false
theorem o0 (K : Nat) (w0 : World) (hGL : F.GL w0) (x0 x1 y0 y1 z0 z1 aN aD bN bD cN cD x y : Int) (ma : F.wireloomref02_Made.f K x0 x1 = some (aN, aD)) (mb : F.wireloomref02_Made.f K y0 y1 = some (bN, bD)) (mc : F.wireloomref02_Made.f K z0 z1 = some (cN, cD)) (ex : F.fraction_Cmp.f aN aD bN bD = some (x)) (ey : F.fraction_Cmp.f bN bD cN cD = some (y)) (H : ∀ (g10 g9 g8 : Nat), ∀ a w, Sl 215 [(7, .bool true), (8, pt g8 0), (9, pt g9 0), (10, pt g10 0), (11, .int .i64 x), (12, .int .i64 y)] a → Bl w0 [(g10, .cells #[.int .i64 cN, .int .i64 cD] 25 (0, 0)), (g9, .cells #[.int .i64 bN, .int .i64 bD] 25 (0, 0)), (g8, .cells #[.int .i64 aN, .int .i64 aD] 25 (0, 0))] w → (restOf Tryd.f6 9).wp Tryd.prog (bodyPost Tryd.prog Tryd.f6 fun e w' => e = .returned (.bool true) ∧ Below w0.heap.size w0 w') a w) :
  Calls Tryd.prog 6 #[.agg #[.int .i64 x0, .int .i64 x1], .agg #[.int .i64 y0, .int .i64 y1], .agg #[.int .i64 z0, .int .i64 z1]] w0 fun e w' => e = .returned (.bool true) ∧ Below w0.heap.size w0 w' := by
 refine Cx.start (n := 215) Tryd.func6 rfl rfl rfl (fun a hs => ?_)
 have hB := Bl.start w0
 replace hs : Sl 215 [(0, .agg #[.int .i64 x0, .int .i64 x1]), (1, .agg #[.int .i64 y0, .int .i64 y1]), (2, .agg #[.int .i64 z0, .int .i64 z1])] a := hs
 refine c_list ?_
 refine l_box22 rfl rfl rfl rfl rfl hs hB (fun g3 a w hs hB => ?_)
 refine l_box22 rfl rfl rfl rfl rfl hs hB (fun g4 a w hs hB => ?_)
 refine l_box22 rfl rfl rfl rfl rfl hs hB (fun g5 a w hs hB => ?_)
 refine l_fit (v := .bool false) (fit_free rfl (ok_assign rfl rfl)) rfl rfl hs hB (fun a w hs hB => ?_)
 refine l_nil ?_
 replace hs := hs.sub (l := [(6, .bool false), (5, pt g5 0), (4, pt g4 0), (3, pt g3 0)]) (⟨rfl, rfl, rfl, rfl, trivial⟩)
 refine c_list ?_
 refine l_fit (v := .bool true) (fit_free rfl (ok_call (args := #[]) rfl Tryd.func9 (by kernel_rfl) rfl rfl (fun w hB => (F.wireloomlaw02_examples.calls K true w (F.GL.below hGL hB.below) rfl).mono fun e w' ⟨he, hb⟩ => ⟨he, hB.step hb⟩))) rfl rfl hs hB (fun a w hs hB => ?_)
 refine l_fit (v := .bool true) (fit_free rfl (ok_assign rfl rfl)) rfl rfl hs hB (fun a w hs hB => ?_)
 refine l_nil ?_
 replace hs := hs.sub (l := [(7, .bool true), (6, .bool false), (5, pt g5 0), (4, pt g4 0), (3, pt g3 0)]) (⟨rfl, rfl, rfl, rfl, rfl, trivial⟩)
 refine wp_seq ?_
 refine c_list ?_
 refine l_fit (v := .bool true) (fit_free rfl (ok_move rfl rfl)) rfl rfl hs hB (fun a w hs hB => ?_)
 refine l_fit (v := .bool false) (fit_free rfl (ok_not (b := true) rfl rfl)) rfl rfl hs hB (fun a w hs hB => ?_)
 refine l_nil ?_
 replace hs := hs.sub (l := [(22, .bool false), (7, .bool true), (6, .bool false), (5, pt g5 0), (4, pt g4 0), (3, pt g3 0)]) (⟨rfl, rfl, rfl, rfl, rfl, rfl, trivial⟩)
 refine c_false hs rfl ?_
 refine wp_skip ?_
 refine then_n ?_
 replace hs := hs.sub (l := [(7, .bool true), (6, .bool false), (5, pt g5 0), (4, pt g4 0), (3, pt g3 0)]) (⟨rfl, rfl, rfl, rfl, rfl, trivial⟩)
 refine c_list ?_
 refine l_fit (v := pt g3 0) (fit_free rfl (ok_indexAddr22 (j := 0) rfl rfl rfl (by decide))) rfl rfl hs hB (fun a w hs hB => ?_)
 refine l_fit (v := .int .i64 x0) (fit_free rfl (ok_load3 (k := 2) rfl rfl rfl rfl)) rfl rfl hs hB (fun a w hs hB => ?_)
 refine l_fit (v := pt g3 1) (fit_free rfl (ok_indexAddr22 (j := 1) rfl rfl rfl (by decide))) rfl rfl hs hB (fun a w hs hB => ?_)
 refine l_fit (v := .int .i64 x1) (fit_free rfl (ok_load3 (k := 2) rfl rfl rfl rfl)) rfl rfl hs hB (fun a w hs hB => ?_)
 refine l_fit (v := .agg #[.int .i64 aN, .int .i64 aD]) (fit_free rfl (ok_call (args := #[.int .i64 x0, .int .i64 x1]) rfl Tryd.func10 (by kernel_rfl) rfl rfl (viaB fun w => F.wireloomref02_Made.calls K _ _ _ _ w ma))) rfl rfl hs hB (fun a w hs hB => ?_)
 refine l_alloc25 rfl rfl rfl rfl hs hB (fun g8 a w hs hB => ?_)
 refine l_store25 (k := 0) (cs' := #[.int .i64 aN, .int .i64 aD]) rfl rfl rfl rfl rfl rfl rfl rfl hs hB (fun w hB => ?_)
 replace hB : Bl w0 [(g8, .cells #[.int .i64 aN, .int .i64 aD] 25 (0, 0)), (g5, .cells #[.int .i64 z0, .int .i64 z1] 22 (0, 0)), (g4, .cells #[.int .i64 y0, .int .i64 y1] 22 (0, 0)), (g3, .cells #[.int .i64 x0, .int .i64 x1] 22 (0, 0))] w := hB
 refine l_nil ?_
 replace hs := hs.sub (l := [(8, pt g8 0), (7, .bool true), (6, .bool false), (5, pt g5 0), (4, pt g4 0)]) (⟨rfl, rfl, rfl, rfl, rfl, trivial⟩)
 refine c_list ?_
 refine l_fit (v := pt g4 0) (fit_free rfl (ok_indexAddr22 (j := 0) rfl rfl rfl (by decide))) rfl rfl hs hB (fun a w hs hB => ?_)
 refine l_fit (v := .int .i64 y0) (fit_free rfl (ok_load3 (k := 2) rfl rfl rfl rfl)) rfl rfl hs hB (fun a w hs hB => ?_)
 refine l_fit (v := pt g4 1) (fit_free rfl (ok_indexAddr22 (j := 1) rfl rfl rfl (by decide))) rfl rfl hs hB (fun a w hs hB => ?_)
 refine l_fit (v := .int .i64 y1) (fit_free rfl (ok_load3 (k := 2) rfl rfl rfl rfl)) rfl rfl hs hB (fun a w hs hB => ?_)
 refine l_fit (v := .agg #[.int .i64 bN, .int .i64 bD]) (fit_free rfl (ok_call (args := #[.int .i64 y0, .int .i64 y1]) rfl Tryd.func10 (by kernel_rfl) rfl rfl (viaB fun w => F.wireloomref02_Made.calls K _ _ _ _ w mb))) rfl rfl hs hB (fun a w hs hB => ?_)
 refine l_alloc25 rfl rfl rfl rfl hs hB (fun g9 a w hs hB => ?_)
 refine l_store25 (k := 0) (cs' := #[.int .i64 bN, .int .i64 bD]) rfl rfl rfl rfl rfl rfl rfl rfl hs hB (fun w hB => ?_)
 replace hB : Bl w0 [(g9, .cells #[.int .i64 bN, .int .i64 bD] 25 (0, 0)), (g8, .cells #[.int .i64 aN, .int .i64 aD] 25 (0, 0)), (g5, .cells #[.int .i64 z0, .int .i64 z1] 22 (0, 0)), (g4, .cells #[.int .i64 y0, .int .i64 y1] 22 (0, 0)), (g3, .cells #[.int .i64 x0, .int .i64 x1] 22 (0, 0))] w := hB
 refine l_nil ?_
 replace hs := hs.sub (l := [(9, pt g9 0), (8, pt g8 0), (7, .bool true), (6, .bool false), (5, pt g5 0)]) (⟨rfl, rfl, rfl, rfl, rfl, trivial⟩)
 refine c_list ?_
 refine l_fit (v := pt g5 0) (fit_free rfl (ok_indexAddr22 (j := 0) rfl rfl rfl (by decide))) rfl rfl hs hB (fun a w hs hB => ?_)
 refine l_fit (v := .int .i64 z0) (fit_free rfl (ok_load3 (k := 2) rfl rfl rfl rfl)) rfl rfl hs hB (fun a w hs hB => ?_)
 refine l_fit (v := pt g5 1) (fit_free rfl (ok_indexAddr22 (j := 1) rfl rfl rfl (by decide))) rfl rfl hs hB (fun a w hs hB => ?_)
 refine l_fit (v := .int .i64 z1) (fit_free rfl (ok_load3 (k := 2) rfl rfl rfl rfl)) rfl rfl hs hB (fun a w hs hB => ?_)
 refine l_fit (v := .agg #[.int .i64 cN, .int .i64 cD]) (fit_free rfl (ok_call (args := #[.int .i64 z0, .int .i64 z1]) rfl Tryd.func10 (by kernel_rfl) rfl rfl (viaB fun w => F.wireloomref02_Made.calls K _ _ _ _ w mc))) rfl rfl hs hB (fun a w hs hB => ?_)
 refine l_alloc25 rfl rfl rfl rfl hs hB (fun g10 a w hs hB => ?_)
 refine l_store25 (k := 0) (cs' := #[.int .i64 cN, .int .i64 cD]) rfl rfl rfl rfl rfl rfl rfl rfl hs hB (fun w hB => ?_)
 replace hB : Bl w0 [(g10, .cells #[.int .i64 cN, .int .i64 cD] 25 (0, 0)), (g9, .cells #[.int .i64 bN, .int .i64 bD] 25 (0, 0)), (g8, .cells #[.int .i64 aN, .int .i64 aD] 25 (0, 0)), (g5, .cells #[.int .i64 z0, .int .i64 z1] 22 (0, 0)), (g4, .cells #[.int .i64 y0, .int .i64 y1] 22 (0, 0)), (g3, .cells #[.int .i64 x0, .int .i64 x1] 22 (0, 0))] w := hB
 refine l_nil ?_
 replace hs := hs.sub (l := [(10, pt g10 0), (9, pt g9 0), (8, pt g8 0), (7, .bool true), (6, .bool false)]) (⟨rfl, rfl, rfl, rfl, rfl, trivial⟩)
 refine c_list ?_
 refine l_fit (v := .agg #[.int .i64 aN, .int .i64 aD]) (fit_free rfl (ok_load25 (k := 2) rfl rfl rfl rfl rfl)) rfl rfl hs hB (fun a w hs hB => ?_)
 refine l_fit (v := .agg #[.int .i64 bN, .int .i64 bD]) (fit_free rfl (ok_load25 (k := 1) rfl rfl rfl rfl rfl)) rfl rfl hs hB (fun a w hs hB => ?_)
 refine l_fit (v := .int .i64 x) (fit_free rfl (ok_call (args := #[.agg #[.int .i64 aN, .int .i64 aD], .agg #[.int .i64 bN, .int .i64 bD]]) rfl Tryd.func13 (by kernel_rfl) rfl rfl (viaB fun w => F.fraction_Cmp.calls _ _ _ _ _ w ex))) rfl rfl hs hB (fun a w hs hB => ?_)
 refine l_fit (v := .int .i64 x) (fit_free rfl (ok_assign rfl rfl)) rfl rfl hs hB (fun a w hs hB => ?_)
 refine l_nil ?_
 replace hs := hs.sub (l := [(11, .int .i64 x), (10, pt g10 0), (9, pt g9 0), (8, pt g8 0), (7, .bool true), (6, .bool false)]) (⟨rfl, rfl, rfl, rfl, rfl, rfl, trivial⟩)
 refine c_list ?_
 refine l_fit (v := .agg #[.int .i64 bN, .int .i64 bD]) (fit_free rfl (ok_load25 (k := 1) rfl rfl rfl rfl rfl)) rfl rfl hs hB (fun a w hs hB => ?_)
 refine l_fit (v := .agg #[.int .i64 cN, .int .i64 cD]) (fit_free rfl (ok_load25 (k := 0) rfl rfl rfl rfl rfl)) rfl rfl hs hB (fun a w hs hB => ?_)
 refine l_fit (v := .int .i64 y) (fit_free rfl (ok_call (args := #[.agg #[.int .i64 bN, .int .i64 bD], .agg #[.int .i64 cN, .int .i64 cD]]) rfl Tryd.func13 (by kernel_rfl) rfl rfl (viaB fun w => F.fraction_Cmp.calls _ _ _ _ _ w ey))) rfl rfl hs hB (fun a w hs hB => ?_)
 refine l_fit (v := .int .i64 y) (fit_free rfl (ok_assign rfl rfl)) rfl rfl hs hB (fun a w hs hB => ?_)
 refine l_nil ?_
 replace hs := hs.sub (l := [(12, .int .i64 y), (11, .int .i64 x), (10, pt g10 0), (9, pt g9 0), (8, pt g8 0), (7, .bool true), (6, .bool false)]) (⟨rfl, rfl, rfl, rfl, rfl, rfl, rfl, trivial⟩)
 replace hs := hs.sub (l := [(7, .bool true), (8, pt g8 0), (9, pt g9 0), (10, pt g10 0), (11, .int .i64 x), (12, .int .i64 y)]) (⟨rfl, rfl, rfl, rfl, rfl, rfl, trivial⟩)
 replace hB : Bl w0 [(g10, .cells #[.int .i64 cN, .int .i64 cD] 25 (0, 0)), (g9, .cells #[.int .i64 bN, .int .i64 bD] 25 (0, 0)), (g8, .cells #[.int .i64 aN, .int .i64 aD] 25 (0, 0))] w := hB.keep [true, true, true, false, false, false]
 exact H g10 g9 g8  a w hs hB

theorem o9mm (K : Nat) (w0 : World) (g10 g9 g8 : Nat) (aN aD cN cD bN bD y z : Int) (e0 : F.fraction_Cmp.f aN aD aN aD = some (0)) (e1 : F.fraction_Cmp.f bN bD aN aD = some (1)) (hne : (decide (aN = bN) && decide (aD = bD)) = false) (hy : y ≤ 0) (e2 : F.fraction_Cmp.f aN aD cN cD = some (z)) (hz : z ≤ 0) (H : ∀ a w, Sl 215 [(7, .bool true), (8, pt g8 0), (9, pt g9 0), (10, pt g10 0), (11, .int .i64 (-1))] a → Bl w0 [(g10, .cells #[.int .i64 cN, .int .i64 cD] 25 (0, 0)), (g9, .cells #[.int .i64 bN, .int .i64 bD] 25 (0, 0)), (g8, .cells #[.int .i64 aN, .int .i64 aD] 25 (0, 0))] w → (restOf Tryd.f6 11).wp Tryd.prog (bodyPost Tryd.prog Tryd.f6 fun e w' => e = .returned (.bool true) ∧ Below w0.heap.size w0 w') a w) :
  ∀ a w, Sl 215 [(7, .bool true), (8, pt g8 0), (9, pt g9 0), (10, pt g10 0), (11, .int .i64 (-1)), (12, .int .i64 y)] a → Bl w0 [(g10, .cells #[.int .i64 cN, .int .i64 cD] 25 (0, 0)), (g9, .cells #[.int .i64 bN, .int .i64 bD] 25 (0, 0)), (g8, .cells #[.int .i64 aN, .int .i64 aD] 25 (0, 0))] w → (restOf Tryd.f6 9).wp Tryd.prog (bodyPost Tryd.prog Tryd.f6 fun e w' => e = .returned (.bool true) ∧ Below w0.heap.size w0 w') a w := by
 intro a w hs hB
 conv => arg 2; whnf
 refine wp_seq ?_
 refine c_list ?_
 refine l_fit (v := .agg #[.int .i64 aN, .int .i64 aD]) (fit_free rfl (ok_load25 (k := 2) rfl rfl rfl rfl rfl)) rfl rfl hs hB (fun a w hs hB => ?_)
 refine l_fit (v := .agg #[.int .i64 aN, .int .i64 aD]) (fit_free rfl (ok_load25 (k := 2) rfl rfl rfl rfl rfl)) rfl rfl hs hB (fun a w hs hB => ?_)
 refine l_fit (v := .int .i64 0) (fit_free rfl (ok_call (args := #[.agg #[.int .i64 aN, .int .i64 aD], .agg #[.int .i64 aN, .int .i64 aD]]) rfl Tryd.func13 (by kernel_rfl) rfl rfl (viaB fun w => F.fraction_Cmp.calls _ _ _ _ _ w e0))) rfl rfl hs hB (fun a w hs hB => ?_)
 refine l_fit (v := .bool false) (fit_free rfl (ok_neq3 rfl rfl rfl (by decide))) rfl rfl hs hB (fun a w hs hB => ?_)
 refine l_fit (v := .bool false) (fit_free rfl (ok_move rfl rfl)) rfl rfl hs hB (fun a w hs hB => ?_)
 refine l_fit (v := .agg #[.int .i64 bN, .int .i64 bD]) (fit_on rfl rfl rfl (ok_load25 (k := 1) rfl rfl rfl rfl rfl)) rfl rfl hs hB (fun a w hs hB => ?_)
 refine l_fit (v := .agg #[.int .i64 aN, .int .i64 aD]) (fit_on rfl rfl rfl (ok_load25 (k := 2) rfl rfl rfl rfl rfl)) rfl rfl hs hB (fun a w hs hB => ?_)
 refine l_fit (v := .int .i64 1) (fit_on rfl rfl rfl (ok_call (args := #[.agg #[.int .i64 bN, .int .i64 bD], .agg #[.int .i64 aN, .int .i64 aD]]) rfl Tryd.func13 (by kernel_rfl) rfl rfl (viaB fun w => F.fraction_Cmp.calls _ _ _ _ _ w e1))) rfl rfl hs hB (fun a w hs hB => ?_)
 refine l_fit (v := .int .i64 (-1)) (fit_on rfl rfl rfl (ok_move rfl rfl)) rfl rfl hs hB (fun a w hs hB => ?_)
 refine l_fit (v := .int .i64 1) (fit_on rfl rfl rfl (ok_neg3 rfl rfl (by simp [wrap64]))) rfl rfl hs hB (fun a w hs hB => ?_)
 refine l_fit (v := .bool false) (fit_on rfl rfl rfl (ok_neq3 rfl rfl rfl (by decide))) rfl rfl hs hB (fun a w hs hB => ?_)
 refine l_fit (v := .bool false) (fit_free rfl (ok_pick_f rfl rfl rfl)) rfl rfl hs hB (fun a w hs hB => ?_)
 refine l_fit (v := .bool false) (fit_free rfl (ok_move rfl rfl)) rfl rfl hs hB (fun a w hs hB => ?_)
 refine l_fit (v := .int .i64 (-1)) (fit_on rfl rfl rfl (ok_move rfl rfl)) rfl rfl hs hB (fun a w hs hB => ?_)
 refine l_fit (v := .bool false) (fit_on rfl rfl rfl (ok_lss3 rfl rfl rfl (by decide))) rfl rfl hs hB (fun a w hs hB => ?_)
 refine l_fit (v := .bool false) (fit_free rfl (ok_pick_f rfl rfl rfl)) rfl rfl hs hB (fun a w hs hB => ?_)
 refine l_fit (v := .bool false) (fit_free rfl (ok_move rfl rfl)) rfl rfl hs hB (fun a w hs hB => ?_)
 refine l_fit (v := .int .i64 (-1)) (fit_on rfl rfl rfl (ok_move rfl rfl)) rfl rfl hs hB (fun a w hs hB => ?_)
 refine l_fit (v := .bool false) (fit_on rfl rfl rfl (ok_gtr3 rfl rfl rfl (by decide))) rfl rfl hs hB (fun a w hs hB => ?_)
 refine l_fit (v := .bool false) (fit_free rfl (ok_pick_f rfl rfl rfl)) rfl rfl hs hB (fun a w hs hB => ?_)
 refine l_fit (v := .bool false) (fit_free rfl (ok_move rfl rfl)) rfl rfl hs hB (fun a w hs hB => ?_)
 refine l_fit (v := .int .i64 (-1)) (fit_on rfl rfl rfl (ok_move rfl rfl)) rfl rfl hs hB (fun a w hs hB => ?_)
 refine l_fit (v := .bool false) (fit_on rfl rfl rfl (ok_eq3 rfl rfl rfl (by decide))) rfl rfl hs hB (fun a w hs hB => ?_)
 refine l_fit (v := .agg #[.int .i64 aN, .int .i64 aD]) (fit_on rfl rfl rfl (ok_load25 (k := 2) rfl rfl rfl rfl rfl)) rfl rfl hs hB (fun a w hs hB => ?_)
 refine l_fit (v := .agg #[.int .i64 bN, .int .i64 bD]) (fit_on rfl rfl rfl (ok_load25 (k := 1) rfl rfl rfl rfl rfl)) rfl rfl hs hB (fun a w hs hB => ?_)
 refine l_fit (v := .bool false) (fit_on rfl rfl rfl (ok_eq25 rfl rfl rfl (hne))) rfl rfl hs hB (fun a w hs hB => ?_)
 refine l_fit (v := .bool false) (fit_on rfl rfl rfl (ok_neq4 rfl rfl rfl (rfl))) rfl rfl hs hB (fun a w hs hB => ?_)
 refine l_fit (v := .bool false) (fit_free rfl (ok_pick_f rfl rfl rfl)) rfl rfl hs hB (fun a w hs hB => ?_)
 refine l_fit (v := .bool false) (fit_free rfl (ok_move rfl rfl)) rfl rfl hs hB (fun a w hs hB => ?_)
 refine l_fit (v := .int .i64 (-1)) (fit_on rfl rfl rfl (ok_move rfl rfl)) rfl rfl hs hB (fun a w hs hB => ?_)
 refine l_fit (v := .bool true) (fit_on rfl rfl rfl (ok_leq3 rfl rfl rfl (by decide))) rfl rfl hs hB (fun a w hs hB => ?_)
 refine l_fit (v := .bool true) (fit_on rfl rfl rfl (ok_move rfl rfl)) rfl rfl hs hB (fun a w hs hB => ?_)
 refine l_fit (v := .int .i64 y) (fit_on rfl rfl rfl (ok_move rfl rfl)) rfl rfl hs hB (fun a w hs hB => ?_)
 refine l_fit (v := .bool true) (fit_on rfl rfl rfl (ok_leq3 rfl rfl rfl (by simp <;> omega))) rfl rfl hs hB (fun a w hs hB => ?_)
 refine l_fit (v := .bool true) (fit_on rfl rfl rfl (ok_pick_t rfl rfl rfl)) rfl rfl hs hB (fun a w hs hB => ?_)
 refine l_fit (v := .bool true) (fit_on rfl rfl rfl (ok_move rfl rfl)) rfl rfl hs hB (fun a w hs hB => ?_)
 refine l_fit (v := .agg #[.int .i64 aN, .int .i64 aD]) (fit_on rfl rfl rfl (ok_load25 (k := 2) rfl rfl rfl rfl rfl)) rfl rfl hs hB (fun a w hs hB => ?_)
 refine l_fit (v := .agg #[.int .i64 cN, .int .i64 cD]) (fit_on rfl rfl rfl (ok_load25 (k := 0) rfl rfl rfl rfl rfl)) rfl rfl hs hB (fun a w hs hB => ?_)
 refine l_fit (v := .int .i64 z) (fit_on rfl rfl rfl (ok_call (args := #[.agg #[.int .i64 aN, .int .i64 aD], .agg #[.int .i64 cN, .int .i64 cD]]) rfl Tryd.func13 (by kernel_rfl) rfl rfl (viaB fun w => F.fraction_Cmp.calls _ _ _ _ _ w e2))) rfl rfl hs hB (fun a w hs hB => ?_)
 refine l_fit (v := .bool false) (fit_on rfl rfl rfl (ok_gtr3 rfl rfl rfl (by simp <;> omega))) rfl rfl hs hB (fun a w hs hB => ?_)
 refine l_fit (v := .bool false) (fit_on rfl rfl rfl (ok_pick_t rfl rfl rfl)) rfl rfl hs hB (fun a w hs hB => ?_)
 refine l_fit (v := .bool false) (fit_free rfl (ok_pick_f rfl rfl rfl)) rfl rfl hs hB (fun a w hs hB => ?_)
 refine l_fit (v := .bool false) (fit_free rfl (ok_move rfl rfl)) rfl rfl hs hB (fun a w hs hB => ?_)
 refine l_fit (v := .int .i64 (-1)) (fit_on rfl rfl rfl (ok_move rfl rfl)) rfl rfl hs hB (fun a w hs hB => ?_)
 refine l_fit (v := .bool false) (fit_on rfl rfl rfl (ok_geq3 rfl rfl rfl (by decide))) rfl rfl hs hB (fun a w hs hB => ?_)
 refine l_fit (v := .bool false) (fit_on rfl rfl rfl (ok_move rfl rfl)) rfl rfl hs hB (fun a w hs hB => ?_)
 refine l_fit (v := undef) (fit_off rfl rfl rfl rfl) rfl rfl hs hB (fun a w hs hB => ?_)
 refine l_fit (v := undef) (fit_off rfl rfl rfl rfl) rfl rfl hs hB (fun a w hs hB => ?_)
 refine l_fit (v := .bool false) (fit_on rfl rfl rfl (ok_pick_f rfl rfl rfl)) rfl rfl hs hB (fun a w hs hB => ?_)
 refine l_fit (v := .bool false) (fit_on rfl rfl rfl (ok_move rfl rfl)) rfl rfl hs hB (fun a w hs hB => ?_)
 refine l_fit (v := undef) (fit_off rfl rfl rfl rfl) rfl rfl hs hB (fun a w hs hB => ?_)
 refine l_fit (v := undef) (fit_off rfl rfl rfl rfl) rfl rfl hs hB (fun a w hs hB => ?_)
 refine l_fit (v := undef) (fit_off rfl rfl rfl rfl) rfl rfl hs hB (fun a w hs hB => ?_)
 refine l_fit (v := undef) (fit_off rfl rfl rfl rfl) rfl rfl hs hB (fun a w hs hB => ?_)
 refine l_fit (v := .bool false) (fit_on rfl rfl rfl (ok_pick_f rfl rfl rfl)) rfl rfl hs hB (fun a w hs hB => ?_)
 refine l_fit (v := .bool false) (fit_free rfl (ok_pick_f rfl rfl rfl)) rfl rfl hs hB (fun a w hs hB => ?_)
 refine l_nil ?_
 replace hs := hs.sub (l := [(99, .bool false), (7, .bool true), (8, pt g8 0), (9, pt g9 0), (10, pt g10 0), (11, .int .i64 (-1))]) (⟨rfl, rfl, rfl, rfl, rfl, rfl, trivial⟩)
 refine c_false hs rfl ?_
 refine wp_skip ?_
 refine then_n ?_
 replace hs := hs.sub (l := [(7, .bool true), (8, pt g8 0), (9, pt g9 0), (10, pt g10 0), (11, .int .i64 (-1))]) (⟨rfl, rfl, rfl, rfl, rfl, trivial⟩)
 replace hs := hs.sub (l := [(7, .bool true), (8, pt g8 0), (9, pt g9 0), (10, pt g10 0), (11, .int .i64 (-1))]) (⟨rfl, rfl, rfl, rfl, rfl, trivial⟩)
 exact H  a w hs hB

theorem o9mp (K : Nat) (w0 : World) (g10 g9 g8 : Nat) (aN aD cN cD bN bD y : Int) (e0 : F.fraction_Cmp.f aN aD aN aD = some (0)) (e1 : F.fraction_Cmp.f bN bD aN aD = some (1)) (hne : (decide (aN = bN) && decide (aD = bD)) = false) (hy : y > 0) (H : ∀ a w, Sl 215 [(7, .bool true), (8, pt g8 0), (9, pt g9 0), (10, pt g10 0), (11, .int .i64 (-1))] a → Bl w0 [(g10, .cells #[.int .i64 cN, .int .i64 cD] 25 (0, 0)), (g9, .cells #[.int .i64 bN, .int .i64 bD] 25 (0, 0)), (g8, .cells #[.int .i64 aN, .int .i64 aD] 25 (0, 0))] w → (restOf Tryd.f6 11).wp Tryd.prog (bodyPost Tryd.prog Tryd.f6 fun e w' => e = .returned (.bool true) ∧ Below w0.heap.size w0 w') a w) :
  ∀ a w, Sl 215 [(7, .bool true), (8, pt g8 0), (9, pt g9 0), (10, pt g10 0), (11, .int .i64 (-1)), (12, .int .i64 y)] a → Bl w0 [(g10, .cells #[.int .i64 cN, .int .i64 cD] 25 (0, 0)), (g9, .cells #[.int .i64 bN, .int .i64 bD] 25 (0, 0)), (g8, .cells #[.int .i64 aN, .int .i64 aD] 25 (0, 0))] w → (restOf Tryd.f6 9).wp Tryd.prog (bodyPost Tryd.prog Tryd.f6 fun e w' => e = .returned (.bool true) ∧ Below w0.heap.size w0 w') a w := by
 intro a w hs hB
 conv => arg 2; whnf
 refine wp_seq ?_
 refine c_list ?_
 refine l_fit (v := .agg #[.int .i64 aN, .int .i64 aD]) (fit_free rfl (ok_load25 (k := 2) rfl rfl rfl rfl rfl)) rfl rfl hs hB (fun a w hs hB => ?_)
 refine l_fit (v := .agg #[.int .i64 aN, .int .i64 aD]) (fit_free rfl (ok_load25 (k := 2) rfl rfl rfl rfl rfl)) rfl rfl hs hB (fun a w hs hB => ?_)
 refine l_fit (v := .int .i64 0) (fit_free rfl (ok_call (args := #[.agg #[.int .i64 aN, .int .i64 aD], .agg #[.int .i64 aN, .int .i64 aD]]) rfl Tryd.func13 (by kernel_rfl) rfl rfl (viaB fun w => F.fraction_Cmp.calls _ _ _ _ _ w e0))) rfl rfl hs hB (fun a w hs hB => ?_)
 refine l_fit (v := .bool false) (fit_free rfl (ok_neq3 rfl rfl rfl (by decide))) rfl rfl hs hB (fun a w hs hB => ?_)
 refine l_fit (v := .bool false) (fit_free rfl (ok_move rfl rfl)) rfl rfl hs hB (fun a w hs hB => ?_)
 refine l_fit (v := .agg #[.int .i64 bN, .int .i64 bD]) (fit_on rfl rfl rfl (ok_load25 (k := 1) rfl rfl rfl rfl rfl)) rfl rfl hs hB (fun a w hs hB => ?_)
 refine l_fit (v := .agg #[.int .i64 aN, .int .i64 aD]) (fit_on rfl rfl rfl (ok_load25 (k := 2) rfl rfl rfl rfl rfl)) rfl rfl hs hB (fun a w hs hB => ?_)
 refine l_fit (v := .int .i64 1) (fit_on rfl rfl rfl (ok_call (args := #[.agg #[.int .i64 bN, .int .i64 bD], .agg #[.int .i64 aN, .int .i64 aD]]) rfl Tryd.func13 (by kernel_rfl) rfl rfl (viaB fun w => F.fraction_Cmp.calls _ _ _ _ _ w e1))) rfl rfl hs hB (fun a w hs hB => ?_)
 refine l_fit (v := .int .i64 (-1)) (fit_on rfl rfl rfl (ok_move rfl rfl)) rfl rfl hs hB (fun a w hs hB => ?_)
 refine l_fit (v := .int .i64 1) (fit_on rfl rfl rfl (ok_neg3 rfl rfl (by simp [wrap64]))) rfl rfl hs hB (fun a w hs hB => ?_)
 refine l_fit (v := .bool false) (fit_on rfl rfl rfl (ok_neq3 rfl rfl rfl (by decide))) rfl rfl hs hB (fun a w hs hB => ?_)
 refine l_fit (v := .bool false) (fit_free rfl (ok_pick_f rfl rfl rfl)) rfl rfl hs hB (fun a w hs hB => ?_)
 refine l_fit (v := .bool false) (fit_free rfl (ok_move rfl rfl)) rfl rfl hs hB (fun a w hs hB => ?_)
 refine l_fit (v := .int .i64 (-1)) (fit_on rfl rfl rfl (ok_move rfl rfl)) rfl rfl hs hB (fun a w hs hB => ?_)
 refine l_fit (v := .bool false) (fit_on rfl rfl rfl (ok_lss3 rfl rfl rfl (by decide))) rfl rfl hs hB (fun a w hs hB => ?_)
 refine l_fit (v := .bool false) (fit_free rfl (ok_pick_f rfl rfl rfl)) rfl rfl hs hB (fun a w hs hB => ?_)
 refine l_fit (v := .bool false) (fit_free rfl (ok_move rfl rfl)) rfl rfl hs hB (fun a w hs hB => ?_)
 refine l_fit (v := .int .i64 (-1)) (fit_on rfl rfl rfl (ok_move rfl rfl)) rfl rfl hs hB (fun a w hs hB => ?_)
 refine l_fit (v := .bool false) (fit_on rfl rfl rfl (ok_gtr3 rfl rfl rfl (by decide))) rfl rfl hs hB (fun a w hs hB => ?_)
 refine l_fit (v := .bool false) (fit_free rfl (ok_pick_f rfl rfl rfl)) rfl rfl hs hB (fun a w hs hB => ?_)
 refine l_fit (v := .bool false) (fit_free rfl (ok_move rfl rfl)) rfl rfl hs hB (fun a w hs hB => ?_)
 refine l_fit (v := .int .i64 (-1)) (fit_on rfl rfl rfl (ok_move rfl rfl)) rfl rfl hs hB (fun a w hs hB => ?_)
 refine l_fit (v := .bool false) (fit_on rfl rfl rfl (ok_eq3 rfl rfl rfl (by decide))) rfl rfl hs hB (fun a w hs hB => ?_)
 refine l_fit (v := .agg #[.int .i64 aN, .int .i64 aD]) (fit_on rfl rfl rfl (ok_load25 (k := 2) rfl rfl rfl rfl rfl)) rfl rfl hs hB (fun a w hs hB => ?_)
 refine l_fit (v := .agg #[.int .i64 bN, .int .i64 bD]) (fit_on rfl rfl rfl (ok_load25 (k := 1) rfl rfl rfl rfl rfl)) rfl rfl hs hB (fun a w hs hB => ?_)
 refine l_fit (v := .bool false) (fit_on rfl rfl rfl (ok_eq25 rfl rfl rfl (hne))) rfl rfl hs hB (fun a w hs hB => ?_)
 refine l_fit (v := .bool false) (fit_on rfl rfl rfl (ok_neq4 rfl rfl rfl (rfl))) rfl rfl hs hB (fun a w hs hB => ?_)
 refine l_fit (v := .bool false) (fit_free rfl (ok_pick_f rfl rfl rfl)) rfl rfl hs hB (fun a w hs hB => ?_)
 refine l_fit (v := .bool false) (fit_free rfl (ok_move rfl rfl)) rfl rfl hs hB (fun a w hs hB => ?_)
 refine l_fit (v := .int .i64 (-1)) (fit_on rfl rfl rfl (ok_move rfl rfl)) rfl rfl hs hB (fun a w hs hB => ?_)
 refine l_fit (v := .bool true) (fit_on rfl rfl rfl (ok_leq3 rfl rfl rfl (by decide))) rfl rfl hs hB (fun a w hs hB => ?_)
 refine l_fit (v := .bool true) (fit_on rfl rfl rfl (ok_move rfl rfl)) rfl rfl hs hB (fun a w hs hB => ?_)
 refine l_fit (v := .int .i64 y) (fit_on rfl rfl rfl (ok_move rfl rfl)) rfl rfl hs hB (fun a w hs hB => ?_)
 refine l_fit (v := .bool false) (fit_on rfl rfl rfl (ok_leq3 rfl rfl rfl (by simp <;> omega))) rfl rfl hs hB (fun a w hs hB => ?_)
 refine l_fit (v := .bool false) (fit_on rfl rfl rfl (ok_pick_t rfl rfl rfl)) rfl rfl hs hB (fun a w hs hB => ?_)
 refine l_fit (v := .bool false) (fit_on rfl rfl rfl (ok_move rfl rfl)) rfl rfl hs hB (fun a w hs hB => ?_)
 refine l_fit (v := undef) (fit_off rfl rfl rfl rfl) rfl rfl hs hB (fun a w hs hB => ?_)
 refine l_fit (v := undef) (fit_off rfl rfl rfl rfl) rfl rfl hs hB (fun a w hs hB => ?_)
 refine l_fit (v := undef) (fit_off rfl rfl rfl rfl) rfl rfl hs hB (fun a w hs hB => ?_)
 refine l_fit (v := undef) (fit_off rfl rfl rfl rfl) rfl rfl hs hB (fun a w hs hB => ?_)
 refine l_fit (v := .bool false) (fit_on rfl rfl rfl (ok_pick_f rfl rfl rfl)) rfl rfl hs hB (fun a w hs hB => ?_)
 refine l_fit (v := .bool false) (fit_free rfl (ok_pick_f rfl rfl rfl)) rfl rfl hs hB (fun a w hs hB => ?_)
 refine l_fit (v := .bool false) (fit_free rfl (ok_move rfl rfl)) rfl rfl hs hB (fun a w hs hB => ?_)
 refine l_fit (v := .int .i64 (-1)) (fit_on rfl rfl rfl (ok_move rfl rfl)) rfl rfl hs hB (fun a w hs hB => ?_)
 refine l_fit (v := .bool false) (fit_on rfl rfl rfl (ok_geq3 rfl rfl rfl (by decide))) rfl rfl hs hB (fun a w hs hB => ?_)
 refine l_fit (v := .bool false) (fit_on rfl rfl rfl (ok_move rfl rfl)) rfl rfl hs hB (fun a w hs hB => ?_)
 refine l_fit (v := undef) (fit_off rfl rfl rfl rfl) rfl rfl hs hB (fun a w hs hB => ?_)
 refine l_fit (v := undef) (fit_off rfl rfl rfl rfl) rfl rfl hs hB (fun a w hs hB => ?_)
 refine l_fit (v := .bool false) (fit_on rfl rfl rfl (ok_pick_f rfl rfl rfl)) rfl rfl hs hB (fun a w hs hB => ?_)
 refine l_fit (v := .bool false) (fit_on rfl rfl rfl (ok_move rfl rfl)) rfl rfl hs hB (fun a w hs hB => ?_)
 refine l_fit (v := undef) (fit_off rfl rfl rfl rfl) rfl rfl hs hB (fun a w hs hB => ?_)
 refine l_fit (v := undef) (fit_off rfl rfl rfl rfl) rfl rfl hs hB (fun a w hs hB => ?_)
 refine l_fit (v := undef) (fit_off rfl rfl rfl rfl) rfl rfl hs hB (fun a w hs hB => ?_)
 refine l_fit (v := undef) (fit_off rfl rfl rfl rfl) rfl rfl hs hB (fun a w hs hB => ?_)
 refine l_fit (v := .bool false) (fit_on rfl rfl rfl (ok_pick_f rfl rfl rfl)) rfl rfl hs hB (fun a w hs hB => ?_)
 refine l_fit (v := .bool false) (fit_free rfl (ok_pick_f rfl rfl rfl)) rfl rfl hs hB (fun a w hs hB => ?_)
 refine l_nil ?_
 replace hs := hs.sub (l := [(99, .bool false), (7, .bool true), (8, pt g8 0), (9, pt g9 0), (10, pt g10 0), (11, .int .i64 (-1))]) (⟨rfl, rfl, rfl, rfl, rfl, rfl, trivial⟩)
 refine c_false hs rfl ?_
 refine wp_skip ?_
 refine then_n ?_
 replace hs := hs.sub (l := [(7, .bool true), (8, pt g8 0), (9, pt g9 0), (10, pt g10 0), (11, .int .i64 (-1))]) (⟨rfl, rfl, rfl, rfl, rfl, trivial⟩)
 replace hs := hs.sub (l := [(7, .bool true), (8, pt g8 0), (9, pt g9 0), (10, pt g10 0), (11, .int .i64 (-1))]) (⟨rfl, rfl, rfl, rfl, rfl, trivial⟩)
 exact H  a w hs hB

theorem o9zm (K : Nat) (w0 : World) (g10 g9 g8 : Nat) (aN aD cN cD y : Int) (e0 : F.fraction_Cmp.f aN aD aN aD = some (0)) (hy : y < 0) (e2 : F.fraction_Cmp.f aN aD cN cD = some (y)) (H : ∀ a w, Sl 215 [(7, .bool true), (8, pt g8 0), (9, pt g9 0), (10, pt g10 0), (11, .int .i64 0)] a → Bl w0 [(g10, .cells #[.int .i64 cN, .int .i64 cD] 25 (0, 0)), (g9, .cells #[.int .i64 aN, .int .i64 aD] 25 (0, 0)), (g8, .cells #[.int .i64 aN, .int .i64 aD] 25 (0, 0))] w → (restOf Tryd.f6 11).wp Tryd.prog (bodyPost Tryd.prog Tryd.f6 fun e w' => e = .returned (.bool true) ∧ Below w0.heap.size w0 w') a w) :
  ∀ a w, Sl 215 [(7, .bool true), (8, pt g8 0), (9, pt g9 0), (10, pt g10 0), (11, .int .i64 0), (12, .int .i64 y)] a → Bl w0 [(g10, .cells #[.int .i64 cN, .int .i64 cD] 25 (0, 0)), (g9, .cells #[.int .i64 aN, .int .i64 aD] 25 (0, 0)), (g8, .cells #[.int .i64 aN, .int .i64 aD] 25 (0, 0))] w → (restOf Tryd.f6 9).wp Tryd.prog (bodyPost Tryd.prog Tryd.f6 fun e w' => e = .returned (.bool true) ∧ Below w0.heap.size w0 w') a w := by
 intro a w hs hB
 conv => arg 2; whnf
 refine wp_seq ?_
 refine c_list ?_
 refine l_fit (v := .agg #[.int .i64 aN, .int .i64 aD]) (fit_free rfl (ok_load25 (k := 2) rfl rfl rfl rfl rfl)) rfl rfl hs hB (fun a w hs hB => ?_)
 refine l_fit (v := .agg #[.int .i64 aN, .int .i64 aD]) (fit_free rfl (ok_load25 (k := 2) rfl rfl rfl rfl rfl)) rfl rfl hs hB (fun a w hs hB => ?_)
 refine l_fit (v := .int .i64 0) (fit_free rfl (ok_call (args := #[.agg #[.int .i64 aN, .int .i64 aD], .agg #[.int .i64 aN, .int .i64 aD]]) rfl Tryd.func13 (by kernel_rfl) rfl rfl (viaB fun w => F.fraction_Cmp.calls _ _ _ _ _ w e0))) rfl rfl hs hB (fun a w hs hB => ?_)
 refine l_fit (v := .bool false) (fit_free rfl (ok_neq3 rfl rfl rfl (by decide))) rfl rfl hs hB (fun a w hs hB => ?_)
 refine l_fit (v := .bool false) (fit_free rfl (ok_move rfl rfl)) rfl rfl hs hB (fun a w hs hB => ?_)
 refine l_fit (v := .agg #[.int .i64 aN, .int .i64 aD]) (fit_on rfl rfl rfl (ok_load25 (k := 1) rfl rfl rfl rfl rfl)) rfl rfl hs hB (fun a w hs hB => ?_)
 refine l_fit (v := .agg #[.int .i64 aN, .int .i64 aD]) (fit_on rfl rfl rfl (ok_load25 (k := 2) rfl rfl rfl rfl rfl)) rfl rfl hs hB (fun a w hs hB => ?_)
 refine l_fit (v := .int .i64 0) (fit_on rfl rfl rfl (ok_call (args := #[.agg #[.int .i64 aN, .int .i64 aD], .agg #[.int .i64 aN, .int .i64 aD]]) rfl Tryd.func13 (by kernel_rfl) rfl rfl (viaB fun w => F.fraction_Cmp.calls _ _ _ _ _ w e0))) rfl rfl hs hB (fun a w hs hB => ?_)
 refine l_fit (v := .int .i64 0) (fit_on rfl rfl rfl (ok_move rfl rfl)) rfl rfl hs hB (fun a w hs hB => ?_)
 refine l_fit (v := .int .i64 0) (fit_on rfl rfl rfl (ok_neg3 rfl rfl (by simp [wrap64]))) rfl rfl hs hB (fun a w hs hB => ?_)
 refine l_fit (v := .bool false) (fit_on rfl rfl rfl (ok_neq3 rfl rfl rfl (by decide))) rfl rfl hs hB (fun a w hs hB => ?_)
 refine l_fit (v := .bool false) (fit_free rfl (ok_pick_f rfl rfl rfl)) rfl rfl hs hB (fun a w hs hB => ?_)
 refine l_fit (v := .bool false) (fit_free rfl (ok_move rfl rfl)) rfl rfl hs hB (fun a w hs hB => ?_)
 refine l_fit (v := .int .i64 0) (fit_on rfl rfl rfl (ok_move rfl rfl)) rfl rfl hs hB (fun a w hs hB => ?_)
 refine l_fit (v := .bool false) (fit_on rfl rfl rfl (ok_lss3 rfl rfl rfl (by decide))) rfl rfl hs hB (fun a w hs hB => ?_)
 refine l_fit (v := .bool false) (fit_free rfl (ok_pick_f rfl rfl rfl)) rfl rfl hs hB (fun a w hs hB => ?_)
 refine l_fit (v := .bool false) (fit_free rfl (ok_move rfl rfl)) rfl rfl hs hB (fun a w hs hB => ?_)
 refine l_fit (v := .int .i64 0) (fit_on rfl rfl rfl (ok_move rfl rfl)) rfl rfl hs hB (fun a w hs hB => ?_)
 refine l_fit (v := .bool false) (fit_on rfl rfl rfl (ok_gtr3 rfl rfl rfl (by decide))) rfl rfl hs hB (fun a w hs hB => ?_)
 refine l_fit (v := .bool false) (fit_free rfl (ok_pick_f rfl rfl rfl)) rfl rfl hs hB (fun a w hs hB => ?_)
 refine l_fit (v := .bool false) (fit_free rfl (ok_move rfl rfl)) rfl rfl hs hB (fun a w hs hB => ?_)
 refine l_fit (v := .int .i64 0) (fit_on rfl rfl rfl (ok_move rfl rfl)) rfl rfl hs hB (fun a w hs hB => ?_)
 refine l_fit (v := .bool true) (fit_on rfl rfl rfl (ok_eq3 rfl rfl rfl (by decide))) rfl rfl hs hB (fun a w hs hB => ?_)
 refine l_fit (v := .agg #[.int .i64 aN, .int .i64 aD]) (fit_on rfl rfl rfl (ok_load25 (k := 2) rfl rfl rfl rfl rfl)) rfl rfl hs hB (fun a w hs hB => ?_)
 refine l_fit (v := .agg #[.int .i64 aN, .int .i64 aD]) (fit_on rfl rfl rfl (ok_load25 (k := 1) rfl rfl rfl rfl rfl)) rfl rfl hs hB (fun a w hs hB => ?_)
 refine l_fit (v := .bool true) (fit_on rfl rfl rfl (ok_eq25 rfl rfl rfl (by simp))) rfl rfl hs hB (fun a w hs hB => ?_)
 refine l_fit (v := .bool false) (fit_on rfl rfl rfl (ok_neq4 rfl rfl rfl (rfl))) rfl rfl hs hB (fun a w hs hB => ?_)
 refine l_fit (v := .bool false) (fit_free rfl (ok_pick_f rfl rfl rfl)) rfl rfl hs hB (fun a w hs hB => ?_)
 refine l_fit (v := .bool false) (fit_free rfl (ok_move rfl rfl)) rfl rfl hs hB (fun a w hs hB => ?_)
 refine l_fit (v := .int .i64 0) (fit_on rfl rfl rfl (ok_move rfl rfl)) rfl rfl hs hB (fun a w hs hB => ?_)
 refine l_fit (v := .bool true) (fit_on rfl rfl rfl (ok_leq3 rfl rfl rfl (by decide))) rfl rfl hs hB (fun a w hs hB => ?_)
 refine l_fit (v := .bool true) (fit_on rfl rfl rfl (ok_move rfl rfl)) rfl rfl hs hB (fun a w hs hB => ?_)
 refine l_fit (v := .int .i64 y) (fit_on rfl rfl rfl (ok_move rfl rfl)) rfl rfl hs hB (fun a w hs hB => ?_)
 refine l_fit (v := .bool true) (fit_on rfl rfl rfl (ok_leq3 rfl rfl rfl (by simp <;> omega))) rfl rfl hs hB (fun a w hs hB => ?_)
 refine l_fit (v := .bool true) (fit_on rfl rfl rfl (ok_pick_t rfl rfl rfl)) rfl rfl hs hB (fun a w hs hB => ?_)
 refine l_fit (v := .bool true) (fit_on rfl rfl rfl (ok_move rfl rfl)) rfl rfl hs hB (fun a w hs hB => ?_)
 refine l_fit (v := .agg #[.int .i64 aN, .int .i64 aD]) (fit_on rfl rfl rfl (ok_load25 (k := 2) rfl rfl rfl rfl rfl)) rfl rfl hs hB (fun a w hs hB => ?_)
 refine l_fit (v := .agg #[.int .i64 cN, .int .i64 cD]) (fit_on rfl rfl rfl (ok_load25 (k := 0) rfl rfl rfl rfl rfl)) rfl rfl hs hB (fun a w hs hB => ?_)
 refine l_fit (v := .int .i64 y) (fit_on rfl rfl rfl (ok_call (args := #[.agg #[.int .i64 aN, .int .i64 aD], .agg #[.int .i64 cN, .int .i64 cD]]) rfl Tryd.func13 (by kernel_rfl) rfl rfl (viaB fun w => F.fraction_Cmp.calls _ _ _ _ _ w e2))) rfl rfl hs hB (fun a w hs hB => ?_)
 refine l_fit (v := .bool false) (fit_on rfl rfl rfl (ok_gtr3 rfl rfl rfl (by simp <;> omega))) rfl rfl hs hB (fun a w hs hB => ?_)
 refine l_fit (v := .bool false) (fit_on rfl rfl rfl (ok_pick_t rfl rfl rfl)) rfl rfl hs hB (fun a w hs hB => ?_)
 refine l_fit (v := .bool false) (fit_free rfl (ok_pick_f rfl rfl rfl)) rfl rfl hs hB (fun a w hs hB => ?_)
 refine l_fit (v := .bool false) (fit_free rfl (ok_move rfl rfl)) rfl rfl hs hB (fun a w hs hB => ?_)
 refine l_fit (v := .int .i64 0) (fit_on rfl rfl rfl (ok_move rfl rfl)) rfl rfl hs hB (fun a w hs hB => ?_)
 refine l_fit (v := .bool true) (fit_on rfl rfl rfl (ok_geq3 rfl rfl rfl (by decide))) rfl rfl hs hB (fun a w hs hB => ?_)
 refine l_fit (v := .bool true) (fit_on rfl rfl rfl (ok_move rfl rfl)) rfl rfl hs hB (fun a w hs hB => ?_)
 refine l_fit (v := .int .i64 y) (fit_on rfl rfl rfl (ok_move rfl rfl)) rfl rfl hs hB (fun a w hs hB => ?_)
 refine l_fit (v := .bool false) (fit_on rfl rfl rfl (ok_geq3 rfl rfl rfl (by simp <;> omega))) rfl rfl hs hB (fun a w hs hB => ?_)
 refine l_fit (v := .bool false) (fit_on rfl rfl rfl (ok_pick_t rfl rfl rfl)) rfl rfl hs hB (fun a w hs hB => ?_)
 refine l_fit (v := .bool false) (fit_on rfl rfl rfl (ok_move rfl rfl)) rfl rfl hs hB (fun a w hs hB => ?_)
 refine l_fit (v := undef) (fit_off rfl rfl rfl rfl) rfl rfl hs hB (fun a w hs hB => ?_)
 refine l_fit (v := undef) (fit_off rfl rfl rfl rfl) rfl rfl hs hB (fun a w hs hB => ?_)
 refine l_fit (v := undef) (fit_off rfl rfl rfl rfl) rfl rfl hs hB (fun a w hs hB => ?_)
 refine l_fit (v := undef) (fit_off rfl rfl rfl rfl) rfl rfl hs hB (fun a w hs hB => ?_)
 refine l_fit (v := .bool false) (fit_on rfl rfl rfl (ok_pick_f rfl rfl rfl)) rfl rfl hs hB (fun a w hs hB => ?_)
 refine l_fit (v := .bool false) (fit_free rfl (ok_pick_f rfl rfl rfl)) rfl rfl hs hB (fun a w hs hB => ?_)
 refine l_nil ?_
 replace hs := hs.sub (l := [(99, .bool false), (7, .bool true), (8, pt g8 0), (9, pt g9 0), (10, pt g10 0), (11, .int .i64 0)]) (⟨rfl, rfl, rfl, rfl, rfl, rfl, trivial⟩)
 refine c_false hs rfl ?_
 refine wp_skip ?_
 refine then_n ?_
 replace hs := hs.sub (l := [(7, .bool true), (8, pt g8 0), (9, pt g9 0), (10, pt g10 0), (11, .int .i64 0)]) (⟨rfl, rfl, rfl, rfl, rfl, trivial⟩)
 replace hs := hs.sub (l := [(7, .bool true), (8, pt g8 0), (9, pt g9 0), (10, pt g10 0), (11, .int .i64 0)]) (⟨rfl, rfl, rfl, rfl, rfl, trivial⟩)
 exact H  a w hs hB

theorem o9zz (K : Nat) (w0 : World) (g10 g9 g8 : Nat) (aN aD cN cD : Int) (e0 : F.fraction_Cmp.f aN aD aN aD = some (0)) (e2 : F.fraction_Cmp.f aN aD cN cD = some (0)) (H : ∀ a w, Sl 215 [(7, .bool true), (8, pt g8 0), (9, pt g9 0), (10, pt g10 0), (11, .int .i64 0)] a → Bl w0 [(g10, .cells #[.int .i64 cN, .int .i64 cD] 25 (0, 0)), (g9, .cells #[.int .i64 aN, .int .i64 aD] 25 (0, 0)), (g8, .cells #[.int .i64 aN, .int .i64 aD] 25 (0, 0))] w → (restOf Tryd.f6 11).wp Tryd.prog (bodyPost Tryd.prog Tryd.f6 fun e w' => e = .returned (.bool true) ∧ Below w0.heap.size w0 w') a w) :
  ∀ a w, Sl 215 [(7, .bool true), (8, pt g8 0), (9, pt g9 0), (10, pt g10 0), (11, .int .i64 0), (12, .int .i64 0)] a → Bl w0 [(g10, .cells #[.int .i64 cN, .int .i64 cD] 25 (0, 0)), (g9, .cells #[.int .i64 aN, .int .i64 aD] 25 (0, 0)), (g8, .cells #[.int .i64 aN, .int .i64 aD] 25 (0, 0))] w → (restOf Tryd.f6 9).wp Tryd.prog (bodyPost Tryd.prog Tryd.f6 fun e w' => e = .returned (.bool true) ∧ Below w0.heap.size w0 w') a w := by
 intro a w hs hB
 conv => arg 2; whnf
 refine wp_seq ?_
 refine c_list ?_
 refine l_fit (v := .agg #[.int .i64 aN, .int .i64 aD]) (fit_free rfl (ok_load25 (k := 2) rfl rfl rfl rfl rfl)) rfl rfl hs hB (fun a w hs hB => ?_)
 refine l_fit (v := .agg #[.int .i64 aN, .int .i64 aD]) (fit_free rfl (ok_load25 (k := 2) rfl rfl rfl rfl rfl)) rfl rfl hs hB (fun a w hs hB => ?_)
 refine l_fit (v := .int .i64 0) (fit_free rfl (ok_call (args := #[.agg #[.int .i64 aN, .int .i64 aD], .agg #[.int .i64 aN, .int .i64 aD]]) rfl Tryd.func13 (by kernel_rfl) rfl rfl (viaB fun w => F.fraction_Cmp.calls _ _ _ _ _ w e0))) rfl rfl hs hB (fun a w hs hB => ?_)
 refine l_fit (v := .bool false) (fit_free rfl (ok_neq3 rfl rfl rfl (by decide))) rfl rfl hs hB (fun a w hs hB => ?_)
 refine l_fit (v := .bool false) (fit_free rfl (ok_move rfl rfl)) rfl rfl hs hB (fun a w hs hB => ?_)
 refine l_fit (v := .agg #[.int .i64 aN, .int .i64 aD]) (fit_on rfl rfl rfl (ok_load25 (k := 1) rfl rfl rfl rfl rfl)) rfl rfl hs hB (fun a w hs hB => ?_)
 refine l_fit (v := .agg #[.int .i64 aN, .int .i64 aD]) (fit_on rfl rfl rfl (ok_load25 (k := 2) rfl rfl rfl rfl rfl)) rfl rfl hs hB (fun a w hs hB => ?_)
 refine l_fit (v := .int .i64 0) (fit_on rfl rfl rfl (ok_call (args := #[.agg #[.int .i64 aN, .int .i64 aD], .agg #[.int .i64 aN, .int .i64 aD]]) rfl Tryd.func13 (by kernel_rfl) rfl rfl (viaB fun w => F.fraction_Cmp.calls _ _ _ _ _ w e0))) rfl rfl hs hB (fun a w hs hB => ?_)
 refine l_fit (v := .int .i64 0) (fit_on rfl rfl rfl (ok_move rfl rfl)) rfl rfl hs hB (fun a w hs hB => ?_)
 refine l_fit (v := .int .i64 0) (fit_on rfl rfl rfl (ok_neg3 rfl rfl (by simp [wrap64]))) rfl rfl hs hB (fun a w hs hB => ?_)
 refine l_fit (v := .bool false) (fit_on rfl rfl rfl (ok_neq3 rfl rfl rfl (by decide))) rfl rfl hs hB (fun a w hs hB => ?_)
 refine l_fit (v := .bool false) (fit_free rfl (ok_pick_f rfl rfl rfl)) rfl rfl hs hB (fun a w hs hB => ?_)
 refine l_fit (v := .bool false) (fit_free rfl (ok_move rfl rfl)) rfl rfl hs hB (fun a w hs hB => ?_)
 refine l_fit (v := .int .i64 0) (fit_on rfl rfl rfl (ok_move rfl rfl)) rfl rfl hs hB (fun a w hs hB => ?_)
 refine l_fit (v := .bool false) (fit_on rfl rfl rfl (ok_lss3 rfl rfl rfl (by decide))) rfl rfl hs hB (fun a w hs hB => ?_)
 refine l_fit (v := .bool false) (fit_free rfl (ok_pick_f rfl rfl rfl)) rfl rfl hs hB (fun a w hs hB => ?_)
 refine l_fit (v := .bool false) (fit_free rfl (ok_move rfl rfl)) rfl rfl hs hB (fun a w hs hB => ?_)
 refine l_fit (v := .int .i64 0) (fit_on rfl rfl rfl (ok_move rfl rfl)) rfl rfl hs hB (fun a w hs hB => ?_)
 refine l_fit (v := .bool false) (fit_on rfl rfl rfl (ok_gtr3 rfl rfl rfl (by decide))) rfl rfl hs hB (fun a w hs hB => ?_)
 refine l_fit (v := .bool false) (fit_free rfl (ok_pick_f rfl rfl rfl)) rfl rfl hs hB (fun a w hs hB => ?_)
 refine l_fit (v := .bool false) (fit_free rfl (ok_move rfl rfl)) rfl rfl hs hB (fun a w hs hB => ?_)
 refine l_fit (v := .int .i64 0) (fit_on rfl rfl rfl (ok_move rfl rfl)) rfl rfl hs hB (fun a w hs hB => ?_)
 refine l_fit (v := .bool true) (fit_on rfl rfl rfl (ok_eq3 rfl rfl rfl (by decide))) rfl rfl hs hB (fun a w hs hB => ?_)
 refine l_fit (v := .agg #[.int .i64 aN, .int .i64 aD]) (fit_on rfl rfl rfl (ok_load25 (k := 2) rfl rfl rfl rfl rfl)) rfl rfl hs hB (fun a w hs hB => ?_)
 refine l_fit (v := .agg #[.int .i64 aN, .int .i64 aD]) (fit_on rfl rfl rfl (ok_load25 (k := 1) rfl rfl rfl rfl rfl)) rfl rfl hs hB (fun a w hs hB => ?_)
 refine l_fit (v := .bool true) (fit_on rfl rfl rfl (ok_eq25 rfl rfl rfl (by simp))) rfl rfl hs hB (fun a w hs hB => ?_)
 refine l_fit (v := .bool false) (fit_on rfl rfl rfl (ok_neq4 rfl rfl rfl (rfl))) rfl rfl hs hB (fun a w hs hB => ?_)
 refine l_fit (v := .bool false) (fit_free rfl (ok_pick_f rfl rfl rfl)) rfl rfl hs hB (fun a w hs hB => ?_)
 refine l_fit (v := .bool false) (fit_free rfl (ok_move rfl rfl)) rfl rfl hs hB (fun a w hs hB => ?_)
 refine l_fit (v := .int .i64 0) (fit_on rfl rfl rfl (ok_move rfl rfl)) rfl rfl hs hB (fun a w hs hB => ?_)
 refine l_fit (v := .bool true) (fit_on rfl rfl rfl (ok_leq3 rfl rfl rfl (by decide))) rfl rfl hs hB (fun a w hs hB => ?_)
 refine l_fit (v := .bool true) (fit_on rfl rfl rfl (ok_move rfl rfl)) rfl rfl hs hB (fun a w hs hB => ?_)
 refine l_fit (v := .int .i64 0) (fit_on rfl rfl rfl (ok_move rfl rfl)) rfl rfl hs hB (fun a w hs hB => ?_)
 refine l_fit (v := .bool true) (fit_on rfl rfl rfl (ok_leq3 rfl rfl rfl (by decide))) rfl rfl hs hB (fun a w hs hB => ?_)
 refine l_fit (v := .bool true) (fit_on rfl rfl rfl (ok_pick_t rfl rfl rfl)) rfl rfl hs hB (fun a w hs hB => ?_)
 refine l_fit (v := .bool true) (fit_on rfl rfl rfl (ok_move rfl rfl)) rfl rfl hs hB (fun a w hs hB => ?_)
 refine l_fit (v := .agg #[.int .i64 aN, .int .i64 aD]) (fit_on rfl rfl rfl (ok_load25 (k := 2) rfl rfl rfl rfl rfl)) rfl rfl hs hB (fun a w hs hB => ?_)
 refine l_fit (v := .agg #[.int .i64 cN, .int .i64 cD]) (fit_on rfl rfl rfl (ok_load25 (k := 0) rfl rfl rfl rfl rfl)) rfl rfl hs hB (fun a w hs hB => ?_)
 refine l_fit (v := .int .i64 0) (fit_on rfl rfl rfl (ok_call (args := #[.agg #[.int .i64 aN, .int .i64 aD], .agg #[.int .i64 cN, .int .i64 cD]]) rfl Tryd.func13 (by kernel_rfl) rfl rfl (viaB fun w => F.fraction_Cmp.calls _ _ _ _ _ w e2))) rfl rfl hs hB (fun a w hs hB => ?_)
 refine l_fit (v := .bool false) (fit_on rfl rfl rfl (ok_gtr3 rfl rfl rfl (by decide))) rfl rfl hs hB (fun a w hs hB => ?_)
 refine l_fit (v := .bool false) (fit_on rfl rfl rfl (ok_pick_t rfl rfl rfl)) rfl rfl hs hB (fun a w hs hB => ?_)
 refine l_fit (v := .bool false) (fit_free rfl (ok_pick_f rfl rfl rfl)) rfl rfl hs hB (fun a w hs hB => ?_)
 refine l_fit (v := .bool false) (fit_free rfl (ok_move rfl rfl)) rfl rfl hs hB (fun a w hs hB => ?_)
 refine l_fit (v := .int .i64 0) (fit_on rfl rfl rfl (ok_move rfl rfl)) rfl rfl hs hB (fun a w hs hB => ?_)
 refine l_fit (v := .bool true) (fit_on rfl rfl rfl (ok_geq3 rfl rfl rfl (by decide))) rfl rfl hs hB (fun a w hs hB => ?_)
 refine l_fit (v := .bool true) (fit_on rfl rfl rfl (ok_move rfl rfl)) rfl rfl hs hB (fun a w hs hB => ?_)
 refine l_fit (v := .int .i64 0) (fit_on rfl rfl rfl (ok_move rfl rfl)) rfl rfl hs hB (fun a w hs hB => ?_)
 refine l_fit (v := .bool true) (fit_on rfl rfl rfl (ok_geq3 rfl rfl rfl (by decide))) rfl rfl hs hB (fun a w hs hB => ?_)
 refine l_fit (v := .bool true) (fit_on rfl rfl rfl (ok_pick_t rfl rfl rfl)) rfl rfl hs hB (fun a w hs hB => ?_)
 refine l_fit (v := .bool true) (fit_on rfl rfl rfl (ok_move rfl rfl)) rfl rfl hs hB (fun a w hs hB => ?_)
 refine l_fit (v := .agg #[.int .i64 aN, .int .i64 aD]) (fit_on rfl rfl rfl (ok_load25 (k := 2) rfl rfl rfl rfl rfl)) rfl rfl hs hB (fun a w hs hB => ?_)
 refine l_fit (v := .agg #[.int .i64 cN, .int .i64 cD]) (fit_on rfl rfl rfl (ok_load25 (k := 0) rfl rfl rfl rfl rfl)) rfl rfl hs hB (fun a w hs hB => ?_)
 refine l_fit (v := .int .i64 0) (fit_on rfl rfl rfl (ok_call (args := #[.agg #[.int .i64 aN, .int .i64 aD], .agg #[.int .i64 cN, .int .i64 cD]]) rfl Tryd.func13 (by kernel_rfl) rfl rfl (viaB fun w => F.fraction_Cmp.calls _ _ _ _ _ w e2))) rfl rfl hs hB (fun a w hs hB => ?_)
 refine l_fit (v := .bool false) (fit_on rfl rfl rfl (ok_lss3 rfl rfl rfl (by decide))) rfl rfl hs hB (fun a w hs hB => ?_)
 refine l_fit (v := .bool false) (fit_on rfl rfl rfl (ok_pick_t rfl rfl rfl)) rfl rfl hs hB (fun a w hs hB => ?_)
 refine l_fit (v := .bool false) (fit_free rfl (ok_pick_f rfl rfl rfl)) rfl rfl hs hB (fun a w hs hB => ?_)
 refine l_nil ?_
 replace hs := hs.sub (l := [(99, .bool false), (7, .bool true), (8, pt g8 0), (9, pt g9 0), (10, pt g10 0), (11, .int .i64 0)]) (⟨rfl, rfl, rfl, rfl, rfl, rfl, trivial⟩)
 refine c_false hs rfl ?_
 refine wp_skip ?_
 refine then_n ?_
 replace hs := hs.sub (l := [(7, .bool true), (8, pt g8 0), (9, pt g9 0), (10, pt g10 0), (11, .int .i64 0)]) (⟨rfl, rfl, rfl, rfl, rfl, trivial⟩)
 replace hs := hs.sub (l := [(7, .bool true), (8, pt g8 0), (9, pt g9 0), (10, pt g10 0), (11, .int .i64 0)]) (⟨rfl, rfl, rfl, rfl, rfl, trivial⟩)
 exact H  a w hs hB

theorem o9zp (K : Nat) (w0 : World) (g10 g9 g8 : Nat) (aN aD cN cD y : Int) (e0 : F.fraction_Cmp.f aN aD aN aD = some (0)) (hy : y > 0) (e2 : F.fraction_Cmp.f aN aD cN cD = some (y)) (H : ∀ a w, Sl 215 [(7, .bool true), (8, pt g8 0), (9, pt g9 0), (10, pt g10 0), (11, .int .i64 0)] a → Bl w0 [(g10, .cells #[.int .i64 cN, .int .i64 cD] 25 (0, 0)), (g9, .cells #[.int .i64 aN, .int .i64 aD] 25 (0, 0)), (g8, .cells #[.int .i64 aN, .int .i64 aD] 25 (0, 0))] w → (restOf Tryd.f6 11).wp Tryd.prog (bodyPost Tryd.prog Tryd.f6 fun e w' => e = .returned (.bool true) ∧ Below w0.heap.size w0 w') a w) :
  ∀ a w, Sl 215 [(7, .bool true), (8, pt g8 0), (9, pt g9 0), (10, pt g10 0), (11, .int .i64 0), (12, .int .i64 y)] a → Bl w0 [(g10, .cells #[.int .i64 cN, .int .i64 cD] 25 (0, 0)), (g9, .cells #[.int .i64 aN, .int .i64 aD] 25 (0, 0)), (g8, .cells #[.int .i64 aN, .int .i64 aD] 25 (0, 0))] w → (restOf Tryd.f6 9).wp Tryd.prog (bodyPost Tryd.prog Tryd.f6 fun e w' => e = .returned (.bool true) ∧ Below w0.heap.size w0 w') a w := by
 intro a w hs hB
 conv => arg 2; whnf
 refine wp_seq ?_
 refine c_list ?_
 refine l_fit (v := .agg #[.int .i64 aN, .int .i64 aD]) (fit_free rfl (ok_load25 (k := 2) rfl rfl rfl rfl rfl)) rfl rfl hs hB (fun a w hs hB => ?_)
 refine l_fit (v := .agg #[.int .i64 aN, .int .i64 aD]) (fit_free rfl (ok_load25 (k := 2) rfl rfl rfl rfl rfl)) rfl rfl hs hB (fun a w hs hB => ?_)
 refine l_fit (v := .int .i64 0) (fit_free rfl (ok_call (args := #[.agg #[.int .i64 aN, .int .i64 aD], .agg #[.int .i64 aN, .int .i64 aD]]) rfl Tryd.func13 (by kernel_rfl) rfl rfl (viaB fun w => F.fraction_Cmp.calls _ _ _ _ _ w e0))) rfl rfl hs hB (fun a w hs hB => ?_)
 refine l_fit (v := .bool false) (fit_free rfl (ok_neq3 rfl rfl rfl (by decide))) rfl rfl hs hB (fun a w hs hB => ?_)
 refine l_fit (v := .bool false) (fit_free rfl (ok_move rfl rfl)) rfl rfl hs hB (fun a w hs hB => ?_)
 refine l_fit (v := .agg #[.int .i64 aN, .int .i64 aD]) (fit_on rfl rfl rfl (ok_load25 (k := 1) rfl rfl rfl rfl rfl)) rfl rfl hs hB (fun a w hs hB => ?_)
 refine l_fit (v := .agg #[.int .i64 aN, .int .i64 aD]) (fit_on rfl rfl rfl (ok_load25 (k := 2) rfl rfl rfl rfl rfl)) rfl rfl hs hB (fun a w hs hB => ?_)
 refine l_fit (v := .int .i64 0) (fit_on rfl rfl rfl (ok_call (args := #[.agg #[.int .i64 aN, .int .i64 aD], .agg #[.int .i64 aN, .int .i64 aD]]) rfl Tryd.func13 (by kernel_rfl) rfl rfl (viaB fun w => F.fraction_Cmp.calls _ _ _ _ _ w e0))) rfl rfl hs hB (fun a w hs hB => ?_)
 refine l_fit (v := .int .i64 0) (fit_on rfl rfl rfl (ok_move rfl rfl)) rfl rfl hs hB (fun a w hs hB => ?_)
 refine l_fit (v := .int .i64 0) (fit_on rfl rfl rfl (ok_neg3 rfl rfl (by simp [wrap64]))) rfl rfl hs hB (fun a w hs hB => ?_)
 refine l_fit (v := .bool false) (fit_on rfl rfl rfl (ok_neq3 rfl rfl rfl (by decide))) rfl rfl hs hB (fun a w hs hB => ?_)
 refine l_fit (v := .bool false) (fit_free rfl (ok_pick_f rfl rfl rfl)) rfl rfl hs hB (fun a w hs hB => ?_)
 refine l_fit (v := .bool false) (fit_free rfl (ok_move rfl rfl)) rfl rfl hs hB (fun a w hs hB => ?_)
 refine l_fit (v := .int .i64 0) (fit_on rfl rfl rfl (ok_move rfl rfl)) rfl rfl hs hB (fun a w hs hB => ?_)
 refine l_fit (v := .bool false) (fit_on rfl rfl rfl (ok_lss3 rfl rfl rfl (by decide))) rfl rfl hs hB (fun a w hs hB => ?_)
 refine l_fit (v := .bool false) (fit_free rfl (ok_pick_f rfl rfl rfl)) rfl rfl hs hB (fun a w hs hB => ?_)
 refine l_fit (v := .bool false) (fit_free rfl (ok_move rfl rfl)) rfl rfl hs hB (fun a w hs hB => ?_)
 refine l_fit (v := .int .i64 0) (fit_on rfl rfl rfl (ok_move rfl rfl)) rfl rfl hs hB (fun a w hs hB => ?_)
 refine l_fit (v := .bool false) (fit_on rfl rfl rfl (ok_gtr3 rfl rfl rfl (by decide))) rfl rfl hs hB (fun a w hs hB => ?_)
 refine l_fit (v := .bool false) (fit_free rfl (ok_pick_f rfl rfl rfl)) rfl rfl hs hB (fun a w hs hB => ?_)
 refine l_fit (v := .bool false) (fit_free rfl (ok_move rfl rfl)) rfl rfl hs hB (fun a w hs hB => ?_)
 refine l_fit (v := .int .i64 0) (fit_on rfl rfl rfl (ok_move rfl rfl)) rfl rfl hs hB (fun a w hs hB => ?_)
 refine l_fit (v := .bool true) (fit_on rfl rfl rfl (ok_eq3 rfl rfl rfl (by decide))) rfl rfl hs hB (fun a w hs hB => ?_)
 refine l_fit (v := .agg #[.int .i64 aN, .int .i64 aD]) (fit_on rfl rfl rfl (ok_load25 (k := 2) rfl rfl rfl rfl rfl)) rfl rfl hs hB (fun a w hs hB => ?_)
 refine l_fit (v := .agg #[.int .i64 aN, .int .i64 aD]) (fit_on rfl rfl rfl (ok_load25 (k := 1) rfl rfl rfl rfl rfl)) rfl rfl hs hB (fun a w hs hB => ?_)
 refine l_fit (v := .bool true) (fit_on rfl rfl rfl (ok_eq25 rfl rfl rfl (by simp))) rfl rfl hs hB (fun a w hs hB => ?_)
 refine l_fit (v := .bool false) (fit_on rfl rfl rfl (ok_neq4 rfl rfl rfl (rfl))) rfl rfl hs hB (fun a w hs hB => ?_)
 refine l_fit (v := .bool false) (fit_free rfl (ok_pick_f rfl rfl rfl)) rfl rfl hs hB (fun a w hs hB => ?_)
 refine l_fit (v := .bool false) (fit_free rfl (ok_move rfl rfl)) rfl rfl hs hB (fun a w hs hB => ?_)
 refine l_fit (v := .int .i64 0) (fit_on rfl rfl rfl (ok_move rfl rfl)) rfl rfl hs hB (fun a w hs hB => ?_)
 refine l_fit (v := .bool true) (fit_on rfl rfl rfl (ok_leq3 rfl rfl rfl (by decide))) rfl rfl hs hB (fun a w hs hB => ?_)
 refine l_fit (v := .bool true) (fit_on rfl rfl rfl (ok_move rfl rfl)) rfl rfl hs hB (fun a w hs hB => ?_)
 refine l_fit (v := .int .i64 y) (fit_on rfl rfl rfl (ok_move rfl rfl)) rfl rfl hs hB (fun a w hs hB => ?_)
 refine l_fit (v := .bool false) (fit_on rfl rfl rfl (ok_leq3 rfl rfl rfl (by simp <;> omega))) rfl rfl hs hB (fun a w hs hB => ?_)
 refine l_fit (v := .bool false) (fit_on rfl rfl rfl (ok_pick_t rfl rfl rfl)) rfl rfl hs hB (fun a w hs hB => ?_)
 refine l_fit (v := .bool false) (fit_on rfl rfl rfl (ok_move rfl rfl)) rfl rfl hs hB (fun a w hs hB => ?_)
 refine l_fit (v := undef) (fit_off rfl rfl rfl rfl) rfl rfl hs hB (fun a w hs hB => ?_)
 refine l_fit (v := undef) (fit_off rfl rfl rfl rfl) rfl rfl hs hB (fun a w hs hB => ?_)
 refine l_fit (v := undef) (fit_off rfl rfl rfl rfl) rfl rfl hs hB (fun a w hs hB => ?_)
 refine l_fit (v := undef) (fit_off rfl rfl rfl rfl) rfl rfl hs hB (fun a w hs hB => ?_)
 refine l_fit (v := .bool false) (fit_on rfl rfl rfl (ok_pick_f rfl rfl rfl)) rfl rfl hs hB (fun a w hs hB => ?_)
 refine l_fit (v := .bool false) (fit_free rfl (ok_pick_f rfl rfl rfl)) rfl rfl hs hB (fun a w hs hB => ?_)
 refine l_fit (v := .bool false) (fit_free rfl (ok_move rfl rfl)) rfl rfl hs hB (fun a w hs hB => ?_)
 refine l_fit (v := .int .i64 0) (fit_on rfl rfl rfl (ok_move rfl rfl)) rfl rfl hs hB (fun a w hs hB => ?_)
 refine l_fit (v := .bool true) (fit_on rfl rfl rfl (ok_geq3 rfl rfl rfl (by decide))) rfl rfl hs hB (fun a w hs hB => ?_)
 refine l_fit (v := .bool true) (fit_on rfl rfl rfl (ok_move rfl rfl)) rfl rfl hs hB (fun a w hs hB => ?_)
 refine l_fit (v := .int .i64 y) (fit_on rfl rfl rfl (ok_move rfl rfl)) rfl rfl hs hB (fun a w hs hB => ?_)
 refine l_fit (v := .bool true) (fit_on rfl rfl rfl (ok_geq3 rfl rfl rfl (by simp <;> omega))) rfl rfl hs hB (fun a w hs hB => ?_)
 refine l_fit (v := .bool true) (fit_on rfl rfl rfl (ok_pick_t rfl rfl rfl)) rfl rfl hs hB (fun a w hs hB => ?_)
 refine l_fit (v := .bool true) (fit_on rfl rfl rfl (ok_move rfl rfl)) rfl rfl hs hB (fun a w hs hB => ?_)
 refine l_fit (v := .agg #[.int .i64 aN, .int .i64 aD]) (fit_on rfl rfl rfl (ok_load25 (k := 2) rfl rfl rfl rfl rfl)) rfl rfl hs hB (fun a w hs hB => ?_)
 refine l_fit (v := .agg #[.int .i64 cN, .int .i64 cD]) (fit_on rfl rfl rfl (ok_load25 (k := 0) rfl rfl rfl rfl rfl)) rfl rfl hs hB (fun a w hs hB => ?_)
 refine l_fit (v := .int .i64 y) (fit_on rfl rfl rfl (ok_call (args := #[.agg #[.int .i64 aN, .int .i64 aD], .agg #[.int .i64 cN, .int .i64 cD]]) rfl Tryd.func13 (by kernel_rfl) rfl rfl (viaB fun w => F.fraction_Cmp.calls _ _ _ _ _ w e2))) rfl rfl hs hB (fun a w hs hB => ?_)
 refine l_fit (v := .bool false) (fit_on rfl rfl rfl (ok_lss3 rfl rfl rfl (by simp <;> omega))) rfl rfl hs hB (fun a w hs hB => ?_)
 refine l_fit (v := .bool false) (fit_on rfl rfl rfl (ok_pick_t rfl rfl rfl)) rfl rfl hs hB (fun a w hs hB => ?_)
 refine l_fit (v := .bool false) (fit_free rfl (ok_pick_f rfl rfl rfl)) rfl rfl hs hB (fun a w hs hB => ?_)
 refine l_nil ?_
 replace hs := hs.sub (l := [(99, .bool false), (7, .bool true), (8, pt g8 0), (9, pt g9 0), (10, pt g10 0), (11, .int .i64 0)]) (⟨rfl, rfl, rfl, rfl, rfl, rfl, trivial⟩)
 refine c_false hs rfl ?_
 refine wp_skip ?_
 refine then_n ?_
 replace hs := hs.sub (l := [(7, .bool true), (8, pt g8 0), (9, pt g9 0), (10, pt g10 0), (11, .int .i64 0)]) (⟨rfl, rfl, rfl, rfl, rfl, trivial⟩)
 replace hs := hs.sub (l := [(7, .bool true), (8, pt g8 0), (9, pt g9 0), (10, pt g10 0), (11, .int .i64 0)]) (⟨rfl, rfl, rfl, rfl, rfl, trivial⟩)
 exact H  a w hs hB

theorem o9pm (K : Nat) (w0 : World) (g10 g9 g8 : Nat) (aN aD cN cD bN bD y : Int) (e0 : F.fraction_Cmp.f aN aD aN aD = some (0)) (e1 : F.fraction_Cmp.f bN bD aN aD = some (-1)) (hne : (decide (aN = bN) && decide (aD = bD)) = false) (hy : y < 0) (H : ∀ a w, Sl 215 [(7, .bool true), (8, pt g8 0), (9, pt g9 0), (10, pt g10 0), (11, .int .i64 1)] a → Bl w0 [(g10, .cells #[.int .i64 cN, .int .i64 cD] 25 (0, 0)), (g9, .cells #[.int .i64 bN, .int .i64 bD] 25 (0, 0)), (g8, .cells #[.int .i64 aN, .int .i64 aD] 25 (0, 0))] w → (restOf Tryd.f6 11).wp Tryd.prog (bodyPost Tryd.prog Tryd.f6 fun e w' => e = .returned (.bool true) ∧ Below w0.heap.size w0 w') a w) :
  ∀ a w, Sl 215 [(7, .bool true), (8, pt g8 0), (9, pt g9 0), (10, pt g10 0), (11, .int .i64 1), (12, .int .i64 y)] a → Bl w0 [(g10, .cells #[.int .i64 cN, .int .i64 cD] 25 (0, 0)), (g9, .cells #[.int .i64 bN, .int .i64 bD] 25 (0, 0)), (g8, .cells #[.int .i64 aN, .int .i64 aD] 25 (0, 0))] w → (restOf Tryd.f6 9).wp Tryd.prog (bodyPost Tryd.prog Tryd.f6 fun e w' => e = .returned (.bool true) ∧ Below w0.heap.size w0 w') a w := by
 intro a w hs hB
 conv => arg 2; whnf
 refine wp_seq ?_
 refine c_list ?_
 refine l_fit (v := .agg #[.int .i64 aN, .int .i64 aD]) (fit_free rfl (ok_load25 (k := 2) rfl rfl rfl rfl rfl)) rfl rfl hs hB (fun a w hs hB => ?_)
 refine l_fit (v := .agg #[.int .i64 aN, .int .i64 aD]) (fit_free rfl (ok_load25 (k := 2) rfl rfl rfl rfl rfl)) rfl rfl hs hB (fun a w hs hB => ?_)
 refine l_fit (v := .int .i64 0) (fit_free rfl (ok_call (args := #[.agg #[.int .i64 aN, .int .i64 aD], .agg #[.int .i64 aN, .int .i64 aD]]) rfl Tryd.func13 (by kernel_rfl) rfl rfl (viaB fun w => F.fraction_Cmp.calls _ _ _ _ _ w e0))) rfl rfl hs hB (fun a w hs hB => ?_)
 refine l_fit (v := .bool false) (fit_free rfl (ok_neq3 rfl rfl rfl (by decide))) rfl rfl hs hB (fun a w hs hB => ?_)
 refine l_fit (v := .bool false) (fit_free rfl (ok_move rfl rfl)) rfl rfl hs hB (fun a w hs hB => ?_)
 refine l_fit (v := .agg #[.int .i64 bN, .int .i64 bD]) (fit_on rfl rfl rfl (ok_load25 (k := 1) rfl rfl rfl rfl rfl)) rfl rfl hs hB (fun a w hs hB => ?_)
 refine l_fit (v := .agg #[.int .i64 aN, .int .i64 aD]) (fit_on rfl rfl rfl (ok_load25 (k := 2) rfl rfl rfl rfl rfl)) rfl rfl hs hB (fun a w hs hB => ?_)
 refine l_fit (v := .int .i64 (-1)) (fit_on rfl rfl rfl (ok_call (args := #[.agg #[.int .i64 bN, .int .i64 bD], .agg #[.int .i64 aN, .int .i64 aD]]) rfl Tryd.func13 (by kernel_rfl) rfl rfl (viaB fun w => F.fraction_Cmp.calls _ _ _ _ _ w e1))) rfl rfl hs hB (fun a w hs hB => ?_)
 refine l_fit (v := .int .i64 1) (fit_on rfl rfl rfl (ok_move rfl rfl)) rfl rfl hs hB (fun a w hs hB => ?_)
 refine l_fit (v := .int .i64 (-1)) (fit_on rfl rfl rfl (ok_neg3 rfl rfl (by simp [wrap64]))) rfl rfl hs hB (fun a w hs hB => ?_)
 refine l_fit (v := .bool false) (fit_on rfl rfl rfl (ok_neq3 rfl rfl rfl (by decide))) rfl rfl hs hB (fun a w hs hB => ?_)
 refine l_fit (v := .bool false) (fit_free rfl (ok_pick_f rfl rfl rfl)) rfl rfl hs hB (fun a w hs hB => ?_)
 refine l_fit (v := .bool false) (fit_free rfl (ok_move rfl rfl)) rfl rfl hs hB (fun a w hs hB => ?_)
 refine l_fit (v := .int .i64 1) (fit_on rfl rfl rfl (ok_move rfl rfl)) rfl rfl hs hB (fun a w hs hB => ?_)
 refine l_fit (v := .bool false) (fit_on rfl rfl rfl (ok_lss3 rfl rfl rfl (by decide))) rfl rfl hs hB (fun a w hs hB => ?_)
 refine l_fit (v := .bool false) (fit_free rfl (ok_pick_f rfl rfl rfl)) rfl rfl hs hB (fun a w hs hB => ?_)
 refine l_fit (v := .bool false) (fit_free rfl (ok_move rfl rfl)) rfl rfl hs hB (fun a w hs hB => ?_)
 refine l_fit (v := .int .i64 1) (fit_on rfl rfl rfl (ok_move rfl rfl)) rfl rfl hs hB (fun a w hs hB => ?_)
 refine l_fit (v := .bool false) (fit_on rfl rfl rfl (ok_gtr3 rfl rfl rfl (by decide))) rfl rfl hs hB (fun a w hs hB => ?_)
 refine l_fit (v := .bool false) (fit_free rfl (ok_pick_f rfl rfl rfl)) rfl rfl hs hB (fun a w hs hB => ?_)
 refine l_fit (v := .bool false) (fit_free rfl (ok_move rfl rfl)) rfl rfl hs hB (fun a w hs hB => ?_)
 refine l_fit (v := .int .i64 1) (fit_on rfl rfl rfl (ok_move rfl rfl)) rfl rfl hs hB (fun a w hs hB => ?_)
 refine l_fit (v := .bool false) (fit_on rfl rfl rfl (ok_eq3 rfl rfl rfl (by decide))) rfl rfl hs hB (fun a w hs hB => ?_)
 refine l_fit (v := .agg #[.int .i64 aN, .int .i64 aD]) (fit_on rfl rfl rfl (ok_load25 (k := 2) rfl rfl rfl rfl rfl)) rfl rfl hs hB (fun a w hs hB => ?_)
 refine l_fit (v := .agg #[.int .i64 bN, .int .i64 bD]) (fit_on rfl rfl rfl (ok_load25 (k := 1) rfl rfl rfl rfl rfl)) rfl rfl hs hB (fun a w hs hB => ?_)
 refine l_fit (v := .bool false) (fit_on rfl rfl rfl (ok_eq25 rfl rfl rfl (hne))) rfl rfl hs hB (fun a w hs hB => ?_)
 refine l_fit (v := .bool false) (fit_on rfl rfl rfl (ok_neq4 rfl rfl rfl (rfl))) rfl rfl hs hB (fun a w hs hB => ?_)
 refine l_fit (v := .bool false) (fit_free rfl (ok_pick_f rfl rfl rfl)) rfl rfl hs hB (fun a w hs hB => ?_)
 refine l_fit (v := .bool false) (fit_free rfl (ok_move rfl rfl)) rfl rfl hs hB (fun a w hs hB => ?_)
 refine l_fit (v := .int .i64 1) (fit_on rfl rfl rfl (ok_move rfl rfl)) rfl rfl hs hB (fun a w hs hB => ?_)
 refine l_fit (v := .bool false) (fit_on rfl rfl rfl (ok_leq3 rfl rfl rfl (by decide))) rfl rfl hs hB (fun a w hs hB => ?_)
 refine l_fit (v := .bool false) (fit_on rfl rfl rfl (ok_move rfl rfl)) rfl rfl hs hB (fun a w hs hB => ?_)
 refine l_fit (v := undef) (fit_off rfl rfl rfl rfl) rfl rfl hs hB (fun a w hs hB => ?_)
 refine l_fit (v := undef) (fit_off rfl rfl rfl rfl) rfl rfl hs hB (fun a w hs hB => ?_)
 refine l_fit (v := .bool false) (fit_on rfl rfl rfl (ok_pick_f rfl rfl rfl)) rfl rfl hs hB (fun a w hs hB => ?_)
 refine l_fit (v := .bool false) (fit_on rfl rfl rfl (ok_move rfl rfl)) rfl rfl hs hB (fun a w hs hB => ?_)
 refine l_fit (v := undef) (fit_off rfl rfl rfl rfl) rfl rfl hs hB (fun a w hs hB => ?_)
 refine l_fit (v := undef) (fit_off rfl rfl rfl rfl) rfl rfl hs hB (fun a w hs hB => ?_)
 refine l_fit (v := undef) (fit_off rfl rfl rfl rfl) rfl rfl hs hB (fun a w hs hB => ?_)
 refine l_fit (v := undef) (fit_off rfl rfl rfl rfl) rfl rfl hs hB (fun a w hs hB => ?_)
 refine l_fit (v := .bool false) (fit_on rfl rfl rfl (ok_pick_f rfl rfl rfl)) rfl rfl hs hB (fun a w hs hB => ?_)
 refine l_fit (v := .bool false) (fit_free rfl (ok_pick_f rfl rfl rfl)) rfl rfl hs hB (fun a w hs hB => ?_)
 refine l_fit (v := .bool false) (fit_free rfl (ok_move rfl rfl)) rfl rfl hs hB (fun a w hs hB => ?_)
 refine l_fit (v := .int .i64 1) (fit_on rfl rfl rfl (ok_move rfl rfl)) rfl rfl hs hB (fun a w hs hB => ?_)
 refine l_fit (v := .bool true) (fit_on rfl rfl rfl (ok_geq3 rfl rfl rfl (by decide))) rfl rfl hs hB (fun a w hs hB => ?_)
 refine l_fit (v := .bool true) (fit_on rfl rfl rfl (ok_move rfl rfl)) rfl rfl hs hB (fun a w hs hB => ?_)
 refine l_fit (v := .int .i64 y) (fit_on rfl rfl rfl (ok_move rfl rfl)) rfl rfl hs hB (fun a w hs hB => ?_)
 refine l_fit (v := .bool false) (fit_on rfl rfl rfl (ok_geq3 rfl rfl rfl (by simp <;> omega))) rfl rfl hs hB (fun a w hs hB => ?_)
 refine l_fit (v := .bool false) (fit_on rfl rfl rfl (ok_pick_t rfl rfl rfl)) rfl rfl hs hB (fun a w hs hB => ?_)
 refine l_fit (v := .bool false) (fit_on rfl rfl rfl (ok_move rfl rfl)) rfl rfl hs hB (fun a w hs hB => ?_)
 refine l_fit (v := undef) (fit_off rfl rfl rfl rfl) rfl rfl hs hB (fun a w hs hB => ?_)
 refine l_fit (v := undef) (fit_off rfl rfl rfl rfl) rfl rfl hs hB (fun a w hs hB => ?_)
 refine l_fit (v := undef) (fit_off rfl rfl rfl rfl) rfl rfl hs hB (fun a w hs hB => ?_)
 refine l_fit (v := undef) (fit_off rfl rfl rfl rfl) rfl rfl hs hB (fun a w hs hB => ?_)
 refine l_fit (v := .bool false) (fit_on rfl rfl rfl (ok_pick_f rfl rfl rfl)) rfl rfl hs hB (fun a w hs hB => ?_)
 refine l_fit (v := .bool false) (fit_free rfl (ok_pick_f rfl rfl rfl)) rfl rfl hs hB (fun a w hs hB => ?_)
 refine l_nil ?_
 replace hs := hs.sub (l := [(99, .bool false), (7, .bool true), (8, pt g8 0), (9, pt g9 0), (10, pt g10 0), (11, .int .i64 1)]) (⟨rfl, rfl, rfl, rfl, rfl, rfl, trivial⟩)
 refine c_false hs rfl ?_
 refine wp_skip ?_
 refine then_n ?_
 replace hs := hs.sub (l := [(7, .bool true), (8, pt g8 0), (9, pt g9 0), (10, pt g10 0), (11, .int .i64 1)]) (⟨rfl, rfl, rfl, rfl, rfl, trivial⟩)
 replace hs := hs.sub (l := [(7, .bool true), (8, pt g8 0), (9, pt g9 0), (10, pt g10 0), (11, .int .i64 1)]) (⟨rfl, rfl, rfl, rfl, rfl, trivial⟩)
 exact H  a w hs hB

theorem o9pp (K : Nat) (w0 : World) (g10 g9 g8 : Nat) (aN aD cN cD bN bD y z : Int) (e0 : F.fraction_Cmp.f aN aD aN aD = some (0)) (e1 : F.fraction_Cmp.f bN bD aN aD = some (-1)) (hne : (decide (aN = bN) && decide (aD = bD)) = false) (hy : y ≥ 0) (e2 : F.fraction_Cmp.f aN aD cN cD = some (z)) (hz : z ≥ 0) (H : ∀ a w, Sl 215 [(7, .bool true), (8, pt g8 0), (9, pt g9 0), (10, pt g10 0), (11, .int .i64 1)] a → Bl w0 [(g10, .cells #[.int .i64 cN, .int .i64 cD] 25 (0, 0)), (g9, .cells #[.int .i64 bN, .int .i64 bD] 25 (0, 0)), (g8, .cells #[.int .i64 aN, .int .i64 aD] 25 (0, 0))] w → (restOf Tryd.f6 11).wp Tryd.prog (bodyPost Tryd.prog Tryd.f6 fun e w' => e = .returned (.bool true) ∧ Below w0.heap.size w0 w') a w) :
  ∀ a w, Sl 215 [(7, .bool true), (8, pt g8 0), (9, pt g9 0), (10, pt g10 0), (11, .int .i64 1), (12, .int .i64 y)] a → Bl w0 [(g10, .cells #[.int .i64 cN, .int .i64 cD] 25 (0, 0)), (g9, .cells #[.int .i64 bN, .int .i64 bD] 25 (0, 0)), (g8, .cells #[.int .i64 aN, .int .i64 aD] 25 (0, 0))] w → (restOf Tryd.f6 9).wp Tryd.prog (bodyPost Tryd.prog Tryd.f6 fun e w' => e = .returned (.bool true) ∧ Below w0.heap.size w0 w') a w := by
 intro a w hs hB
 conv => arg 2; whnf
 refine wp_seq ?_
 refine c_list ?_
 refine l_fit (v := .agg #[.int .i64 aN, .int .i64 aD]) (fit_free rfl (ok_load25 (k := 2) rfl rfl rfl rfl rfl)) rfl rfl hs hB (fun a w hs hB => ?_)
 refine l_fit (v := .agg #[.int .i64 aN, .int .i64 aD]) (fit_free rfl (ok_load25 (k := 2) rfl rfl rfl rfl rfl)) rfl rfl hs hB (fun a w hs hB => ?_)
 refine l_fit (v := .int .i64 0) (fit_free rfl (ok_call (args := #[.agg #[.int .i64 aN, .int .i64 aD], .agg #[.int .i64 aN, .int .i64 aD]]) rfl Tryd.func13 (by kernel_rfl) rfl rfl (viaB fun w => F.fraction_Cmp.calls _ _ _ _ _ w e0))) rfl rfl hs hB (fun a w hs hB => ?_)
 refine l_fit (v := .bool false) (fit_free rfl (ok_neq3 rfl rfl rfl (by decide))) rfl rfl hs hB (fun a w hs hB => ?_)
 refine l_fit (v := .bool false) (fit_free rfl (ok_move rfl rfl)) rfl rfl hs hB (fun a w hs hB => ?_)
 refine l_fit (v := .agg #[.int .i64 bN, .int .i64 bD]) (fit_on rfl rfl rfl (ok_load25 (k := 1) rfl rfl rfl rfl rfl)) rfl rfl hs hB (fun a w hs hB => ?_)
 refine l_fit (v := .agg #[.int .i64 aN, .int .i64 aD]) (fit_on rfl rfl rfl (ok_load25 (k := 2) rfl rfl rfl rfl rfl)) rfl rfl hs hB (fun a w hs hB => ?_)
 refine l_fit (v := .int .i64 (-1)) (fit_on rfl rfl rfl (ok_call (args := #[.agg #[.int .i64 bN, .int .i64 bD], .agg #[.int .i64 aN, .int .i64 aD]]) rfl Tryd.func13 (by kernel_rfl) rfl rfl (viaB fun w => F.fraction_Cmp.calls _ _ _ _ _ w e1))) rfl rfl hs hB (fun a w hs hB => ?_)
 refine l_fit (v := .int .i64 1) (fit_on rfl rfl rfl (ok_move rfl rfl)) rfl rfl hs hB (fun a w hs hB => ?_)
 refine l_fit (v := .int .i64 (-1)) (fit_on rfl rfl rfl (ok_neg3 rfl rfl (by simp [wrap64]))) rfl rfl hs hB (fun a w hs hB => ?_)
 refine l_fit (v := .bool false) (fit_on rfl rfl rfl (ok_neq3 rfl rfl rfl (by decide))) rfl rfl hs hB (fun a w hs hB => ?_)
 refine l_fit (v := .bool false) (fit_free rfl (ok_pick_f rfl rfl rfl)) rfl rfl hs hB (fun a w hs hB => ?_)
 refine l_fit (v := .bool false) (fit_free rfl (ok_move rfl rfl)) rfl rfl hs hB (fun a w hs hB => ?_)
 refine l_fit (v := .int .i64 1) (fit_on rfl rfl rfl (ok_move rfl rfl)) rfl rfl hs hB (fun a w hs hB => ?_)
 refine l_fit (v := .bool false) (fit_on rfl rfl rfl (ok_lss3 rfl rfl rfl (by decide))) rfl rfl hs hB (fun a w hs hB => ?_)
 refine l_fit (v := .bool false) (fit_free rfl (ok_pick_f rfl rfl rfl)) rfl rfl hs hB (fun a w hs hB => ?_)
 refine l_fit (v := .bool false) (fit_free rfl (ok_move rfl rfl)) rfl rfl hs hB (fun a w hs hB => ?_)
 refine l_fit (v := .int .i64 1) (fit_on rfl rfl rfl (ok_move rfl rfl)) rfl rfl hs hB (fun a w hs hB => ?_)
 refine l_fit (v := .bool false) (fit_on rfl rfl rfl (ok_gtr3 rfl rfl rfl (by decide))) rfl rfl hs hB (fun a w hs hB => ?_)
 refine l_fit (v := .bool false) (fit_free rfl (ok_pick_f rfl rfl rfl)) rfl rfl hs hB (fun a w hs hB => ?_)
 refine l_fit (v := .bool false) (fit_free rfl (ok_move rfl rfl)) rfl rfl hs hB (fun a w hs hB => ?_)
 refine l_fit (v := .int .i64 1) (fit_on rfl rfl rfl (ok_move rfl rfl)) rfl rfl hs hB (fun a w hs hB => ?_)
 refine l_fit (v := .bool false) (fit_on rfl rfl rfl (ok_eq3 rfl rfl rfl (by decide))) rfl rfl hs hB (fun a w hs hB => ?_)
 refine l_fit (v := .agg #[.int .i64 aN, .int .i64 aD]) (fit_on rfl rfl rfl (ok_load25 (k := 2) rfl rfl rfl rfl rfl)) rfl rfl hs hB (fun a w hs hB => ?_)
 refine l_fit (v := .agg #[.int .i64 bN, .int .i64 bD]) (fit_on rfl rfl rfl (ok_load25 (k := 1) rfl rfl rfl rfl rfl)) rfl rfl hs hB (fun a w hs hB => ?_)
 refine l_fit (v := .bool false) (fit_on rfl rfl rfl (ok_eq25 rfl rfl rfl (hne))) rfl rfl hs hB (fun a w hs hB => ?_)
 refine l_fit (v := .bool false) (fit_on rfl rfl rfl (ok_neq4 rfl rfl rfl (rfl))) rfl rfl hs hB (fun a w hs hB => ?_)
 refine l_fit (v := .bool false) (fit_free rfl (ok_pick_f rfl rfl rfl)) rfl rfl hs hB (fun a w hs hB => ?_)
 refine l_fit (v := .bool false) (fit_free rfl (ok_move rfl rfl)) rfl rfl hs hB (fun a w hs hB => ?_)
 refine l_fit (v := .int .i64 1) (fit_on rfl rfl rfl (ok_move rfl rfl)) rfl rfl hs hB (fun a w hs hB => ?_)
 refine l_fit (v := .bool false) (fit_on rfl rfl rfl (ok_leq3 rfl rfl rfl (by decide))) rfl rfl hs hB (fun a w hs hB => ?_)
 refine l_fit (v := .bool false) (fit_on rfl rfl rfl (ok_move rfl rfl)) rfl rfl hs hB (fun a w hs hB => ?_)
 refine l_fit (v := undef) (fit_off rfl rfl rfl rfl) rfl rfl hs hB (fun a w hs hB => ?_)
 refine l_fit (v := undef) (fit_off rfl rfl rfl rfl) rfl rfl hs hB (fun a w hs hB => ?_)
 refine l_fit (v := .bool false) (fit_on rfl rfl rfl (ok_pick_f rfl rfl rfl)) rfl rfl hs hB (fun a w hs hB => ?_)
 refine l_fit (v := .bool false) (fit_on rfl rfl rfl (ok_move rfl rfl)) rfl rfl hs hB (fun a w hs hB => ?_)
 refine l_fit (v := undef) (fit_off rfl rfl rfl rfl) rfl rfl hs hB (fun a w hs hB => ?_)
 refine l_fit (v := undef) (fit_off rfl rfl rfl rfl) rfl rfl hs hB (fun a w hs hB => ?_)
 refine l_fit (v := undef) (fit_off rfl rfl rfl rfl) rfl rfl hs hB (fun a w hs hB => ?_)
 refine l_fit (v := undef) (fit_off rfl rfl rfl rfl) rfl rfl hs hB (fun a w hs hB => ?_)
 refine l_fit (v := .bool false) (fit_on rfl rfl rfl (ok_pick_f rfl rfl rfl)) rfl rfl hs hB (fun a w hs hB => ?_)
 refine l_fit (v := .bool false) (fit_free rfl (ok_pick_f rfl rfl rfl)) rfl rfl hs hB (fun a w hs hB => ?_)
 refine l_fit (v := .bool false) (fit_free rfl (ok_move rfl rfl)) rfl rfl hs hB (fun a w hs hB => ?_)
 refine l_fit (v := .int .i64 1) (fit_on rfl rfl rfl (ok_move rfl rfl)) rfl rfl hs hB (fun a w hs hB => ?_)
 refine l_fit (v := .bool true) (fit_on rfl rfl rfl (ok_geq3 rfl rfl rfl (by decide))) rfl rfl hs hB (fun a w hs hB => ?_)
 refine l_fit (v := .bool true) (fit_on rfl rfl rfl (ok_move rfl rfl)) rfl rfl hs hB (fun a w hs hB => ?_)
 refine l_fit (v := .int .i64 y) (fit_on rfl rfl rfl (ok_move rfl rfl)) rfl rfl hs hB (fun a w hs hB => ?_)
 refine l_fit (v := .bool true) (fit_on rfl rfl rfl (ok_geq3 rfl rfl rfl (by simp <;> omega))) rfl rfl hs hB (fun a w hs hB => ?_)
 refine l_fit (v := .bool true) (fit_on rfl rfl rfl (ok_pick_t rfl rfl rfl)) rfl rfl hs hB (fun a w hs hB => ?_)
 refine l_fit (v := .bool true) (fit_on rfl rfl rfl (ok_move rfl rfl)) rfl rfl hs hB (fun a w hs hB => ?_)
 refine l_fit (v := .agg #[.int .i64 aN, .int .i64 aD]) (fit_on rfl rfl rfl (ok_load25 (k := 2) rfl rfl rfl rfl rfl)) rfl rfl hs hB (fun a w hs hB => ?_)
 refine l_fit (v := .agg #[.int .i64 cN, .int .i64 cD]) (fit_on rfl rfl rfl (ok_load25 (k := 0) rfl rfl rfl rfl rfl)) rfl rfl hs hB (fun a w hs hB => ?_)
 refine l_fit (v := .int .i64 z) (fit_on rfl rfl rfl (ok_call (args := #[.agg #[.int .i64 aN, .int .i64 aD], .agg #[.int .i64 cN, .int .i64 cD]]) rfl Tryd.func13 (by kernel_rfl) rfl rfl (viaB fun w => F.fraction_Cmp.calls _ _ _ _ _ w e2))) rfl rfl hs hB (fun a w hs hB => ?_)
 refine l_fit (v := .bool false) (fit_on rfl rfl rfl (ok_lss3 rfl rfl rfl (by simp <;> omega))) rfl rfl hs hB (fun a w hs hB => ?_)
 refine l_fit (v := .bool false) (fit_on rfl rfl rfl (ok_pick_t rfl rfl rfl)) rfl rfl hs hB (fun a w hs hB => ?_)
 refine l_fit (v := .bool false) (fit_free rfl (ok_pick_f rfl rfl rfl)) rfl rfl hs hB (fun a w hs hB => ?_)
 refine l_nil ?_
 replace hs := hs.sub (l := [(99, .bool false), (7, .bool true), (8, pt g8 0), (9, pt g9 0), (10, pt g10 0), (11, .int .i64 1)]) (⟨rfl, rfl, rfl, rfl, rfl, rfl, trivial⟩)
 refine c_false hs rfl ?_
 refine wp_skip ?_
 refine then_n ?_
 replace hs := hs.sub (l := [(7, .bool true), (8, pt g8 0), (9, pt g9 0), (10, pt g10 0), (11, .int .i64 1)]) (⟨rfl, rfl, rfl, rfl, rfl, trivial⟩)
 replace hs := hs.sub (l := [(7, .bool true), (8, pt g8 0), (9, pt g9 0), (10, pt g10 0), (11, .int .i64 1)]) (⟨rfl, rfl, rfl, rfl, rfl, trivial⟩)
 exact H  a w hs hB

theorem o11n (K : Nat) (w0 : World) (g10 g9 g8 : Nat) (aN aD bN bD cN cD x D0 D1 D2 : Int) (hD : F.wireloomlaw02_sub.f K aN aD bN bD = some (D0, D1, D2)) (hd : D2 ≠ 0) (H : ∀ a w, Sl 215 [(7, .bool true), (8, pt g8 0), (9, pt g9 0), (10, pt g10 0), (11, .int .i64 x)] a → Bl w0 [(g10, .cells #[.int .i64 cN, .int .i64 cD] 25 (0, 0)), (g9, .cells #[.int .i64 bN, .int .i64 bD] 25 (0, 0)), (g8, .cells #[.int .i64 aN, .int .i64 aD] 25 (0, 0))] w → (restOf Tryd.f6 14).wp Tryd.prog (bodyPost Tryd.prog Tryd.f6 fun e w' => e = .returned (.bool true) ∧ Below w0.heap.size w0 w') a w) :
  ∀ a w, Sl 215 [(7, .bool true), (8, pt g8 0), (9, pt g9 0), (10, pt g10 0), (11, .int .i64 x)] a → Bl w0 [(g10, .cells #[.int .i64 cN, .int .i64 cD] 25 (0, 0)), (g9, .cells #[.int .i64 bN, .int .i64 bD] 25 (0, 0)), (g8, .cells #[.int .i64 aN, .int .i64 aD] 25 (0, 0))] w → (restOf Tryd.f6 11).wp Tryd.prog (bodyPost Tryd.prog Tryd.f6 fun e w' => e = .returned (.bool true) ∧ Below w0.heap.size w0 w') a w := by
 intro a w hs hB
 conv => arg 2; whnf
 refine c_list ?_
 refine l_fit (v := .agg #[.int .i64 aN, .int .i64 aD]) (fit_free rfl (ok_load25 (k := 2) rfl rfl rfl rfl rfl)) rfl rfl hs hB (fun a w hs hB => ?_)
 refine l_fit (v := .agg #[.int .i64 bN, .int .i64 bD]) (fit_free rfl (ok_load25 (k := 1) rfl rfl rfl rfl rfl)) rfl rfl hs hB (fun a w hs hB => ?_)
 refine l_fit (v := .agg #[.int .i64 D0, .int .i64 D1, .int .i64 D2]) (fit_free rfl (ok_call (args := #[.agg #[.int .i64 aN, .int .i64 aD], .agg #[.int .i64 bN, .int .i64 bD]]) rfl Tryd.func21 (by kernel_rfl) rfl rfl (viaB fun w => F.wireloomlaw02_sub.calls K _ _ _ _ _ _ _ w hD))) rfl rfl hs hB (fun a w hs hB => ?_)
 refine l_alloc31 rfl rfl rfl rfl hs hB (fun g13 a w hs hB => ?_)
 refine l_store31 (k := 0) (cs' := #[.int .i64 D0, .int .i64 D1, .int .i64 D2]) rfl rfl rfl rfl rfl rfl rfl rfl hs hB (fun w hB => ?_)
 replace hB : Bl w0 [(g13, .cells #[.int .i64 D0, .int .i64 D1, .int .i64 D2] 31 (0, 0)), (g10, .cells #[.int .i64 cN, .int .i64 cD] 25 (0, 0)), (g9, .cells #[.int .i64 bN, .int .i64 bD] 25 (0, 0)), (g8, .cells #[.int .i64 aN, .int .i64 aD] 25 (0, 0))] w := hB
 refine l_nil ?_
 replace hs := hs.sub (l := [(13, pt g13 0), (7, .bool true), (8, pt g8 0), (9, pt g9 0), (10, pt g10 0), (11, .int .i64 x)]) (⟨rfl, rfl, rfl, rfl, rfl, rfl, trivial⟩)
 refine wp_seq ?_
 refine c_list ?_
 refine l_fit (v := pt g13 2) (fit_free rfl (ok_fieldAddr31_1 rfl rfl)) rfl rfl hs hB (fun a w hs hB => ?_)
 refine l_fit (v := .int .i64 D2) (fit_free rfl (ok_load29 (k := 0) rfl rfl rfl rfl)) rfl rfl hs hB (fun a w hs hB => ?_)
 refine l_fit (v := .bool false) (fit_free rfl (ok_eq29 rfl rfl rfl (decide_eq_false hd))) rfl rfl hs hB (fun a w hs hB => ?_)
 refine l_fit (v := .bool false) (fit_free rfl (ok_move rfl rfl)) rfl rfl hs hB (fun a w hs hB => ?_)
 refine l_fit (v := undef) (fit_off rfl rfl rfl rfl) rfl rfl hs hB (fun a w hs hB => ?_)
 refine l_fit (v := undef) (fit_off rfl rfl rfl rfl) rfl rfl hs hB (fun a w hs hB => ?_)
 refine l_fit (v := undef) (fit_off rfl rfl rfl rfl) rfl rfl hs hB (fun a w hs hB => ?_)
 refine l_fit (v := undef) (fit_off rfl rfl rfl rfl) rfl rfl hs hB (fun a w hs hB => ?_)
 refine l_fit (v := undef) (fit_off rfl rfl rfl rfl) rfl rfl hs hB (fun a w hs hB => ?_)
 refine l_fit (v := undef) (fit_off rfl rfl rfl rfl) rfl rfl hs hB (fun a w hs hB => ?_)
 refine l_fit (v := undef) (fit_off rfl rfl rfl rfl) rfl rfl hs hB (fun a w hs hB => ?_)
 refine l_fit (v := .bool false) (fit_free rfl (ok_pick_f rfl rfl rfl)) rfl rfl hs hB (fun a w hs hB => ?_)
 refine l_fit (v := .bool false) (fit_free rfl (ok_move rfl rfl)) rfl rfl hs hB (fun a w hs hB => ?_)
 refine l_fit (v := pt g13 2) (fit_on rfl rfl rfl (ok_fieldAddr31_1 rfl rfl)) rfl rfl hs hB (fun a w hs hB => ?_)
 refine l_fit (v := .int .i64 D2) (fit_on rfl rfl rfl (ok_load29 (k := 0) rfl rfl rfl rfl)) rfl rfl hs hB (fun a w hs hB => ?_)
 refine l_fit (v := .bool false) (fit_on rfl rfl rfl (ok_eq29 rfl rfl rfl (decide_eq_false hd))) rfl rfl hs hB (fun a w hs hB => ?_)
 refine l_fit (v := .bool false) (fit_on rfl rfl rfl (ok_move rfl rfl)) rfl rfl hs hB (fun a w hs hB => ?_)
 refine l_fit (v := undef) (fit_off rfl rfl rfl rfl) rfl rfl hs hB (fun a w hs hB => ?_)
 refine l_fit (v := undef) (fit_off rfl rfl rfl rfl) rfl rfl hs hB (fun a w hs hB => ?_)
 refine l_fit (v := undef) (fit_off rfl rfl rfl rfl) rfl rfl hs hB (fun a w hs hB => ?_)
 refine l_fit (v := undef) (fit_off rfl rfl rfl rfl) rfl rfl hs hB (fun a w hs hB => ?_)
 refine l_fit (v := undef) (fit_off rfl rfl rfl rfl) rfl rfl hs hB (fun a w hs hB => ?_)
 refine l_fit (v := undef) (fit_off rfl rfl rfl rfl) rfl rfl hs hB (fun a w hs hB => ?_)
 refine l_fit (v := undef) (fit_off rfl rfl rfl rfl) rfl rfl hs hB (fun a w hs hB => ?_)
 refine l_fit (v := .bool false) (fit_on rfl rfl rfl (ok_pick_f rfl rfl rfl)) rfl rfl hs hB (fun a w hs hB => ?_)
 refine l_fit (v := .bool false) (fit_free rfl (ok_pick_f rfl rfl rfl)) rfl rfl hs hB (fun a w hs hB => ?_)
 refine l_nil ?_
 replace hs := hs.sub (l := [(128, .bool false), (7, .bool true), (8, pt g8 0), (9, pt g9 0), (10, pt g10 0), (11, .int .i64 x)]) (⟨rfl, rfl, rfl, rfl, rfl, rfl, trivial⟩)
 refine c_false hs rfl ?_
 refine wp_skip ?_
 refine then_n ?_
 replace hs := hs.sub (l := [(7, .bool true), (8, pt g8 0), (9, pt g9 0), (10, pt g10 0), (11, .int .i64 x)]) (⟨rfl, rfl, rfl, rfl, rfl, trivial⟩)
 replace hs := hs.sub (l := [(7, .bool true), (8, pt g8 0), (9, pt g9 0), (10, pt g10 0), (11, .int .i64 x)]) (⟨rfl, rfl, rfl, rfl, rfl, trivial⟩)
 replace hB : Bl w0 [(g10, .cells #[.int .i64 cN, .int .i64 cD] 25 (0, 0)), (g9, .cells #[.int .i64 bN, .int .i64 bD] 25 (0, 0)), (g8, .cells #[.int .i64 aN, .int .i64 aD] 25 (0, 0))] w := hB.keep [false, true, true, true]
 exact H  a w hs hB

theorem o11m (K : Nat) (w0 : World) (g10 g9 g8 : Nat) (aN aD bN bD cN cD D0 D1 : Int) (hD : F.wireloomlaw02_sub.f K aN aD bN bD = some (D0, D1, 0)) (hd : D0 < 0) (H : ∀ a w, Sl 215 [(7, .bool true), (8, pt g8 0), (9, pt g9 0), (10, pt g10 0), (11, .int .i64 (-1))] a → Bl w0 [(g10, .cells #[.int .i64 cN, .int .i64 cD] 25 (0, 0)), (g9, .cells #[.int .i64 bN, .int .i64 bD] 25 (0, 0)), (g8, .cells #[.int .i64 aN, .int .i64 aD] 25 (0, 0))] w → (restOf Tryd.f6 14).wp Tryd.prog (bodyPost Tryd.prog Tryd.f6 fun e w' => e = .returned (.bool true) ∧ Below w0.heap.size w0 w') a w) :
  ∀ a w, Sl 215 [(7, .bool true), (8, pt g8 0), (9, pt g9 0), (10, pt g10 0), (11, .int .i64 (-1))] a → Bl w0 [(g10, .cells #[.int .i64 cN, .int .i64 cD] 25 (0, 0)), (g9, .cells #[.int .i64 bN, .int .i64 bD] 25 (0, 0)), (g8, .cells #[.int .i64 aN, .int .i64 aD] 25 (0, 0))] w → (restOf Tryd.f6 11).wp Tryd.prog (bodyPost Tryd.prog Tryd.f6 fun e w' => e = .returned (.bool true) ∧ Below w0.heap.size w0 w') a w := by
 intro a w hs hB
 conv => arg 2; whnf
 refine c_list ?_
 refine l_fit (v := .agg #[.int .i64 aN, .int .i64 aD]) (fit_free rfl (ok_load25 (k := 2) rfl rfl rfl rfl rfl)) rfl rfl hs hB (fun a w hs hB => ?_)
 refine l_fit (v := .agg #[.int .i64 bN, .int .i64 bD]) (fit_free rfl (ok_load25 (k := 1) rfl rfl rfl rfl rfl)) rfl rfl hs hB (fun a w hs hB => ?_)
 refine l_fit (v := .agg #[.int .i64 D0, .int .i64 D1, .int .i64 0]) (fit_free rfl (ok_call (args := #[.agg #[.int .i64 aN, .int .i64 aD], .agg #[.int .i64 bN, .int .i64 bD]]) rfl Tryd.func21 (by kernel_rfl) rfl rfl (viaB fun w => F.wireloomlaw02_sub.calls K _ _ _ _ _ _ _ w hD))) rfl rfl hs hB (fun a w hs hB => ?_)
 refine l_alloc31 rfl rfl rfl rfl hs hB (fun g13 a w hs hB => ?_)
 refine l_store31 (k := 0) (cs' := #[.int .i64 D0, .int .i64 D1, .int .i64 0]) rfl rfl rfl rfl rfl rfl rfl rfl hs hB (fun w hB => ?_)
 replace hB : Bl w0 [(g13, .cells #[.int .i64 D0, .int .i64 D1, .int .i64 0] 31 (0, 0)), (g10, .cells #[.int .i64 cN, .int .i64 cD] 25 (0, 0)), (g9, .cells #[.int .i64 bN, .int .i64 bD] 25 (0, 0)), (g8, .cells #[.int .i64 aN, .int .i64 aD] 25 (0, 0))] w := hB
 refine l_nil ?_
 replace hs := hs.sub (l := [(13, pt g13 0), (7, .bool true), (8, pt g8 0), (9, pt g9 0), (10, pt g10 0), (11, .int .i64 (-1))]) (⟨rfl, rfl, rfl, rfl, rfl, rfl, trivial⟩)
 refine wp_seq ?_
 refine c_list ?_
 refine l_fit (v := pt g13 2) (fit_free rfl (ok_fieldAddr31_1 rfl rfl)) rfl rfl hs hB (fun a w hs hB => ?_)
 refine l_fit (v := .int .i64 0) (fit_free rfl (ok_load29 (k := 0) rfl rfl rfl rfl)) rfl rfl hs hB (fun a w hs hB => ?_)
 refine l_fit (v := .bool true) (fit_free rfl (ok_eq29 rfl rfl rfl (by decide))) rfl rfl hs hB (fun a w hs hB => ?_)
 refine l_fit (v := .bool true) (fit_free rfl (ok_move rfl rfl)) rfl rfl hs hB (fun a w hs hB => ?_)
 refine l_fit (v := pt g13 0) (fit_on rfl rfl rfl (ok_fieldAddr31_0 rfl rfl)) rfl rfl hs hB (fun a w hs hB => ?_)
 refine l_fit (v := pt g13 0) (fit_on rfl rfl rfl (ok_fieldAddr25_0 rfl rfl)) rfl rfl hs hB (fun a w hs hB => ?_)
 refine l_fit (v := .int .i64 D0) (fit_on rfl rfl rfl (ok_load3 (k := 0) rfl rfl rfl rfl)) rfl rfl hs hB (fun a w hs hB => ?_)
 refine l_fit (v := .bool false) (fit_on rfl rfl rfl (ok_gtr3 rfl rfl rfl (by simp <;> omega))) rfl rfl hs hB (fun a w hs hB => ?_)
 refine l_fit (v := .int .i64 (-1)) (fit_on rfl rfl rfl (ok_move rfl rfl)) rfl rfl hs hB (fun a w hs hB => ?_)
 refine l_fit (v := .bool false) (fit_on rfl rfl rfl (ok_gtr3 rfl rfl rfl (by decide))) rfl rfl hs hB (fun a w hs hB => ?_)
 refine l_fit (v := .bool false) (fit_on rfl rfl rfl (ok_neq4 rfl rfl rfl (rfl))) rfl rfl hs hB (fun a w hs hB => ?_)
 refine l_fit (v := .bool false) (fit_free rfl (ok_pick_t rfl rfl rfl)) rfl rfl hs hB (fun a w hs hB => ?_)
 refine l_fit (v := .bool false) (fit_free rfl (ok_move rfl rfl)) rfl rfl hs hB (fun a w hs hB => ?_)
 refine l_fit (v := pt g13 2) (fit_on rfl rfl rfl (ok_fieldAddr31_1 rfl rfl)) rfl rfl hs hB (fun a w hs hB => ?_)
 refine l_fit (v := .int .i64 0) (fit_on rfl rfl rfl (ok_load29 (k := 0) rfl rfl rfl rfl)) rfl rfl hs hB (fun a w hs hB => ?_)
 refine l_fit (v := .bool true) (fit_on rfl rfl rfl (ok_eq29 rfl rfl rfl (by decide))) rfl rfl hs hB (fun a w hs hB => ?_)
 refine l_fit (v := .bool true) (fit_on rfl rfl rfl (ok_move rfl rfl)) rfl rfl hs hB (fun a w hs hB => ?_)
 refine l_fit (v := pt g13 0) (fit_on rfl rfl rfl (ok_fieldAddr31_0 rfl rfl)) rfl rfl hs hB (fun a w hs hB => ?_)
 refine l_fit (v := pt g13 0) (fit_on rfl rfl rfl (ok_fieldAddr25_0 rfl rfl)) rfl rfl hs hB (fun a w hs hB => ?_)
 refine l_fit (v := .int .i64 D0) (fit_on rfl rfl rfl (ok_load3 (k := 0) rfl rfl rfl rfl)) rfl rfl hs hB (fun a w hs hB => ?_)
 refine l_fit (v := .bool true) (fit_on rfl rfl rfl (ok_lss3 rfl rfl rfl (by simp <;> omega))) rfl rfl hs hB (fun a w hs hB => ?_)
 refine l_fit (v := .int .i64 (-1)) (fit_on rfl rfl rfl (ok_move rfl rfl)) rfl rfl hs hB (fun a w hs hB => ?_)
 refine l_fit (v := .bool true) (fit_on rfl rfl rfl (ok_lss3 rfl rfl rfl (by decide))) rfl rfl hs hB (fun a w hs hB => ?_)
 refine l_fit (v := .bool false) (fit_on rfl rfl rfl (ok_neq4 rfl rfl rfl (rfl))) rfl rfl hs hB (fun a w hs hB => ?_)
 refine l_fit (v := .bool false) (fit_on rfl rfl rfl (ok_pick_t rfl rfl rfl)) rfl rfl hs hB (fun a w hs hB => ?_)
 refine l_fit (v := .bool false) (fit_free rfl (ok_pick_f rfl rfl rfl)) rfl rfl hs hB (fun a w hs hB => ?_)
 refine l_nil ?_
 replace hs := hs.sub (l := [(128, .bool false), (7, .bool true), (8, pt g8 0), (9, pt g9 0), (10, pt g10 0), (11, .int .i64 (-1))]) (⟨rfl, rfl, rfl, rfl, rfl, rfl, trivial⟩)
 refine c_false hs rfl ?_
 refine wp_skip ?_
 refine then_n ?_
 replace hs := hs.sub (l := [(7, .bool true), (8, pt g8 0), (9, pt g9 0), (10, pt g10 0), (11, .int .i64 (-1))]) (⟨rfl, rfl, rfl, rfl, rfl, trivial⟩)
 replace hs := hs.sub (l := [(7, .bool true), (8, pt g8 0), (9, pt g9 0), (10, pt g10 0), (11, .int .i64 (-1))]) (⟨rfl, rfl, rfl, rfl, rfl, trivial⟩)
 replace hB : Bl w0 [(g10, .cells #[.int .i64 cN, .int .i64 cD] 25 (0, 0)), (g9, .cells #[.int .i64 bN, .int .i64 bD] 25 (0, 0)), (g8, .cells #[.int .i64 aN, .int .i64 aD] 25 (0, 0))] w := hB.keep [false, true, true, true]
 exact H  a w hs hB

theorem o11z (K : Nat) (w0 : World) (g10 g9 g8 : Nat) (aN aD bN bD cN cD D0 D1 : Int) (hD : F.wireloomlaw02_sub.f K aN aD bN bD = some (D0, D1, 0)) (hd : D0 = 0) (H : ∀ a w, Sl 215 [(7, .bool true), (8, pt g8 0), (9, pt g9 0), (10, pt g10 0), (11, .int .i64 0)] a → Bl w0 [(g10, .cells #[.int .i64 cN, .int .i64 cD] 25 (0, 0)), (g9, .cells #[.int .i64 bN, .int .i64 bD] 25 (0, 0)), (g8, .cells #[.int .i64 aN, .int .i64 aD] 25 (0, 0))] w → (restOf Tryd.f6 14).wp Tryd.prog (bodyPost Tryd.prog Tryd.f6 fun e w' => e = .returned (.bool true) ∧ Below w0.heap.size w0 w') a w) :
  ∀ a w, Sl 215 [(7, .bool true), (8, pt g8 0), (9, pt g9 0), (10, pt g10 0), (11, .int .i64 0)] a → Bl w0 [(g10, .cells #[.int .i64 cN, .int .i64 cD] 25 (0, 0)), (g9, .cells #[.int .i64 bN, .int .i64 bD] 25 (0, 0)), (g8, .cells #[.int .i64 aN, .int .i64 aD] 25 (0, 0))] w → (restOf Tryd.f6 11).wp Tryd.prog (bodyPost Tryd.prog Tryd.f6 fun e w' => e = .returned (.bool true) ∧ Below w0.heap.size w0 w') a w := by
 intro a w hs hB
 conv => arg 2; whnf
 refine c_list ?_
 refine l_fit (v := .agg #[.int .i64 aN, .int .i64 aD]) (fit_free rfl (ok_load25 (k := 2) rfl rfl rfl rfl rfl)) rfl rfl hs hB (fun a w hs hB => ?_)
 refine l_fit (v := .agg #[.int .i64 bN, .int .i64 bD]) (fit_free rfl (ok_load25 (k := 1) rfl rfl rfl rfl rfl)) rfl rfl hs hB (fun a w hs hB => ?_)
 refine l_fit (v := .agg #[.int .i64 D0, .int .i64 D1, .int .i64 0]) (fit_free rfl (ok_call (args := #[.agg #[.int .i64 aN, .int .i64 aD], .agg #[.int .i64 bN, .int .i64 bD]]) rfl Tryd.func21 (by kernel_rfl) rfl rfl (viaB fun w => F.wireloomlaw02_sub.calls K _ _ _ _ _ _ _ w hD))) rfl rfl hs hB (fun a w hs hB => ?_)
 refine l_alloc31 rfl rfl rfl rfl hs hB (fun g13 a w hs hB => ?_)
 refine l_store31 (k := 0) (cs' := #[.int .i64 D0, .int .i64 D1, .int .i64 0]) rfl rfl rfl rfl rfl rfl rfl rfl hs hB (fun w hB => ?_)
 replace hB : Bl w0 [(g13, .cells #[.int .i64 D0, .int .i64 D1, .int .i64 0] 31 (0, 0)), (g10, .cells #[.int .i64 cN, .int .i64 cD] 25 (0, 0)), (g9, .cells #[.int .i64 bN, .int .i64 bD] 25 (0, 0)), (g8, .cells #[.int .i64 aN, .int .i64 aD] 25 (0, 0))] w := hB
 refine l_nil ?_
 replace hs := hs.sub (l := [(13, pt g13 0), (7, .bool true), (8, pt g8 0), (9, pt g9 0), (10, pt g10 0), (11, .int .i64 0)]) (⟨rfl, rfl, rfl, rfl, rfl, rfl, trivial⟩)
 refine wp_seq ?_
 refine c_list ?_
 refine l_fit (v := pt g13 2) (fit_free rfl (ok_fieldAddr31_1 rfl rfl)) rfl rfl hs hB (fun a w hs hB => ?_)
 refine l_fit (v := .int .i64 0) (fit_free rfl (ok_load29 (k := 0) rfl rfl rfl rfl)) rfl rfl hs hB (fun a w hs hB => ?_)
 refine l_fit (v := .bool true) (fit_free rfl (ok_eq29 rfl rfl rfl (by decide))) rfl rfl hs hB (fun a w hs hB => ?_)
 refine l_fit (v := .bool true) (fit_free rfl (ok_move rfl rfl)) rfl rfl hs hB (fun a w hs hB => ?_)
 refine l_fit (v := pt g13 0) (fit_on rfl rfl rfl (ok_fieldAddr31_0 rfl rfl)) rfl rfl hs hB (fun a w hs hB => ?_)
 refine l_fit (v := pt g13 0) (fit_on rfl rfl rfl (ok_fieldAddr25_0 rfl rfl)) rfl rfl hs hB (fun a w hs hB => ?_)
 refine l_fit (v := .int .i64 D0) (fit_on rfl rfl rfl (ok_load3 (k := 0) rfl rfl rfl rfl)) rfl rfl hs hB (fun a w hs hB => ?_)
 refine l_fit (v := .bool false) (fit_on rfl rfl rfl (ok_gtr3 rfl rfl rfl (by simp <;> omega))) rfl rfl hs hB (fun a w hs hB => ?_)
 refine l_fit (v := .int .i64 0) (fit_on rfl rfl rfl (ok_move rfl rfl)) rfl rfl hs hB (fun a w hs hB => ?_)
 refine l_fit (v := .bool false) (fit_on rfl rfl rfl (ok_gtr3 rfl rfl rfl (by decide))) rfl rfl hs hB (fun a w hs hB => ?_)
 refine l_fit (v := .bool false) (fit_on rfl rfl rfl (ok_neq4 rfl rfl rfl (rfl))) rfl rfl hs hB (fun a w hs hB => ?_)
 refine l_fit (v := .bool false) (fit_free rfl (ok_pick_t rfl rfl rfl)) rfl rfl hs hB (fun a w hs hB => ?_)
 refine l_fit (v := .bool false) (fit_free rfl (ok_move rfl rfl)) rfl rfl hs hB (fun a w hs hB => ?_)
 refine l_fit (v := pt g13 2) (fit_on rfl rfl rfl (ok_fieldAddr31_1 rfl rfl)) rfl rfl hs hB (fun a w hs hB => ?_)
 refine l_fit (v := .int .i64 0) (fit_on rfl rfl rfl (ok_load29 (k := 0) rfl rfl rfl rfl)) rfl rfl hs hB (fun a w hs hB => ?_)
 refine l_fit (v := .bool true) (fit_on rfl rfl rfl (ok_eq29 rfl rfl rfl (by decide))) rfl rfl hs hB (fun a w hs hB => ?_)
 refine l_fit (v := .bool true) (fit_on rfl rfl rfl (ok_move rfl rfl)) rfl rfl hs hB (fun a w hs hB => ?_)
 refine l_fit (v := pt g13 0) (fit_on rfl rfl rfl (ok_fieldAddr31_0 rfl rfl)) rfl rfl hs hB (fun a w hs hB => ?_)
 refine l_fit (v := pt g13 0) (fit_on rfl rfl rfl (ok_fieldAddr25_0 rfl rfl)) rfl rfl hs hB (fun a w hs hB => ?_)
 refine l_fit (v := .int .i64 D0) (fit_on rfl rfl rfl (ok_load3 (k := 0) rfl rfl rfl rfl)) rfl rfl hs hB (fun a w hs hB => ?_)
 refine l_fit (v := .bool false) (fit_on rfl rfl rfl (ok_lss3 rfl rfl rfl (by simp <;> omega))) rfl rfl hs hB (fun a w hs hB => ?_)
 refine l_fit (v := .int .i64 0) (fit_on rfl rfl rfl (ok_move rfl rfl)) rfl rfl hs hB (fun a w hs hB => ?_)
 refine l_fit (v := .bool false) (fit_on rfl rfl rfl (ok_lss3 rfl rfl rfl (by decide))) rfl rfl hs hB (fun a w hs hB => ?_)
 refine l_fit (v := .bool false) (fit_on rfl rfl rfl (ok_neq4 rfl rfl rfl (rfl))) rfl rfl hs hB (fun a w hs hB => ?_)
 refine l_fit (v := .bool false) (fit_on rfl rfl rfl (ok_pick_t rfl rfl rfl)) rfl rfl hs hB (fun a w hs hB => ?_)
 refine l_fit (v := .bool false) (fit_free rfl (ok_pick_f rfl rfl rfl)) rfl rfl hs hB (fun a w hs hB => ?_)
 refine l_nil ?_
 replace hs := hs.sub (l := [(128, .bool false), (7, .bool true), (8, pt g8 0), (9, pt g9 0), (10, pt g10 0), (11, .int .i64 0)]) (⟨rfl, rfl, rfl, rfl, rfl, rfl, trivial⟩)
 refine c_false hs rfl ?_
 refine wp_skip ?_
 refine then_n ?_
 replace hs := hs.sub (l := [(7, .bool true), (8, pt g8 0), (9, pt g9 0), (10, pt g10 0), (11, .int .i64 0)]) (⟨rfl, rfl, rfl, rfl, rfl, trivial⟩)
 replace hs := hs.sub (l := [(7, .bool true), (8, pt g8 0), (9, pt g9 0), (10, pt g10 0), (11, .int .i64 0)]) (⟨rfl, rfl, rfl, rfl, rfl, trivial⟩)
 replace hB : Bl w0 [(g10, .cells #[.int .i64 cN, .int .i64 cD] 25 (0, 0)), (g9, .cells #[.int .i64 bN, .int .i64 bD] 25 (0, 0)), (g8, .cells #[.int .i64 aN, .int .i64 aD] 25 (0, 0))] w := hB.keep [false, true, true, true]
 exact H  a w hs hB

theorem o11p (K : Nat) (w0 : World) (g10 g9 g8 : Nat) (aN aD bN bD cN cD D0 D1 : Int) (hD : F.wireloomlaw02_sub.f K aN aD bN bD = some (D0, D1, 0)) (hd : D0 > 0) (H : ∀ a w, Sl 215 [(7, .bool true), (8, pt g8 0), (9, pt g9 0), (10, pt g10 0), (11, .int .i64 1)] a → Bl w0 [(g10, .cells #[.int .i64 cN, .int .i64 cD] 25 (0, 0)), (g9, .cells #[.int .i64 bN, .int .i64 bD] 25 (0, 0)), (g8, .cells #[.int .i64 aN, .int .i64 aD] 25 (0, 0))] w → (restOf Tryd.f6 14).wp Tryd.prog (bodyPost Tryd.prog Tryd.f6 fun e w' => e = .returned (.bool true) ∧ Below w0.heap.size w0 w') a w) :
  ∀ a w, Sl 215 [(7, .bool true), (8, pt g8 0), (9, pt g9 0), (10, pt g10 0), (11, .int .i64 1)] a → Bl w0 [(g10, .cells #[.int .i64 cN, .int .i64 cD] 25 (0, 0)), (g9, .cells #[.int .i64 bN, .int .i64 bD] 25 (0, 0)), (g8, .cells #[.int .i64 aN, .int .i64 aD] 25 (0, 0))] w → (restOf Tryd.f6 11).wp Tryd.prog (bodyPost Tryd.prog Tryd.f6 fun e w' => e = .returned (.bool true) ∧ Below w0.heap.size w0 w') a w := by
 intro a w hs hB
 conv => arg 2; whnf
 refine c_list ?_
 refine l_fit (v := .agg #[.int .i64 aN, .int .i64 aD]) (fit_free rfl (ok_load25 (k := 2) rfl rfl rfl rfl rfl)) rfl rfl hs hB (fun a w hs hB => ?_)
 refine l_fit (v := .agg #[.int .i64 bN, .int .i64 bD]) (fit_free rfl (ok_load25 (k := 1) rfl rfl rfl rfl rfl)) rfl rfl hs hB (fun a w hs hB => ?_)
 refine l_fit (v := .agg #[.int .i64 D0, .int .i64 D1, .int .i64 0]) (fit_free rfl (ok_call (args := #[.agg #[.int .i64 aN, .int .i64 aD], .agg #[.int .i64 bN, .int .i64 bD]]) rfl Tryd.func21 (by kernel_rfl) rfl rfl (viaB fun w => F.wireloomlaw02_sub.calls K _ _ _ _ _ _ _ w hD))) rfl rfl hs hB (fun a w hs hB => ?_)
 refine l_alloc31 rfl rfl rfl rfl hs hB (fun g13 a w hs hB => ?_)
 refine l_store31 (k := 0) (cs' := #[.int .i64 D0, .int .i64 D1, .int .i64 0]) rfl rfl rfl rfl rfl rfl rfl rfl hs hB (fun w hB => ?_)
 replace hB : Bl w0 [(g13, .cells #[.int .i64 D0, .int .i64 D1, .int .i64 0] 31 (0, 0)), (g10, .cells #[.int .i64 cN, .int .i64 cD] 25 (0, 0)), (g9, .cells #[.int .i64 bN, .int .i64 bD] 25 (0, 0)), (g8, .cells #[.int .i64 aN, .int .i64 aD] 25 (0, 0))] w := hB
 refine l_nil ?_
 replace hs := hs.sub (l := [(13, pt g13 0), (7, .bool true), (8, pt g8 0), (9, pt g9 0), (10, pt g10 0), (11, .int .i64 1)]) (⟨rfl, rfl, rfl, rfl, rfl, rfl, trivial⟩)
 refine wp_seq ?_
 refine c_list ?_
 refine l_fit (v := pt g13 2) (fit_free rfl (ok_fieldAddr31_1 rfl rfl)) rfl rfl hs hB (fun a w hs hB => ?_)
 refine l_fit (v := .int .i64 0) (fit_free rfl (ok_load29 (k := 0) rfl rfl rfl rfl)) rfl rfl hs hB (fun a w hs hB => ?_)
 refine l_fit (v := .bool true) (fit_free rfl (ok_eq29 rfl rfl rfl (by decide))) rfl rfl hs hB (fun a w hs hB => ?_)
 refine l_fit (v := .bool true) (fit_free rfl (ok_move rfl rfl)) rfl rfl hs hB (fun a w hs hB => ?_)
 refine l_fit (v := pt g13 0) (fit_on rfl rfl rfl (ok_fieldAddr31_0 rfl rfl)) rfl rfl hs hB (fun a w hs hB => ?_)
 refine l_fit (v := pt g13 0) (fit_on rfl rfl rfl (ok_fieldAddr25_0 rfl rfl)) rfl rfl hs hB (fun a w hs hB => ?_)
 refine l_fit (v := .int .i64 D0) (fit_on rfl rfl rfl (ok_load3 (k := 0) rfl rfl rfl rfl)) rfl rfl hs hB (fun a w hs hB => ?_)
 refine l_fit (v := .bool true) (fit_on rfl rfl rfl (ok_gtr3 rfl rfl rfl (by simp <;> omega))) rfl rfl hs hB (fun a w hs hB => ?_)
 refine l_fit (v := .int .i64 1) (fit_on rfl rfl rfl (ok_move rfl rfl)) rfl rfl hs hB (fun a w hs hB => ?_)
 refine l_fit (v := .bool true) (fit_on rfl rfl rfl (ok_gtr3 rfl rfl rfl (by decide))) rfl rfl hs hB (fun a w hs hB => ?_)
 refine l_fit (v := .bool false) (fit_on rfl rfl rfl (ok_neq4 rfl rfl rfl (rfl))) rfl rfl hs hB (fun a w hs hB => ?_)
 refine l_fit (v := .bool false) (fit_free rfl (ok_pick_t rfl rfl rfl)) rfl rfl hs hB (fun a w hs hB => ?_)
 refine l_fit (v := .bool false) (fit_free rfl (ok_move rfl rfl)) rfl rfl hs hB (fun a w hs hB => ?_)
 refine l_fit (v := pt g13 2) (fit_on rfl rfl rfl (ok_fieldAddr31_1 rfl rfl)) rfl rfl hs hB (fun a w hs hB => ?_)
 refine l_fit (v := .int .i64 0) (fit_on rfl rfl rfl (ok_load29 (k := 0) rfl rfl rfl rfl)) rfl rfl hs hB (fun a w hs hB => ?_)
 refine l_fit (v := .bool true) (fit_on rfl rfl rfl (ok_eq29 rfl rfl rfl (by decide))) rfl rfl hs hB (fun a w hs hB => ?_)
 refine l_fit (v := .bool true) (fit_on rfl rfl rfl (ok_move rfl rfl)) rfl rfl hs hB (fun a w hs hB => ?_)
 refine l_fit (v := pt g13 0) (fit_on rfl rfl rfl (ok_fieldAddr31_0 rfl rfl)) rfl rfl hs hB (fun a w hs hB => ?_)
 refine l_fit (v := pt g13 0) (fit_on rfl rfl rfl (ok_fieldAddr25_0 rfl rfl)) rfl rfl hs hB (fun a w hs hB => ?_)
 refine l_fit (v := .int .i64 D0) (fit_on rfl rfl rfl (ok_load3 (k := 0) rfl rfl rfl rfl)) rfl rfl hs hB (fun a w hs hB => ?_)
 refine l_fit (v := .bool false) (fit_on rfl rfl rfl (ok_lss3 rfl rfl rfl (by simp <;> omega))) rfl rfl hs hB (fun a w hs hB => ?_)
 refine l_fit (v := .int .i64 1) (fit_on rfl rfl rfl (ok_move rfl rfl)) rfl rfl hs hB (fun a w hs hB => ?_)
 refine l_fit (v := .bool false) (fit_on rfl rfl rfl (ok_lss3 rfl rfl rfl (by decide))) rfl rfl hs hB (fun a w hs hB => ?_)
 refine l_fit (v := .bool false) (fit_on rfl rfl rfl (ok_neq4 rfl rfl rfl (rfl))) rfl rfl hs hB (fun a w hs hB => ?_)
 refine l_fit (v := .bool false) (fit_on rfl rfl rfl (ok_pick_t rfl rfl rfl)) rfl rfl hs hB (fun a w hs hB => ?_)
 refine l_fit (v := .bool false) (fit_free rfl (ok_pick_f rfl rfl rfl)) rfl rfl hs hB (fun a w hs hB => ?_)
 refine l_nil ?_
 replace hs := hs.sub (l := [(128, .bool false), (7, .bool true), (8, pt g8 0), (9, pt g9 0), (10, pt g10 0), (11, .int .i64 1)]) (⟨rfl, rfl, rfl, rfl, rfl, rfl, trivial⟩)
 refine c_false hs rfl ?_
 refine wp_skip ?_
 refine then_n ?_
 replace hs := hs.sub (l := [(7, .bool true), (8, pt g8 0), (9, pt g9 0), (10, pt g10 0), (11, .int .i64 1)]) (⟨rfl, rfl, rfl, rfl, rfl, trivial⟩)
 replace hs := hs.sub (l := [(7, .bool true), (8, pt g8 0), (9, pt g9 0), (10, pt g10 0), (11, .int .i64 1)]) (⟨rfl, rfl, rfl, rfl, rfl, trivial⟩)
 replace hB : Bl w0 [(g10, .cells #[.int .i64 cN, .int .i64 cD] 25 (0, 0)), (g9, .cells #[.int .i64 bN, .int .i64 bD] 25 (0, 0)), (g8, .cells #[.int .i64 aN, .int .i64 aD] 25 (0, 0))] w := hB.keep [false, true, true, true]
 exact H  a w hs hB

theorem o14 (K : Nat) (w0 : World) (g10 g9 g8 : Nat) (aN aD bN bD cN cD x S0 S1 S2 T0 T1 T2 P0 P1 P2 Q0 Q1 Q2 : Int) (hS : F.wireloomlaw02_add.f K aN aD cN cD = some (S0, S1, S2)) (hT : F.wireloomlaw02_add.f K bN bD cN cD = some (T0, T1, T2)) (hP : F.wireloomlaw02_mul.f K aN aD cN cD = some (P0, P1, P2)) (hQ : F.wireloomlaw02_mul.f K bN bD cN cD = some (Q0, Q1, Q2)) (H : ∀ (g19 g18 g17 g16 g15 g14 : Nat), ∀ a w, Sl 215 [(7, .bool true), (8, pt g8 0), (9, pt g9 0), (10, pt g10 0), (11, .int .i64 x), (14, pt g14 0), (15, pt g15 0), (16, pt g16 0), (17, pt g17 0), (18, pt g18 0), (19, pt g19 0)] a → Bl w0 [(g19, .cells #[.int .i64 bN, .int .i64 bD] 25 (0, 0)), (g18, .cells #[.int .i64 aN, .int .i64 aD] 25 (0, 0)), (g17, .cells #[.int .i64 Q0, .int .i64 Q1, .int .i64 Q2] 31 (0, 0)), (g16, .cells #[.int .i64 P0, .int .i64 P1, .int .i64 P2] 31 (0, 0)), (g15, .cells #[.int .i64 T0, .int .i64 T1, .int .i64 T2] 31 (0, 0)), (g14, .cells #[.int .i64 S0, .int .i64 S1, .int .i64 S2] 31 (0, 0)), (g10, .cells #[.int .i64 cN, .int .i64 cD] 25 (0, 0)), (g9, .cells #[.int .i64 bN, .int .i64 bD] 25 (0, 0)), (g8, .cells #[.int .i64 aN, .int .i64 aD] 25 (0, 0))] w → (restOf Tryd.f6 19).wp Tryd.prog (bodyPost Tryd.prog Tryd.f6 fun e w' => e = .returned (.bool true) ∧ Below w0.heap.size w0 w') a w) :
  ∀ a w, Sl 215 [(7, .bool true), (8, pt g8 0), (9, pt g9 0), (10, pt g10 0), (11, .int .i64 x)] a → Bl w0 [(g10, .cells #[.int .i64 cN, .int .i64 cD] 25 (0, 0)), (g9, .cells #[.int .i64 bN, .int .i64 bD] 25 (0, 0)), (g8, .cells #[.int .i64 aN, .int .i64 aD] 25 (0, 0))] w → (restOf Tryd.f6 14).wp Tryd.prog (bodyPost Tryd.prog Tryd.f6 fun e w' => e = .returned (.bool true) ∧ Below w0.heap.size w0 w') a w := by
 intro a w hs hB
 conv => arg 2; whnf
 refine c_list ?_
 refine l_fit (v := .agg #[.int .i64 aN, .int .i64 aD]) (fit_free rfl (ok_load25 (k := 2) rfl rfl rfl rfl rfl)) rfl rfl hs hB (fun a w hs hB => ?_)
 refine l_fit (v := .agg #[.int .i64 cN, .int .i64 cD]) (fit_free rfl (ok_load25 (k := 0) rfl rfl rfl rfl rfl)) rfl rfl hs hB (fun a w hs hB => ?_)
 refine l_fit (v := .agg #[.int .i64 S0, .int .i64 S1, .int .i64 S2]) (fit_free rfl (ok_call (args := #[.agg #[.int .i64 aN, .int .i64 aD], .agg #[.int .i64 cN, .int .i64 cD]]) rfl Tryd.func14 (by kernel_rfl) rfl rfl (viaB fun w => F.wireloomlaw02_add.calls K _ _ _ _ _ _ _ w hS))) rfl rfl hs hB (fun a w hs hB => ?_)
 refine l_alloc31 rfl rfl rfl rfl hs hB (fun g14 a w hs hB => ?_)
 refine l_store31 (k := 0) (cs' := #[.int .i64 S0, .int .i64 S1, .int .i64 S2]) rfl rfl rfl rfl rfl rfl rfl rfl hs hB (fun w hB => ?_)
 replace hB : Bl w0 [(g14, .cells #[.int .i64 S0, .int .i64 S1, .int .i64 S2] 31 (0, 0)), (g10, .cells #[.int .i64 cN, .int .i64 cD] 25 (0, 0)), (g9, .cells #[.int .i64 bN, .int .i64 bD] 25 (0, 0)), (g8, .cells #[.int .i64 aN, .int .i64 aD] 25 (0, 0))] w := hB
 refine l_nil ?_
 replace hs := hs.sub (l := [(14, pt g14 0), (7, .bool true), (8, pt g8 0), (9, pt g9 0), (10, pt g10 0), (11, .int .i64 x)]) (⟨rfl, rfl, rfl, rfl, rfl, rfl, trivial⟩)
 refine c_list ?_
 refine l_fit (v := .agg #[.int .i64 bN, .int .i64 bD]) (fit_free rfl (ok_load25 (k := 2) rfl rfl rfl rfl rfl)) rfl rfl hs hB (fun a w hs hB => ?_)
 refine l_fit (v := .agg #[.int .i64 cN, .int .i64 cD]) (fit_free rfl (ok_load25 (k := 1) rfl rfl rfl rfl rfl)) rfl rfl hs hB (fun a w hs hB => ?_)
 refine l_fit (v := .agg #[.int .i64 T0, .int .i64 T1, .int .i64 T2]) (fit_free rfl (ok_call (args := #[.agg #[.int .i64 bN, .int .i64 bD], .agg #[.int .i64 cN, .int .i64 cD]]) rfl Tryd.func14 (by kernel_rfl) rfl rfl (viaB fun w => F.wireloomlaw02_add.calls K _ _ _ _ _ _ _ w hT))) rfl rfl hs hB (fun a w hs hB => ?_)
 refine l_alloc31 rfl rfl rfl rfl hs hB (fun g15 a w hs hB => ?_)
 refine l_store31 (k := 0) (cs' := #[.int .i64 T0, .int .i64 T1, .int .i64 T2]) rfl rfl rfl rfl rfl rfl rfl rfl hs hB (fun w hB => ?_)
 replace hB : Bl w0 [(g15, .cells #[.int .i64 T0, .int .i64 T1, .int .i64 T2] 31 (0, 0)), (g14, .cells #[.int .i64 S0, .int .i64 S1, .int .i64 S2] 31 (0, 0)), (g10, .cells #[.int .i64 cN, .int .i64 cD] 25 (0, 0)), (g9, .cells #[.int .i64 bN, .int .i64 bD] 25 (0, 0)), (g8, .cells #[.int .i64 aN, .int .i64 aD] 25 (0, 0))] w := hB
 refine l_nil ?_
 replace hs := hs.sub (l := [(15, pt g15 0), (14, pt g14 0), (7, .bool true), (8, pt g8 0), (9, pt g9 0), (10, pt g10 0), (11, .int .i64 x)]) (⟨rfl, rfl, rfl, rfl, rfl, rfl, rfl, trivial⟩)
 refine c_list ?_
 refine l_fit (v := .agg #[.int .i64 aN, .int .i64 aD]) (fit_free rfl (ok_load25 (k := 4) rfl rfl rfl rfl rfl)) rfl rfl hs hB (fun a w hs hB => ?_)
 refine l_fit (v := .agg #[.int .i64 cN, .int .i64 cD]) (fit_free rfl (ok_load25 (k := 2) rfl rfl rfl rfl rfl)) rfl rfl hs hB (fun a w hs hB => ?_)
 refine l_fit (v := .agg #[.int .i64 P0, .int .i64 P1, .int .i64 P2]) (fit_free rfl (ok_call (args := #[.agg #[.int .i64 aN, .int .i64 aD], .agg #[.int .i64 cN, .int .i64 cD]]) rfl Tryd.func15 (by kernel_rfl) rfl rfl (viaB fun w => F.wireloomlaw02_mul.calls K _ _ _ _ _ _ _ w hP))) rfl rfl hs hB (fun a w hs hB => ?_)
 refine l_alloc31 rfl rfl rfl rfl hs hB (fun g16 a w hs hB => ?_)
 refine l_store31 (k := 0) (cs' := #[.int .i64 P0, .int .i64 P1, .int .i64 P2]) rfl rfl rfl rfl rfl rfl rfl rfl hs hB (fun w hB => ?_)
 replace hB : Bl w0 [(g16, .cells #[.int .i64 P0, .int .i64 P1, .int .i64 P2] 31 (0, 0)), (g15, .cells #[.int .i64 T0, .int .i64 T1, .int .i64 T2] 31 (0, 0)), (g14, .cells #[.int .i64 S0, .int .i64 S1, .int .i64 S2] 31 (0, 0)), (g10, .cells #[.int .i64 cN, .int .i64 cD] 25 (0, 0)), (g9, .cells #[.int .i64 bN, .int .i64 bD] 25 (0, 0)), (g8, .cells #[.int .i64 aN, .int .i64 aD] 25 (0, 0))] w := hB
 refine l_nil ?_
 replace hs := hs.sub (l := [(16, pt g16 0), (15, pt g15 0), (14, pt g14 0), (7, .bool true), (8, pt g8 0), (9, pt g9 0), (10, pt g10 0), (11, .int .i64 x)]) (⟨rfl, rfl, rfl, rfl, rfl, rfl, rfl, rfl, trivial⟩)
 refine c_list ?_
 refine l_fit (v := .agg #[.int .i64 bN, .int .i64 bD]) (fit_free rfl (ok_load25 (k := 4) rfl rfl rfl rfl rfl)) rfl rfl hs hB (fun a w hs hB => ?_)
 refine l_fit (v := .agg #[.int .i64 cN, .int .i64 cD]) (fit_free rfl (ok_load25 (k := 3) rfl rfl rfl rfl rfl)) rfl rfl hs hB (fun a w hs hB => ?_)
 refine l_fit (v := .agg #[.int .i64 Q0, .int .i64 Q1, .int .i64 Q2]) (fit_free rfl (ok_call (args := #[.agg #[.int .i64 bN, .int .i64 bD], .agg #[.int .i64 cN, .int .i64 cD]]) rfl Tryd.func15 (by kernel_rfl) rfl rfl (viaB fun w => F.wireloomlaw02_mul.calls K _ _ _ _ _ _ _ w hQ))) rfl rfl hs hB (fun a w hs hB => ?_)
 refine l_alloc31 rfl rfl rfl rfl hs hB (fun g17 a w hs hB => ?_)
 refine l_store31 (k := 0) (cs' := #[.int .i64 Q0, .int .i64 Q1, .int .i64 Q2]) rfl rfl rfl rfl rfl rfl rfl rfl hs hB (fun w hB => ?_)
 replace hB : Bl w0 [(g17, .cells #[.int .i64 Q0, .int .i64 Q1, .int .i64 Q2] 31 (0, 0)), (g16, .cells #[.int .i64 P0, .int .i64 P1, .int .i64 P2] 31 (0, 0)), (g15, .cells #[.int .i64 T0, .int .i64 T1, .int .i64 T2] 31 (0, 0)), (g14, .cells #[.int .i64 S0, .int .i64 S1, .int .i64 S2] 31 (0, 0)), (g10, .cells #[.int .i64 cN, .int .i64 cD] 25 (0, 0)), (g9, .cells #[.int .i64 bN, .int .i64 bD] 25 (0, 0)), (g8, .cells #[.int .i64 aN, .int .i64 aD] 25 (0, 0))] w := hB
 refine l_nil ?_
 replace hs := hs.sub (l := [(17, pt g17 0), (16, pt g16 0), (15, pt g15 0), (14, pt g14 0), (7, .bool true), (8, pt g8 0), (9, pt g9 0), (10, pt g10 0), (11, .int .i64 x)]) (⟨rfl, rfl, rfl, rfl, rfl, rfl, rfl, rfl, rfl, trivial⟩)
 refine wp_seq ?_
 refine PrintLast.start_ (n := 6) (S := Bl w0 [(g17, .cells #[.int .i64 Q0, .int .i64 Q1, .int .i64 Q2] 31 (0, 0)), (g16, .cells #[.int .i64 P0, .int .i64 P1, .int .i64 P2] 31 (0, 0)), (g15, .cells #[.int .i64 T0, .int .i64 T1, .int .i64 T2] 31 (0, 0)), (g14, .cells #[.int .i64 S0, .int .i64 S1, .int .i64 S2] 31 (0, 0)), (g10, .cells #[.int .i64 cN, .int .i64 cD] 25 (0, 0)), (g9, .cells #[.int .i64 bN, .int .i64 bD] 25 (0, 0)), (g8, .cells #[.int .i64 aN, .int .i64 aD] 25 (0, 0))]) (ds := []) #[false,false,false,false,false,false] (by kernel_rfl) rfl rfl hB.drew (fun hB => ?_)
 refine PrintLast.take_ (i := 0) (N := some 141) #[true,false,false,false,false,false] rfl rfl (by kernel_rfl) (fun _ _ _ h => h) (Or.inl ⟨rfl, fun w' hB' => run_load25 (k := 6) rfl hs.has rfl hB' rfl rfl rfl⟩) hB rfl ?_
 replace hs := hs.put (d := 141) (v := .agg #[.int .i64 aN, .int .i64 aD]) (by decide)
 refine PrintLast.take_ (i := 1) (N := some 142) #[true,true,false,false,false,false] rfl rfl (by kernel_rfl) (fun _ _ _ h => h) (Or.inl ⟨rfl, fun w' hB' => run_load25 (k := 5) rfl hs.has rfl hB' rfl rfl rfl⟩) hB rfl ?_
 replace hs := hs.put (d := 142) (v := .agg #[.int .i64 bN, .int .i64 bD]) (by decide)
 refine PrintLast.two_ (i := 2) (j := 3) (Ni := some 18) (Nj := some 19) #[true,true,true,false,false,false] #[true,true,false,true,false,false] rfl rfl rfl rfl (by kernel_rfl) (by decide) (by decide) (fun K hK => ?_) (fun K hK => ?_)
 · refine s_new rfl rfl rfl (run_alloc25 rfl) hs hB (fun g18 a w hs hB => ?_)
   refine hK.out _ _ (hB.keep [false, true, true, true, true, true, true, true]) (fun _ => ?_); clear hK K
   refine PrintLast.one_ (i := 3) (N := some 19) #[true,true,true,true,false,false] rfl rfl (by kernel_rfl) (by decide) (fun K hK => ?_)
   refine s_new rfl rfl rfl (run_alloc25 rfl) hs hB (fun g19 a w hs hB => ?_)
   refine hK.out _ _ (hB.keep [false, false, true, true, true, true, true, true, true]) (fun _ => ?_); clear hK K
   refine PrintLast.one_ (i := 4) (N := none) #[true,true,true,true,true,false] rfl rfl (by kernel_rfl) (by decide) (fun K hK => ?_)
   refine s_store25 (k := 1) (cs' := #[.int .i64 aN, .int .i64 aD]) rfl rfl rfl rfl rfl rfl rfl rfl hs hB (fun w hB => ?_)
   replace hB : Bl w0 [(g19, .cells #[.int .i64 0, .int .i64 0] 25 (0, 0)), (g18, .cells #[.int .i64 aN, .int .i64 aD] 25 (0, 0)), (g17, .cells #[.int .i64 Q0, .int .i64 Q1, .int .i64 Q2] 31 (0, 0)), (g16, .cells #[.int .i64 P0, .int .i64 P1, .int .i64 P2] 31 (0, 0)), (g15, .cells #[.int .i64 T0, .int .i64 T1, .int .i64 T2] 31 (0, 0)), (g14, .cells #[.int .i64 S0, .int .i64 S1, .int .i64 S2] 31 (0, 0)), (g10, .cells #[.int .i64 cN, .int .i64 cD] 25 (0, 0)), (g9, .cells #[.int .i64 bN, .int .i64 bD] 25 (0, 0)), (g8, .cells #[.int .i64 aN, .int .i64 aD] 25 (0, 0))] w := hB
   refine hK.out _ _ (hB.keep [false, false, true, true, true, true, true, true, true]) (fun _ => ?_); clear hK K
   refine PrintLast.one_ (i := 5) (N := none) #[true,true,true,true,true,true] rfl rfl (by kernel_rfl) (by decide) (fun K hK => ?_)
   refine s_store25 (k := 0) (cs' := #[.int .i64 bN, .int .i64 bD]) rfl rfl rfl rfl rfl rfl rfl rfl hs hB (fun w hB => ?_)
   replace hB : Bl w0 [(g19, .cells #[.int .i64 bN, .int .i64 bD] 25 (0, 0)), (g18, .cells #[.int .i64 aN, .int .i64 aD] 25 (0, 0)), (g17, .cells #[.int .i64 Q0, .int .i64 Q1, .int .i64 Q2] 31 (0, 0)), (g16, .cells #[.int .i64 P0, .int .i64 P1, .int .i64 P2] 31 (0, 0)), (g15, .cells #[.int .i64 T0, .int .i64 T1, .int .i64 T2] 31 (0, 0)), (g14, .cells #[.int .i64 S0, .int .i64 S1, .int .i64 S2] 31 (0, 0)), (g10, .cells #[.int .i64 cN, .int .i64 cD] 25 (0, 0)), (g9, .cells #[.int .i64 bN, .int .i64 bD] 25 (0, 0)), (g8, .cells #[.int .i64 aN, .int .i64 aD] 25 (0, 0))] w := hB
   refine hK.out _ _ (hB.keep [false, false, true, true, true, true, true, true, true]) (fun _ => ?_); clear hK K
   refine PrintLast.done_ (by kernel_rfl) ?_
   refine then_n ?_
   replace hs := hs.sub (l := [(19, pt g19 0), (18, pt g18 0), (17, pt g17 0), (16, pt g16 0), (15, pt g15 0), (14, pt g14 0), (7, .bool true), (8, pt g8 0), (9, pt g9 0), (10, pt g10 0), (11, .int .i64 x)]) (⟨rfl, rfl, rfl, rfl, rfl, rfl, rfl, rfl, rfl, rfl, rfl, trivial⟩)
   replace hs := hs.sub (l := [(7, .bool true), (8, pt g8 0), (9, pt g9 0), (10, pt g10 0), (11, .int .i64 x), (14, pt g14 0), (15, pt g15 0), (16, pt g16 0), (17, pt g17 0), (18, pt g18 0), (19, pt g19 0)]) (⟨rfl, rfl, rfl, rfl, rfl, rfl, rfl, rfl, rfl, rfl, rfl, trivial⟩)
   exact H g19 g18 g17 g16 g15 g14  a w hs hB
 · refine s_new rfl rfl rfl (run_alloc25 rfl) hs hB (fun g19 a w hs hB => ?_)
   refine hK.out _ _ (hB.keep [false, true, true, true, true, true, true, true]) (fun _ => ?_); clear hK K
   refine PrintLast.one_ (i := 2) (N := some 18) #[true,true,true,true,false,false] rfl rfl (by kernel_rfl) (by decide) (fun K hK => ?_)
   refine s_new rfl rfl rfl (run_alloc25 rfl) hs hB (fun g18 a w hs hB => ?_)
   refine hK.out _ _ (hB.keep [false, false, true, true, true, true, true, true, true]) (fun _ => ?_); clear hK K
   replace hB := hB.swap
   refine PrintLast.one_ (i := 4) (N := none) #[true,true,true,true,true,false] rfl rfl (by kernel_rfl) (by decide) (fun K hK => ?_)
   refine s_store25 (k := 1) (cs' := #[.int .i64 aN, .int .i64 aD]) rfl rfl rfl rfl rfl rfl rfl rfl hs hB (fun w hB => ?_)
   replace hB : Bl w0 [(g19, .cells #[.int .i64 0, .int .i64 0] 25 (0, 0)), (g18, .cells #[.int .i64 aN, .int .i64 aD] 25 (0, 0)), (g17, .cells #[.int .i64 Q0, .int .i64 Q1, .int .i64 Q2] 31 (0, 0)), (g16, .cells #[.int .i64 P0, .int .i64 P1, .int .i64 P2] 31 (0, 0)), (g15, .cells #[.int .i64 T0, .int .i64 T1, .int .i64 T2] 31 (0, 0)), (g14, .cells #[.int .i64 S0, .int .i64 S1, .int .i64 S2] 31 (0, 0)), (g10, .cells #[.int .i64 cN, .int .i64 cD] 25 (0, 0)), (g9, .cells #[.int .i64 bN, .int .i64 bD] 25 (0, 0)), (g8, .cells #[.int .i64 aN, .int .i64 aD] 25 (0, 0))] w := hB
   refine hK.out _ _ (hB.keep [false, false, true, true, true, true, true, true, true]) (fun _ => ?_); clear hK K
   refine PrintLast.one_ (i := 5) (N := none) #[true,true,true,true,true,true] rfl rfl (by kernel_rfl) (by decide) (fun K hK => ?_)
   refine s_store25 (k := 0) (cs' := #[.int .i64 bN, .int .i64 bD]) rfl rfl rfl rfl rfl rfl rfl rfl hs hB (fun w hB => ?_)
   replace hB : Bl w0 [(g19, .cells #[.int .i64 bN, .int .i64 bD] 25 (0, 0)), (g18, .cells #[.int .i64 aN, .int .i64 aD] 25 (0, 0)), (g17, .cells #[.int .i64 Q0, .int .i64 Q1, .int .i64 Q2] 31 (0, 0)), (g16, .cells #[.int .i64 P0, .int .i64 P1, .int .i64 P2] 31 (0, 0)), (g15, .cells #[.int .i64 T0, .int .i64 T1, .int .i64 T2] 31 (0, 0)), (g14, .cells #[.int .i64 S0, .int .i64 S1, .int .i64 S2] 31 (0, 0)), (g10, .cells #[.int .i64 cN, .int .i64 cD] 25 (0, 0)), (g9, .cells #[.int .i64 bN, .int .i64 bD] 25 (0, 0)), (g8, .cells #[.int .i64 aN, .int .i64 aD] 25 (0, 0))] w := hB
   refine hK.out _ _ (hB.keep [false, false, true, true, true, true, true, true, true]) (fun _ => ?_); clear hK K
   refine PrintLast.done_ (by kernel_rfl) ?_
   refine then_n ?_
   replace hs := hs.sub (l := [(18, pt g18 0), (19, pt g19 0), (17, pt g17 0), (16, pt g16 0), (15, pt g15 0), (14, pt g14 0), (7, .bool true), (8, pt g8 0), (9, pt g9 0), (10, pt g10 0), (11, .int .i64 x)]) (⟨rfl, rfl, rfl, rfl, rfl, rfl, rfl, rfl, rfl, rfl, rfl, trivial⟩)
   replace hs := hs.sub (l := [(7, .bool true), (8, pt g8 0), (9, pt g9 0), (10, pt g10 0), (11, .int .i64 x), (14, pt g14 0), (15, pt g15 0), (16, pt g16 0), (17, pt g17 0), (18, pt g18 0), (19, pt g19 0)]) (⟨rfl, rfl, rfl, rfl, rfl, rfl, rfl, rfl, rfl, rfl, rfl, trivial⟩)
   exact H g19 g18 g17 g16 g15 g14  a w hs hB

theorem o19p (K : Nat) (w0 : World) (g19 g18 g17 g16 g15 g14 g10 g9 g8 : Nat) (aN aD bN bD cN cD x S0 S1 S2 T0 T1 T2 P0 P1 P2 Q0 Q1 Q2 : Int) (hx : x > 0) (H : ∀ a w, Sl 215 [(7, .bool true), (8, pt g8 0), (9, pt g9 0), (10, pt g10 0), (11, .int .i64 x), (14, pt g14 0), (15, pt g15 0), (16, pt g16 0), (17, pt g17 0), (18, pt g18 0), (19, pt g19 0)] a → Bl w0 [(g19, .cells #[.int .i64 aN, .int .i64 aD] 25 (0, 0)), (g18, .cells #[.int .i64 bN, .int .i64 bD] 25 (0, 0)), (g17, .cells #[.int .i64 Q0, .int .i64 Q1, .int .i64 Q2] 31 (0, 0)), (g16, .cells #[.int .i64 P0, .int .i64 P1, .int .i64 P2] 31 (0, 0)), (g15, .cells #[.int .i64 T0, .int .i64 T1, .int .i64 T2] 31 (0, 0)), (g14, .cells #[.int .i64 S0, .int .i64 S1, .int .i64 S2] 31 (0, 0)), (g10, .cells #[.int .i64 cN, .int .i64 cD] 25 (0, 0)), (g9, .cells #[.int .i64 bN, .int .i64 bD] 25 (0, 0)), (g8, .cells #[.int .i64 aN, .int .i64 aD] 25 (0, 0))] w → (restOf Tryd.f6 22).wp Tryd.prog (bodyPost Tryd.prog Tryd.f6 fun e w' => e = .returned (.bool true) ∧ Below w0.heap.size w0 w') a w) :
  ∀ a w, Sl 215 [(7, .bool true), (8, pt g8 0), (9, pt g9 0), (10, pt g10 0), (11, .int .i64 x), (14, pt g14 0), (15, pt g15 0), (16, pt g16 0), (17, pt g17 0), (18, pt g18 0), (19, pt g19 0)] a → Bl w0 [(g19, .cells #[.int .i64 bN, .int .i64 bD] 25 (0, 0)), (g18, .cells #[.int .i64 aN, .int .i64 aD] 25 (0, 0)), (g17, .cells #[.int .i64 Q0, .int .i64 Q1, .int .i64 Q2] 31 (0, 0)), (g16, .cells #[.int .i64 P0, .int .i64 P1, .int .i64 P2] 31 (0, 0)), (g15, .cells #[.int .i64 T0, .int .i64 T1, .int .i64 T2] 31 (0, 0)), (g14, .cells #[.int .i64 S0, .int .i64 S1, .int .i64 S2] 31 (0, 0)), (g10, .cells #[.int .i64 cN, .int .i64 cD] 25 (0, 0)), (g9, .cells #[.int .i64 bN, .int .i64 bD] 25 (0, 0)), (g8, .cells #[.int .i64 aN, .int .i64 aD] 25 (0, 0))] w → (restOf Tryd.f6 19).wp Tryd.prog (bodyPost Tryd.prog Tryd.f6 fun e w' => e = .returned (.bool true) ∧ Below w0.heap.size w0 w') a w := by
 intro a w hs hB
 conv => arg 2; whnf
 refine wp_seq ?_
 refine c_list ?_
 refine l_fit (v := .int .i64 x) (fit_free rfl (ok_move rfl rfl)) rfl rfl hs hB (fun a w hs hB => ?_)
 refine l_fit (v := .bool true) (fit_free rfl (ok_gtr3 rfl rfl rfl (by simp <;> omega))) rfl rfl hs hB (fun a w hs hB => ?_)
 refine l_nil ?_
 replace hs := hs.sub (l := [(144, .bool true), (7, .bool true), (8, pt g8 0), (9, pt g9 0), (10, pt g10 0), (11, .int .i64 x), (14, pt g14 0), (15, pt g15 0), (16, pt g16 0), (17, pt g17 0), (18, pt g18 0), (19, pt g19 0)]) (⟨rfl, rfl, rfl, rfl, rfl, rfl, rfl, rfl, rfl, rfl, rfl, rfl, trivial⟩)
 refine c_true hs rfl ?_
 refine c_list ?_
 refine l_fit (v := .agg #[.int .i64 bN, .int .i64 bD]) (fit_free rfl (ok_load25 (k := 7) rfl rfl rfl rfl rfl)) rfl rfl hs hB (fun a w hs hB => ?_)
 refine l_store25 (k := 1) (cs' := #[.int .i64 bN, .int .i64 bD]) rfl rfl rfl rfl rfl rfl rfl rfl hs hB (fun w hB => ?_)
 replace hB : Bl w0 [(g19, .cells #[.int .i64 bN, .int .i64 bD] 25 (0, 0)), (g18, .cells #[.int .i64 bN, .int .i64 bD] 25 (0, 0)), (g17, .cells #[.int .i64 Q0, .int .i64 Q1, .int .i64 Q2] 31 (0, 0)), (g16, .cells #[.int .i64 P0, .int .i64 P1, .int .i64 P2] 31 (0, 0)), (g15, .cells #[.int .i64 T0, .int .i64 T1, .int .i64 T2] 31 (0, 0)), (g14, .cells #[.int .i64 S0, .int .i64 S1, .int .i64 S2] 31 (0, 0)), (g10, .cells #[.int .i64 cN, .int .i64 cD] 25 (0, 0)), (g9, .cells #[.int .i64 bN, .int .i64 bD] 25 (0, 0)), (g8, .cells #[.int .i64 aN, .int .i64 aD] 25 (0, 0))] w := hB
 refine l_nil ?_
 replace hs := hs.sub (l := [(7, .bool true), (8, pt g8 0), (9, pt g9 0), (10, pt g10 0), (11, .int .i64 x), (14, pt g14 0), (15, pt g15 0), (16, pt g16 0), (17, pt g17 0), (18, pt g18 0), (19, pt g19 0)]) (⟨rfl, rfl, rfl, rfl, rfl, rfl, rfl, rfl, rfl, rfl, rfl, trivial⟩)
 refine wp_region_list ?_
 refine l_fit (v := .agg #[.int .i64 aN, .int .i64 aD]) (fit_free rfl (ok_load25 (k := 8) rfl rfl rfl rfl rfl)) rfl rfl hs hB (fun a w hs hB => ?_)
 refine l_store25 (k := 0) (cs' := #[.int .i64 aN, .int .i64 aD]) rfl rfl rfl rfl rfl rfl rfl rfl hs hB (fun w hB => ?_)
 replace hB : Bl w0 [(g19, .cells #[.int .i64 aN, .int .i64 aD] 25 (0, 0)), (g18, .cells #[.int .i64 bN, .int .i64 bD] 25 (0, 0)), (g17, .cells #[.int .i64 Q0, .int .i64 Q1, .int .i64 Q2] 31 (0, 0)), (g16, .cells #[.int .i64 P0, .int .i64 P1, .int .i64 P2] 31 (0, 0)), (g15, .cells #[.int .i64 T0, .int .i64 T1, .int .i64 T2] 31 (0, 0)), (g14, .cells #[.int .i64 S0, .int .i64 S1, .int .i64 S2] 31 (0, 0)), (g10, .cells #[.int .i64 cN, .int .i64 cD] 25 (0, 0)), (g9, .cells #[.int .i64 bN, .int .i64 bD] 25 (0, 0)), (g8, .cells #[.int .i64 aN, .int .i64 aD] 25 (0, 0))] w := hB
 refine l_end ?_
 refine then_n ?_
 replace hs := hs.sub (l := [(7, .bool true), (8, pt g8 0), (9, pt g9 0), (10, pt g10 0), (11, .int .i64 x), (14, pt g14 0), (15, pt g15 0), (16, pt g16 0), (17, pt g17 0), (18, pt g18 0), (19, pt g19 0)]) (⟨rfl, rfl, rfl, rfl, rfl, rfl, rfl, rfl, rfl, rfl, rfl, trivial⟩)
 replace hs := hs.sub (l := [(7, .bool true), (8, pt g8 0), (9, pt g9 0), (10, pt g10 0), (11, .int .i64 x), (14, pt g14 0), (15, pt g15 0), (16, pt g16 0), (17, pt g17 0), (18, pt g18 0), (19, pt g19 0)]) (⟨rfl, rfl, rfl, rfl, rfl, rfl, rfl, rfl, rfl, rfl, rfl, trivial⟩)
 exact H  a w hs hB

theorem o19n (K : Nat) (w0 : World) (g19 g18 g17 g16 g15 g14 g10 g9 g8 : Nat) (aN aD bN bD cN cD x S0 S1 S2 T0 T1 T2 P0 P1 P2 Q0 Q1 Q2 : Int) (hx : ¬ x > 0) (H : ∀ a w, Sl 215 [(7, .bool true), (8, pt g8 0), (9, pt g9 0), (10, pt g10 0), (11, .int .i64 x), (14, pt g14 0), (15, pt g15 0), (16, pt g16 0), (17, pt g17 0), (18, pt g18 0), (19, pt g19 0)] a → Bl w0 [(g19, .cells #[.int .i64 bN, .int .i64 bD] 25 (0, 0)), (g18, .cells #[.int .i64 aN, .int .i64 aD] 25 (0, 0)), (g17, .cells #[.int .i64 Q0, .int .i64 Q1, .int .i64 Q2] 31 (0, 0)), (g16, .cells #[.int .i64 P0, .int .i64 P1, .int .i64 P2] 31 (0, 0)), (g15, .cells #[.int .i64 T0, .int .i64 T1, .int .i64 T2] 31 (0, 0)), (g14, .cells #[.int .i64 S0, .int .i64 S1, .int .i64 S2] 31 (0, 0)), (g10, .cells #[.int .i64 cN, .int .i64 cD] 25 (0, 0)), (g9, .cells #[.int .i64 bN, .int .i64 bD] 25 (0, 0)), (g8, .cells #[.int .i64 aN, .int .i64 aD] 25 (0, 0))] w → (restOf Tryd.f6 22).wp Tryd.prog (bodyPost Tryd.prog Tryd.f6 fun e w' => e = .returned (.bool true) ∧ Below w0.heap.size w0 w') a w) :
  ∀ a w, Sl 215 [(7, .bool true), (8, pt g8 0), (9, pt g9 0), (10, pt g10 0), (11, .int .i64 x), (14, pt g14 0), (15, pt g15 0), (16, pt g16 0), (17, pt g17 0), (18, pt g18 0), (19, pt g19 0)] a → Bl w0 [(g19, .cells #[.int .i64 bN, .int .i64 bD] 25 (0, 0)), (g18, .cells #[.int .i64 aN, .int .i64 aD] 25 (0, 0)), (g17, .cells #[.int .i64 Q0, .int .i64 Q1, .int .i64 Q2] 31 (0, 0)), (g16, .cells #[.int .i64 P0, .int .i64 P1, .int .i64 P2] 31 (0, 0)), (g15, .cells #[.int .i64 T0, .int .i64 T1, .int .i64 T2] 31 (0, 0)), (g14, .cells #[.int .i64 S0, .int .i64 S1, .int .i64 S2] 31 (0, 0)), (g10, .cells #[.int .i64 cN, .int .i64 cD] 25 (0, 0)), (g9, .cells #[.int .i64 bN, .int .i64 bD] 25 (0, 0)), (g8, .cells #[.int .i64 aN, .int .i64 aD] 25 (0, 0))] w → (restOf Tryd.f6 19).wp Tryd.prog (bodyPost Tryd.prog Tryd.f6 fun e w' => e = .returned (.bool true) ∧ Below w0.heap.size w0 w') a w := by
 intro a w hs hB
 conv => arg 2; whnf
 refine wp_seq ?_
 refine c_list ?_
 refine l_fit (v := .int .i64 x) (fit_free rfl (ok_move rfl rfl)) rfl rfl hs hB (fun a w hs hB => ?_)
 refine l_fit (v := .bool false) (fit_free rfl (ok_gtr3 rfl rfl rfl (by simp <;> omega))) rfl rfl hs hB (fun a w hs hB => ?_)
 refine l_nil ?_
 replace hs := hs.sub (l := [(144, .bool false), (7, .bool true), (8, pt g8 0), (9, pt g9 0), (10, pt g10 0), (11, .int .i64 x), (14, pt g14 0), (15, pt g15 0), (16, pt g16 0), (17, pt g17 0), (18, pt g18 0), (19, pt g19 0)]) (⟨rfl, rfl, rfl, rfl, rfl, rfl, rfl, rfl, rfl, rfl, rfl, rfl, trivial⟩)
 refine c_false hs rfl ?_
 refine wp_skip ?_
 refine then_n ?_
 replace hs := hs.sub (l := [(7, .bool true), (8, pt g8 0), (9, pt g9 0), (10, pt g10 0), (11, .int .i64 x), (14, pt g14 0), (15, pt g15 0), (16, pt g16 0), (17, pt g17 0), (18, pt g18 0), (19, pt g19 0)]) (⟨rfl, rfl, rfl, rfl, rfl, rfl, rfl, rfl, rfl, rfl, rfl, trivial⟩)
 replace hs := hs.sub (l := [(7, .bool true), (8, pt g8 0), (9, pt g9 0), (10, pt g10 0), (11, .int .i64 x), (14, pt g14 0), (15, pt g15 0), (16, pt g16 0), (17, pt g17 0), (18, pt g18 0), (19, pt g19 0)]) (⟨rfl, rfl, rfl, rfl, rfl, rfl, rfl, rfl, rfl, rfl, rfl, trivial⟩)
 exact H  a w hs hB

theorem o22 (K : Nat) (w0 : World) (g19 g18 g17 g16 g15 g14 g10 g9 g8 : Nat) (aN aD bN bD cN cD x l0 l1 m0 m1 S0 S1 S2 T0 T1 T2 P0 P1 P2 Q0 Q1 Q2 : Int) (h1 : F.fraction_Min.f aN aD bN bD = some (l0, l1)) (h2 : F.fraction_Max.f aN aD bN bD = some (m0, m1)) (h3 : F.fraction_Min.f bN bD aN aD = some (l0, l1)) (h4 : F.fraction_Max.f bN bD aN aD = some (m0, m1)) (H : ∀ a w, Sl 215 [(7, .bool true), (10, pt g10 0), (11, .int .i64 x), (14, pt g14 0), (15, pt g15 0), (16, pt g16 0), (17, pt g17 0)] a → Bl w0 [(g17, .cells #[.int .i64 Q0, .int .i64 Q1, .int .i64 Q2] 31 (0, 0)), (g16, .cells #[.int .i64 P0, .int .i64 P1, .int .i64 P2] 31 (0, 0)), (g15, .cells #[.int .i64 T0, .int .i64 T1, .int .i64 T2] 31 (0, 0)), (g14, .cells #[.int .i64 S0, .int .i64 S1, .int .i64 S2] 31 (0, 0)), (g10, .cells #[.int .i64 cN, .int .i64 cD] 25 (0, 0))] w → (restOf Tryd.f6 24).wp Tryd.prog (bodyPost Tryd.prog Tryd.f6 fun e w' => e = .returned (.bool true) ∧ Below w0.heap.size w0 w') a w) :
  ∀ a w, Sl 215 [(7, .bool true), (8, pt g8 0), (9, pt g9 0), (10, pt g10 0), (11, .int .i64 x), (14, pt g14 0), (15, pt g15 0), (16, pt g16 0), (17, pt g17 0), (18, pt g18 0), (19, pt g19 0)] a → Bl w0 [(g19, .cells #[.int .i64 m0, .int .i64 m1] 25 (0, 0)), (g18, .cells #[.int .i64 l0, .int .i64 l1] 25 (0, 0)), (g17, .cells #[.int .i64 Q0, .int .i64 Q1, .int .i64 Q2] 31 (0, 0)), (g16, .cells #[.int .i64 P0, .int .i64 P1, .int .i64 P2] 31 (0, 0)), (g15, .cells #[.int .i64 T0, .int .i64 T1, .int .i64 T2] 31 (0, 0)), (g14, .cells #[.int .i64 S0, .int .i64 S1, .int .i64 S2] 31 (0, 0)), (g10, .cells #[.int .i64 cN, .int .i64 cD] 25 (0, 0)), (g9, .cells #[.int .i64 bN, .int .i64 bD] 25 (0, 0)), (g8, .cells #[.int .i64 aN, .int .i64 aD] 25 (0, 0))] w → (restOf Tryd.f6 22).wp Tryd.prog (bodyPost Tryd.prog Tryd.f6 fun e w' => e = .returned (.bool true) ∧ Below w0.heap.size w0 w') a w := by
 intro a w hs hB
 conv => arg 2; whnf
 refine wp_seq ?_
 refine wp_seq ?_
 replace hs := hs.sub (l := [(7, .bool true), (8, pt g8 0), (9, pt g9 0), (10, pt g10 0), (11, .int .i64 x), (14, pt g14 0), (15, pt g15 0), (16, pt g16 0), (17, pt g17 0), (18, pt g18 0), (19, pt g19 0)]) (⟨rfl, rfl, rfl, rfl, rfl, rfl, rfl, rfl, rfl, rfl, rfl, trivial⟩)
 refine conf_region (n := 215) (sl := [(7, .bool true), (8, pt g8 0), (9, pt g9 0), (10, pt g10 0), (11, .int .i64 x), (14, pt g14 0), (15, pt g15 0), (16, pt g16 0), (17, pt g17 0), (18, pt g18 0), (19, pt g19 0)]) (vs := [.agg #[.int .i64 aN, .int .i64 aD], .agg #[.int .i64 bN, .int .i64 bD], .agg #[.int .i64 l0, .int .i64 l1], .agg #[.int .i64 l0, .int .i64 l1], .bool false, .bool false, .agg #[.int .i64 aN, .int .i64 aD], .agg #[.int .i64 bN, .int .i64 bD], .agg #[.int .i64 m0, .int .i64 m1], .agg #[.int .i64 m0, .int .i64 m1], .bool false, .bool false, .bool false, .agg #[.int .i64 bN, .int .i64 bD], .agg #[.int .i64 aN, .int .i64 aD], .agg #[.int .i64 l0, .int .i64 l1], .agg #[.int .i64 l0, .int .i64 l1], .bool false, .bool false, .bool false, .agg #[.int .i64 bN, .int .i64 bD], .agg #[.int .i64 aN, .int .i64 aD], .agg #[.int .i64 m0, .int .i64 m1], .agg #[.int .i64 m0, .int .i64 m1], .bool false, .bool false]) (B := Bl w0 [(g19, .cells #[.int .i64 m0, .int .i64 m1] 25 (0, 0)), (g18, .cells #[.int .i64 l0, .int .i64 l1] 25 (0, 0)), (g17, .cells #[.int .i64 Q0, .int .i64 Q1, .int .i64 Q2] 31 (0, 0)), (g16, .cells #[.int .i64 P0, .int .i64 P1, .int .i64 P2] 31 (0, 0)), (g15, .cells #[.int .i64 T0, .int .i64 T1, .int .i64 T2] 31 (0, 0)), (g14, .cells #[.int .i64 S0, .int .i64 S1, .int .i64 S2] 31 (0, 0)), (g10, .cells #[.int .i64 cN, .int .i64 cD] 25 (0, 0)), (g9, .cells #[.int .i64 bN, .int .i64 bD] 25 (0, 0)), (g8, .cells #[.int .i64 aN, .int .i64 aD] 25 (0, 0))]) (by kernel_rfl) [7, 8, 9, 10, 11, 14, 15, 16, 17, 18, 19] rfl (by kernel_rfl) rfl (AllFitL.all ⟨fit_free rfl (ok_load25 (k := 8) rfl rfl rfl rfl rfl),
   fit_free rfl (ok_load25 (k := 7) rfl rfl rfl rfl rfl),
   fit_free rfl (ok_call (args := #[.agg #[.int .i64 aN, .int .i64 aD], .agg #[.int .i64 bN, .int .i64 bD]]) rfl Tryd.func23 (by kernel_rfl) rfl rfl (viaB fun w => F.fraction_Min.calls _ _ _ _ _ _ w h1)),
   fit_free rfl (ok_load25 (k := 1) rfl rfl rfl rfl rfl),
   fit_free rfl (ok_neq25 rfl rfl rfl (by simp)),
   fit_free rfl (ok_move rfl rfl),
   fit_on rfl rfl rfl (ok_load25 (k := 8) rfl rfl rfl rfl rfl),
   fit_on rfl rfl rfl (ok_load25 (k := 7) rfl rfl rfl rfl rfl),
   fit_on rfl rfl rfl (ok_call (args := #[.agg #[.int .i64 aN, .int .i64 aD], .agg #[.int .i64 bN, .int .i64 bD]]) rfl Tryd.func24 (by kernel_rfl) rfl rfl (viaB fun w => F.fraction_Max.calls _ _ _ _ _ _ w h2)),
   fit_on rfl rfl rfl (ok_load25 (k := 0) rfl rfl rfl rfl rfl),
   fit_on rfl rfl rfl (ok_neq25 rfl rfl rfl (by simp)),
   fit_free rfl (ok_pick_f rfl rfl rfl),
   fit_free rfl (ok_move rfl rfl),
   fit_on rfl rfl rfl (ok_load25 (k := 7) rfl rfl rfl rfl rfl),
   fit_on rfl rfl rfl (ok_load25 (k := 8) rfl rfl rfl rfl rfl),
   fit_on rfl rfl rfl (ok_call (args := #[.agg #[.int .i64 bN, .int .i64 bD], .agg #[.int .i64 aN, .int .i64 aD]]) rfl Tryd.func23 (by kernel_rfl) rfl rfl (viaB fun w => F.fraction_Min.calls _ _ _ _ _ _ w h3)),
   fit_on rfl rfl rfl (ok_load25 (k := 1) rfl rfl rfl rfl rfl),
   fit_on rfl rfl rfl (ok_neq25 rfl rfl rfl (by simp)),
   fit_free rfl (ok_pick_f rfl rfl rfl),
   fit_free rfl (ok_move rfl rfl),
   fit_on rfl rfl rfl (ok_load25 (k := 7) rfl rfl rfl rfl rfl),
   fit_on rfl rfl rfl (ok_load25 (k := 8) rfl rfl rfl rfl rfl),
   fit_on rfl rfl rfl (ok_call (args := #[.agg #[.int .i64 bN, .int .i64 bD], .agg #[.int .i64 aN, .int .i64 aD]]) rfl Tryd.func24 (by kernel_rfl) rfl rfl (viaB fun w => F.fraction_Max.calls _ _ _ _ _ _ w h4)),
   fit_on rfl rfl rfl (ok_load25 (k := 0) rfl rfl rfl rfl rfl),
   fit_on rfl rfl rfl (ok_neq25 rfl rfl rfl (by simp)),
   fit_free rfl (ok_pick_f rfl rfl rfl),
   trivial⟩) hs hB.drew (fun a w hs hB => ?_)
 replace hs := hs.sub (l := [(172, .bool false), (7, .bool true), (10, pt g10 0), (11, .int .i64 x), (14, pt g14 0), (15, pt g15 0), (16, pt g16 0), (17, pt g17 0)]) (⟨rfl, rfl, rfl, rfl, rfl, rfl, rfl, rfl, trivial⟩)
 refine then_n ?_
 replace hs := hs.sub (l := [(172, .bool false), (7, .bool true), (10, pt g10 0), (11, .int .i64 x), (14, pt g14 0), (15, pt g15 0), (16, pt g16 0), (17, pt g17 0)]) (⟨rfl, rfl, rfl, rfl, rfl, rfl, rfl, rfl, trivial⟩)
 refine c_false hs rfl ?_
 refine wp_skip ?_
 refine then_n ?_
 replace hs := hs.sub (l := [(7, .bool true), (10, pt g10 0), (11, .int .i64 x), (14, pt g14 0), (15, pt g15 0), (16, pt g16 0), (17, pt g17 0)]) (⟨rfl, rfl, rfl, rfl, rfl, rfl, rfl, trivial⟩)
 replace hs := hs.sub (l := [(7, .bool true), (10, pt g10 0), (11, .int .i64 x), (14, pt g14 0), (15, pt g15 0), (16, pt g16 0), (17, pt g17 0)]) (⟨rfl, rfl, rfl, rfl, rfl, rfl, rfl, trivial⟩)
 replace hB : Bl w0 [(g17, .cells #[.int .i64 Q0, .int .i64 Q1, .int .i64 Q2] 31 (0, 0)), (g16, .cells #[.int .i64 P0, .int .i64 P1, .int .i64 P2] 31 (0, 0)), (g15, .cells #[.int .i64 T0, .int .i64 T1, .int .i64 T2] 31 (0, 0)), (g14, .cells #[.int .i64 S0, .int .i64 S1, .int .i64 S2] 31 (0, 0)), (g10, .cells #[.int .i64 cN, .int .i64 cD] 25 (0, 0))] w := hB.keep [false, false, true, true, true, true, true, false, false]
 exact H  a w hs hB

theorem o24sc (K : Nat) (w0 : World) (g17 g16 g15 g14 g10 : Nat) (cN cD x S0 S1 S2 T0 T1 T2 P0 P1 P2 Q0 Q1 Q2 : Int) (hs1 : S2 ≠ 0) (hc0 : ¬ cN > 0) :
  ∀ a w, Sl 215 [(7, .bool true), (10, pt g10 0), (11, .int .i64 x), (14, pt g14 0), (15, pt g15 0), (16, pt g16 0), (17, pt g17 0)] a → Bl w0 [(g17, .cells #[.int .i64 Q0, .int .i64 Q1, .int .i64 Q2] 31 (0, 0)), (g16, .cells #[.int .i64 P0, .int .i64 P1, .int .i64 P2] 31 (0, 0)), (g15, .cells #[.int .i64 T0, .int .i64 T1, .int .i64 T2] 31 (0, 0)), (g14, .cells #[.int .i64 S0, .int .i64 S1, .int .i64 S2] 31 (0, 0)), (g10, .cells #[.int .i64 cN, .int .i64 cD] 25 (0, 0))] w → (restOf Tryd.f6 24).wp Tryd.prog (bodyPost Tryd.prog Tryd.f6 fun e w' => e = .returned (.bool true) ∧ Below w0.heap.size w0 w') a w := by
 intro a w hs hB
 conv => arg 2; whnf
 refine wp_seq ?_
 refine c_list ?_
 refine l_fit (v := pt g14 2) (fit_free rfl (ok_fieldAddr31_1 rfl rfl)) rfl rfl hs hB (fun a w hs hB => ?_)
 refine l_fit (v := .int .i64 S2) (fit_free rfl (ok_load29 (k := 3) rfl rfl rfl rfl)) rfl rfl hs hB (fun a w hs hB => ?_)
 refine l_fit (v := .bool false) (fit_free rfl (ok_eq29 rfl rfl rfl (decide_eq_false hs1))) rfl rfl hs hB (fun a w hs hB => ?_)
 refine l_fit (v := .bool false) (fit_free rfl (ok_move rfl rfl)) rfl rfl hs hB (fun a w hs hB => ?_)
 refine l_fit (v := undef) (fit_off rfl rfl rfl rfl) rfl rfl hs hB (fun a w hs hB => ?_)
 refine l_fit (v := undef) (fit_off rfl rfl rfl rfl) rfl rfl hs hB (fun a w hs hB => ?_)
 refine l_fit (v := undef) (fit_off rfl rfl rfl rfl) rfl rfl hs hB (fun a w hs hB => ?_)
 refine l_fit (v := .bool false) (fit_free rfl (ok_pick_f rfl rfl rfl)) rfl rfl hs hB (fun a w hs hB => ?_)
 refine l_fit (v := .bool false) (fit_free rfl (ok_move rfl rfl)) rfl rfl hs hB (fun a w hs hB => ?_)
 refine l_fit (v := undef) (fit_off rfl rfl rfl rfl) rfl rfl hs hB (fun a w hs hB => ?_)
 refine l_fit (v := undef) (fit_off rfl rfl rfl rfl) rfl rfl hs hB (fun a w hs hB => ?_)
 refine l_fit (v := undef) (fit_off rfl rfl rfl rfl) rfl rfl hs hB (fun a w hs hB => ?_)
 refine l_fit (v := undef) (fit_off rfl rfl rfl rfl) rfl rfl hs hB (fun a w hs hB => ?_)
 refine l_fit (v := undef) (fit_off rfl rfl rfl rfl) rfl rfl hs hB (fun a w hs hB => ?_)
 refine l_fit (v := undef) (fit_off rfl rfl rfl rfl) rfl rfl hs hB (fun a w hs hB => ?_)
 refine l_fit (v := undef) (fit_off rfl rfl rfl rfl) rfl rfl hs hB (fun a w hs hB => ?_)
 refine l_fit (v := .bool false) (fit_free rfl (ok_pick_f rfl rfl rfl)) rfl rfl hs hB (fun a w hs hB => ?_)
 refine l_fit (v := .bool false) (fit_free rfl (ok_move rfl rfl)) rfl rfl hs hB (fun a w hs hB => ?_)
 refine l_fit (v := pt g10 0) (fit_on rfl rfl rfl (ok_fieldAddr25_0 rfl rfl)) rfl rfl hs hB (fun a w hs hB => ?_)
 refine l_fit (v := .int .i64 cN) (fit_on rfl rfl rfl (ok_load3 (k := 4) rfl rfl rfl rfl)) rfl rfl hs hB (fun a w hs hB => ?_)
 refine l_fit (v := .bool false) (fit_on rfl rfl rfl (ok_gtr3 rfl rfl rfl (by simp <;> omega))) rfl rfl hs hB (fun a w hs hB => ?_)
 refine l_fit (v := .bool false) (fit_on rfl rfl rfl (ok_move rfl rfl)) rfl rfl hs hB (fun a w hs hB => ?_)
 refine l_fit (v := undef) (fit_off rfl rfl rfl rfl) rfl rfl hs hB (fun a w hs hB => ?_)
 refine l_fit (v := undef) (fit_off rfl rfl rfl rfl) rfl rfl hs hB (fun a w hs hB => ?_)
 refine l_fit (v := undef) (fit_off rfl rfl rfl rfl) rfl rfl hs hB (fun a w hs hB => ?_)
 refine l_fit (v := .bool false) (fit_on rfl rfl rfl (ok_pick_f rfl rfl rfl)) rfl rfl hs hB (fun a w hs hB => ?_)
 refine l_fit (v := .bool false) (fit_on rfl rfl rfl (ok_move rfl rfl)) rfl rfl hs hB (fun a w hs hB => ?_)
 refine l_fit (v := undef) (fit_off rfl rfl rfl rfl) rfl rfl hs hB (fun a w hs hB => ?_)
 refine l_fit (v := undef) (fit_off rfl rfl rfl rfl) rfl rfl hs hB (fun a w hs hB => ?_)
 refine l_fit (v := undef) (fit_off rfl rfl rfl rfl) rfl rfl hs hB (fun a w hs hB => ?_)
 refine l_fit (v := .bool false) (fit_on rfl rfl rfl (ok_pick_f rfl rfl rfl)) rfl rfl hs hB (fun a w hs hB => ?_)
 refine l_fit (v := .bool false) (fit_on rfl rfl rfl (ok_move rfl rfl)) rfl rfl hs hB (fun a w hs hB => ?_)
 refine l_fit (v := undef) (fit_off rfl rfl rfl rfl) rfl rfl hs hB (fun a w hs hB => ?_)
 refine l_fit (v := undef) (fit_off rfl rfl rfl rfl) rfl rfl hs hB (fun a w hs hB => ?_)
 refine l_fit (v := undef) (fit_off rfl rfl rfl rfl) rfl rfl hs hB (fun a w hs hB => ?_)
 refine l_fit (v := undef) (fit_off rfl rfl rfl rfl) rfl rfl hs hB (fun a w hs hB => ?_)
 refine l_fit (v := undef) (fit_off rfl rfl rfl rfl) rfl rfl hs hB (fun a w hs hB => ?_)
 refine l_fit (v := undef) (fit_off rfl rfl rfl rfl) rfl rfl hs hB (fun a w hs hB => ?_)
 refine l_fit (v := undef) (fit_off rfl rfl rfl rfl) rfl rfl hs hB (fun a w hs hB => ?_)
 refine l_fit (v := .bool false) (fit_on rfl rfl rfl (ok_pick_f rfl rfl rfl)) rfl rfl hs hB (fun a w hs hB => ?_)
 refine l_fit (v := .bool false) (fit_free rfl (ok_pick_f rfl rfl rfl)) rfl rfl hs hB (fun a w hs hB => ?_)
 refine l_nil ?_
 replace hs := hs.sub (l := [(213, .bool false), (7, .bool true)]) (⟨rfl, rfl, trivial⟩)
 refine c_false hs rfl ?_
 refine wp_skip ?_
 refine then_n ?_
 replace hs := hs.sub (l := [(7, .bool true)]) (⟨rfl, trivial⟩)
 refine c_list ?_
 refine l_fit (v := .bool true) (fit_free rfl (ok_move rfl rfl)) rfl rfl hs hB (fun a w hs hB => ?_)
 refine l_fit (v := .bool true) (fit_free rfl (ok_assign rfl rfl)) rfl rfl hs hB (fun a w hs hB => ?_)
 refine l_nil ?_
 replace hs := hs.sub (l := [(6, .bool true)]) (⟨rfl, trivial⟩)
 refine wp_ret ?_
 exact c_ret rfl hs rfl ⟨rfl, hB.below⟩

theorem o24sp (K : Nat) (w0 : World) (g17 g16 g15 g14 g10 : Nat) (cN cD x S0 S1 S2 T0 T1 T2 P0 P1 P2 Q0 Q1 Q2 : Int) (hs1 : S2 ≠ 0) (hc0 : cN > 0) (hp1 : P2 ≠ 0) :
  ∀ a w, Sl 215 [(7, .bool true), (10, pt g10 0), (11, .int .i64 x), (14, pt g14 0), (15, pt g15 0), (16, pt g16 0), (17, pt g17 0)] a → Bl w0 [(g17, .cells #[.int .i64 Q0, .int .i64 Q1, .int .i64 Q2] 31 (0, 0)), (g16, .cells #[.int .i64 P0, .int .i64 P1, .int .i64 P2] 31 (0, 0)), (g15, .cells #[.int .i64 T0, .int .i64 T1, .int .i64 T2] 31 (0, 0)), (g14, .cells #[.int .i64 S0, .int .i64 S1, .int .i64 S2] 31 (0, 0)), (g10, .cells #[.int .i64 cN, .int .i64 cD] 25 (0, 0))] w → (restOf Tryd.f6 24).wp Tryd.prog (bodyPost Tryd.prog Tryd.f6 fun e w' => e = .returned (.bool true) ∧ Below w0.heap.size w0 w') a w := by
 intro a w hs hB
 conv => arg 2; whnf
 refine wp_seq ?_
 refine c_list ?_
 refine l_fit (v := pt g14 2) (fit_free rfl (ok_fieldAddr31_1 rfl rfl)) rfl rfl hs hB (fun a w hs hB => ?_)
 refine l_fit (v := .int .i64 S2) (fit_free rfl (ok_load29 (k := 3) rfl rfl rfl rfl)) rfl rfl hs hB (fun a w hs hB => ?_)
 refine l_fit (v := .bool false) (fit_free rfl (ok_eq29 rfl rfl rfl (decide_eq_false hs1))) rfl rfl hs hB (fun a w hs hB => ?_)
 refine l_fit (v := .bool false) (fit_free rfl (ok_move rfl rfl)) rfl rfl hs hB (fun a w hs hB => ?_)
 refine l_fit (v := undef) (fit_off rfl rfl rfl rfl) rfl rfl hs hB (fun a w hs hB => ?_)
 refine l_fit (v := undef) (fit_off rfl rfl rfl rfl) rfl rfl hs hB (fun a w hs hB => ?_)
 refine l_fit (v := undef) (fit_off rfl rfl rfl rfl) rfl rfl hs hB (fun a w hs hB => ?_)
 refine l_fit (v := .bool false) (fit_free rfl (ok_pick_f rfl rfl rfl)) rfl rfl hs hB (fun a w hs hB => ?_)
 refine l_fit (v := .bool false) (fit_free rfl (ok_move rfl rfl)) rfl rfl hs hB (fun a w hs hB => ?_)
 refine l_fit (v := undef) (fit_off rfl rfl rfl rfl) rfl rfl hs hB (fun a w hs hB => ?_)
 refine l_fit (v := undef) (fit_off rfl rfl rfl rfl) rfl rfl hs hB (fun a w hs hB => ?_)
 refine l_fit (v := undef) (fit_off rfl rfl rfl rfl) rfl rfl hs hB (fun a w hs hB => ?_)
 refine l_fit (v := undef) (fit_off rfl rfl rfl rfl) rfl rfl hs hB (fun a w hs hB => ?_)
 refine l_fit (v := undef) (fit_off rfl rfl rfl rfl) rfl rfl hs hB (fun a w hs hB => ?_)
 refine l_fit (v := undef) (fit_off rfl rfl rfl rfl) rfl rfl hs hB (fun a w hs hB => ?_)
 refine l_fit (v := undef) (fit_off rfl rfl rfl rfl) rfl rfl hs hB (fun a w hs hB => ?_)
 refine l_fit (v := .bool false) (fit_free rfl (ok_pick_f rfl rfl rfl)) rfl rfl hs hB (fun a w hs hB => ?_)
 refine l_fit (v := .bool false) (fit_free rfl (ok_move rfl rfl)) rfl rfl hs hB (fun a w hs hB => ?_)
 refine l_fit (v := pt g10 0) (fit_on rfl rfl rfl (ok_fieldAddr25_0 rfl rfl)) rfl rfl hs hB (fun a w hs hB => ?_)
 refine l_fit (v := .int .i64 cN) (fit_on rfl rfl rfl (ok_load3 (k := 4) rfl rfl rfl rfl)) rfl rfl hs hB (fun a w hs hB => ?_)
 refine l_fit (v := .bool true) (fit_on rfl rfl rfl (ok_gtr3 rfl rfl rfl (by simp <;> omega))) rfl rfl hs hB (fun a w hs hB => ?_)
 refine l_fit (v := .bool true) (fit_on rfl rfl rfl (ok_move rfl rfl)) rfl rfl hs hB (fun a w hs hB => ?_)
 refine l_fit (v := pt g16 2) (fit_on rfl rfl rfl (ok_fieldAddr31_1 rfl rfl)) rfl rfl hs hB (fun a w hs hB => ?_)
 refine l_fit (v := .int .i64 P2) (fit_on rfl rfl rfl (ok_load29 (k := 1) rfl rfl rfl rfl)) rfl rfl hs hB (fun a w hs hB => ?_)
 refine l_fit (v := .bool false) (fit_on rfl rfl rfl (ok_eq29 rfl rfl rfl (decide_eq_false hp1))) rfl rfl hs hB (fun a w hs hB => ?_)
 refine l_fit (v := .bool false) (fit_on rfl rfl rfl (ok_pick_t rfl rfl rfl)) rfl rfl hs hB (fun a w hs hB => ?_)
 refine l_fit (v := .bool false) (fit_on rfl rfl rfl (ok_move rfl rfl)) rfl rfl hs hB (fun a w hs hB => ?_)
 refine l_fit (v := undef) (fit_off rfl rfl rfl rfl) rfl rfl hs hB (fun a w hs hB => ?_)
 refine l_fit (v := undef) (fit_off rfl rfl rfl rfl) rfl rfl hs hB (fun a w hs hB => ?_)
 refine l_fit (v := undef) (fit_off rfl rfl rfl rfl) rfl rfl hs hB (fun a w hs hB => ?_)
 refine l_fit (v := .bool false) (fit_on rfl rfl rfl (ok_pick_f rfl rfl rfl)) rfl rfl hs hB (fun a w hs hB => ?_)
 refine l_fit (v := .bool false) (fit_on rfl rfl rfl (ok_move rfl rfl)) rfl rfl hs hB (fun a w hs hB => ?_)
 refine l_fit (v := undef) (fit_off rfl rfl rfl rfl) rfl rfl hs hB (fun a w hs hB => ?_)
 refine l_fit (v := undef) (fit_off rfl rfl rfl rfl) rfl rfl hs hB (fun a w hs hB => ?_)
 refine l_fit (v := undef) (fit_off rfl rfl rfl rfl) rfl rfl hs hB (fun a w hs hB => ?_)
 refine l_fit (v := undef) (fit_off rfl rfl rfl rfl) rfl rfl hs hB (fun a w hs hB => ?_)
 refine l_fit (v := undef) (fit_off rfl rfl rfl rfl) rfl rfl hs hB (fun a w hs hB => ?_)
 refine l_fit (v := undef) (fit_off rfl rfl rfl rfl) rfl rfl hs hB (fun a w hs hB => ?_)
 refine l_fit (v := undef) (fit_off rfl rfl rfl rfl) rfl rfl hs hB (fun a w hs hB => ?_)
 refine l_fit (v := .bool false) (fit_on rfl rfl rfl (ok_pick_f rfl rfl rfl)) rfl rfl hs hB (fun a w hs hB => ?_)
 refine l_fit (v := .bool false) (fit_free rfl (ok_pick_f rfl rfl rfl)) rfl rfl hs hB (fun a w hs hB => ?_)
 refine l_nil ?_
 replace hs := hs.sub (l := [(213, .bool false), (7, .bool true)]) (⟨rfl, rfl, trivial⟩)
 refine c_false hs rfl ?_
 refine wp_skip ?_
 refine then_n ?_
 replace hs := hs.sub (l := [(7, .bool true)]) (⟨rfl, trivial⟩)
 refine c_list ?_
 refine l_fit (v := .bool true) (fit_free rfl (ok_move rfl rfl)) rfl rfl hs hB (fun a w hs hB => ?_)
 refine l_fit (v := .bool true) (fit_free rfl (ok_assign rfl rfl)) rfl rfl hs hB (fun a w hs hB => ?_)
 refine l_nil ?_
 replace hs := hs.sub (l := [(6, .bool true)]) (⟨rfl, trivial⟩)
 refine wp_ret ?_
 exact c_ret rfl hs rfl ⟨rfl, hB.below⟩

theorem o24sq (K : Nat) (w0 : World) (g17 g16 g15 g14 g10 : Nat) (cN cD x S0 S1 S2 T0 T1 T2 P0 P1 Q0 Q1 Q2 : Int) (hs1 : S2 ≠ 0) (hc0 : cN > 0) (hq1 : Q2 ≠ 0) :
  ∀ a w, Sl 215 [(7, .bool true), (10, pt g10 0), (11, .int .i64 x), (14, pt g14 0), (15, pt g15 0), (16, pt g16 0), (17, pt g17 0)] a → Bl w0 [(g17, .cells #[.int .i64 Q0, .int .i64 Q1, .int .i64 Q2] 31 (0, 0)), (g16, .cells #[.int .i64 P0, .int .i64 P1, .int .i64 0] 31 (0, 0)), (g15, .cells #[.int .i64 T0, .int .i64 T1, .int .i64 T2] 31 (0, 0)), (g14, .cells #[.int .i64 S0, .int .i64 S1, .int .i64 S2] 31 (0, 0)), (g10, .cells #[.int .i64 cN, .int .i64 cD] 25 (0, 0))] w → (restOf Tryd.f6 24).wp Tryd.prog (bodyPost Tryd.prog Tryd.f6 fun e w' => e = .returned (.bool true) ∧ Below w0.heap.size w0 w') a w := by
 intro a w hs hB
 conv => arg 2; whnf
 refine wp_seq ?_
 refine c_list ?_
 refine l_fit (v := pt g14 2) (fit_free rfl (ok_fieldAddr31_1 rfl rfl)) rfl rfl hs hB (fun a w hs hB => ?_)
 refine l_fit (v := .int .i64 S2) (fit_free rfl (ok_load29 (k := 3) rfl rfl rfl rfl)) rfl rfl hs hB (fun a w hs hB => ?_)
 refine l_fit (v := .bool false) (fit_free rfl (ok_eq29 rfl rfl rfl (decide_eq_false hs1))) rfl rfl hs hB (fun a w hs hB => ?_)
 refine l_fit (v := .bool false) (fit_free rfl (ok_move rfl rfl)) rfl rfl hs hB (fun a w hs hB => ?_)
 refine l_fit (v := undef) (fit_off rfl rfl rfl rfl) rfl rfl hs hB (fun a w hs hB => ?_)
 refine l_fit (v := undef) (fit_off rfl rfl rfl rfl) rfl rfl hs hB (fun a w hs hB => ?_)
 refine l_fit (v := undef) (fit_off rfl rfl rfl rfl) rfl rfl hs hB (fun a w hs hB => ?_)
 refine l_fit (v := .bool false) (fit_free rfl (ok_pick_f rfl rfl rfl)) rfl rfl hs hB (fun a w hs hB => ?_)
 refine l_fit (v := .bool false) (fit_free rfl (ok_move rfl rfl)) rfl rfl hs hB (fun a w hs hB => ?_)
 refine l_fit (v := undef) (fit_off rfl rfl rfl rfl) rfl rfl hs hB (fun a w hs hB => ?_)
 refine l_fit (v := undef) (fit_off rfl rfl rfl rfl) rfl rfl hs hB (fun a w hs hB => ?_)
 refine l_fit (v := undef) (fit_off rfl rfl rfl rfl) rfl rfl hs hB (fun a w hs hB => ?_)
 refine l_fit (v := undef) (fit_off rfl rfl rfl rfl) rfl rfl hs hB (fun a w hs hB => ?_)
 refine l_fit (v := undef) (fit_off rfl rfl rfl rfl) rfl rfl hs hB (fun a w hs hB => ?_)
 refine l_fit (v := undef) (fit_off rfl rfl rfl rfl) rfl rfl hs hB (fun a w hs hB => ?_)
 refine l_fit (v := undef) (fit_off rfl rfl rfl rfl) rfl rfl hs hB (fun a w hs hB => ?_)
 refine l_fit (v := .bool false) (fit_free rfl (ok_pick_f rfl rfl rfl)) rfl rfl hs hB (fun a w hs hB => ?_)
 refine l_fit (v := .bool false) (fit_free rfl (ok_move rfl rfl)) rfl rfl hs hB (fun a w hs hB => ?_)
 refine l_fit (v := pt g10 0) (fit_on rfl rfl rfl (ok_fieldAddr25_0 rfl rfl)) rfl rfl hs hB (fun a w hs hB => ?_)
 refine l_fit (v := .int .i64 cN) (fit_on rfl rfl rfl (ok_load3 (k := 4) rfl rfl rfl rfl)) rfl rfl hs hB (fun a w hs hB => ?_)
 refine l_fit (v := .bool true) (fit_on rfl rfl rfl (ok_gtr3 rfl rfl rfl (by simp <;> omega))) rfl rfl hs hB (fun a w hs hB => ?_)
 refine l_fit (v := .bool true) (fit_on rfl rfl rfl (ok_move rfl rfl)) rfl rfl hs hB (fun a w hs hB => ?_)
 refine l_fit (v := pt g16 2) (fit_on rfl rfl rfl (ok_fieldAddr31_1 rfl rfl)) rfl rfl hs hB (fun a w hs hB => ?_)
 refine l_fit (v := .int .i64 0) (fit_on rfl rfl rfl (ok_load29 (k := 1) rfl rfl rfl rfl)) rfl rfl hs hB (fun a w hs hB => ?_)
 refine l_fit (v := .bool true) (fit_on rfl rfl rfl (ok_eq29 rfl rfl rfl (by decide))) rfl rfl hs hB (fun a w hs hB => ?_)
 refine l_fit (v := .bool true) (fit_on rfl rfl rfl (ok_pick_t rfl rfl rfl)) rfl rfl hs hB (fun a w hs hB => ?_)
 refine l_fit (v := .bool true) (fit_on rfl rfl rfl (ok_move rfl rfl)) rfl rfl hs hB (fun a w hs hB => ?_)
 refine l_fit (v := pt g17 2) (fit_on rfl rfl rfl (ok_fieldAddr31_1 rfl rfl)) rfl rfl hs hB (fun a w hs hB => ?_)
 refine l_fit (v := .int .i64 Q2) (fit_on rfl rfl rfl (ok_load29 (k := 0) rfl rfl rfl rfl)) rfl rfl hs hB (fun a w hs hB => ?_)
 refine l_fit (v := .bool false) (fit_on rfl rfl rfl (ok_eq29 rfl rfl rfl (decide_eq_false hq1))) rfl rfl hs hB (fun a w hs hB => ?_)
 refine l_fit (v := .bool false) (fit_on rfl rfl rfl (ok_pick_t rfl rfl rfl)) rfl rfl hs hB (fun a w hs hB => ?_)
 refine l_fit (v := .bool false) (fit_on rfl rfl rfl (ok_move rfl rfl)) rfl rfl hs hB (fun a w hs hB => ?_)
 refine l_fit (v := undef) (fit_off rfl rfl rfl rfl) rfl rfl hs hB (fun a w hs hB => ?_)
 refine l_fit (v := undef) (fit_off rfl rfl rfl rfl) rfl rfl hs hB (fun a w hs hB => ?_)
 refine l_fit (v := undef) (fit_off rfl rfl rfl rfl) rfl rfl hs hB (fun a w hs hB => ?_)
 refine l_fit (v := undef) (fit_off rfl rfl rfl rfl) rfl rfl hs hB (fun a w hs hB => ?_)
 refine l_fit (v := undef) (fit_off rfl rfl rfl rfl) rfl rfl hs hB (fun a w hs hB => ?_)
 refine l_fit (v := undef) (fit_off rfl rfl rfl rfl) rfl rfl hs hB (fun a w hs hB => ?_)
 refine l_fit (v := undef) (fit_off rfl rfl rfl rfl) rfl rfl hs hB (fun a w hs hB => ?_)
 refine l_fit (v := .bool false) (fit_on rfl rfl rfl (ok_pick_f rfl rfl rfl)) rfl rfl hs hB (fun a w hs hB => ?_)
 refine l_fit (v := .bool false) (fit_free rfl (ok_pick_f rfl rfl rfl)) rfl rfl hs hB (fun a w hs hB => ?_)
 refine l_nil ?_
 replace hs := hs.sub (l := [(213, .bool false), (7, .bool true)]) (⟨rfl, rfl, trivial⟩)
 refine c_false hs rfl ?_
 refine wp_skip ?_
 refine then_n ?_
 replace hs := hs.sub (l := [(7, .bool true)]) (⟨rfl, trivial⟩)
 refine c_list ?_
 refine l_fit (v := .bool true) (fit_free rfl (ok_move rfl rfl)) rfl rfl hs hB (fun a w hs hB => ?_)
 refine l_fit (v := .bool true) (fit_free rfl (ok_assign rfl rfl)) rfl rfl hs hB (fun a w hs hB => ?_)
 refine l_nil ?_
 replace hs := hs.sub (l := [(6, .bool true)]) (⟨rfl, trivial⟩)
 refine wp_ret ?_
 exact c_ret rfl hs rfl ⟨rfl, hB.below⟩

theorem o24se (K : Nat) (w0 : World) (g17 g16 g15 g14 g10 : Nat) (cN cD x S0 S1 S2 T0 T1 T2 P0 P1 Q0 Q1 : Int) (hs1 : S2 ≠ 0) (hc0 : cN > 0) (h2 : F.fraction_Cmp.f P0 P1 Q0 Q1 = some (x)) :
  ∀ a w, Sl 215 [(7, .bool true), (10, pt g10 0), (11, .int .i64 x), (14, pt g14 0), (15, pt g15 0), (16, pt g16 0), (17, pt g17 0)] a → Bl w0 [(g17, .cells #[.int .i64 Q0, .int .i64 Q1, .int .i64 0] 31 (0, 0)), (g16, .cells #[.int .i64 P0, .int .i64 P1, .int .i64 0] 31 (0, 0)), (g15, .cells #[.int .i64 T0, .int .i64 T1, .int .i64 T2] 31 (0, 0)), (g14, .cells #[.int .i64 S0, .int .i64 S1, .int .i64 S2] 31 (0, 0)), (g10, .cells #[.int .i64 cN, .int .i64 cD] 25 (0, 0))] w → (restOf Tryd.f6 24).wp Tryd.prog (bodyPost Tryd.prog Tryd.f6 fun e w' => e = .returned (.bool true) ∧ Below w0.heap.size w0 w') a w := by
 intro a w hs hB
 conv => arg 2; whnf
 refine wp_seq ?_
 refine c_list ?_
 refine l_fit (v := pt g14 2) (fit_free rfl (ok_fieldAddr31_1 rfl rfl)) rfl rfl hs hB (fun a w hs hB => ?_)
 refine l_fit (v := .int .i64 S2) (fit_free rfl (ok_load29 (k := 3) rfl rfl rfl rfl)) rfl rfl hs hB (fun a w hs hB => ?_)
 refine l_fit (v := .bool false) (fit_free rfl (ok_eq29 rfl rfl rfl (decide_eq_false hs1))) rfl rfl hs hB (fun a w hs hB => ?_)
 refine l_fit (v := .bool false) (fit_free rfl (ok_move rfl rfl)) rfl rfl hs hB (fun a w hs hB => ?_)
 refine l_fit (v := undef) (fit_off rfl rfl rfl rfl) rfl rfl hs hB (fun a w hs hB => ?_)
 refine l_fit (v := undef) (fit_off rfl rfl rfl rfl) rfl rfl hs hB (fun a w hs hB => ?_)
 refine l_fit (v := undef) (fit_off rfl rfl rfl rfl) rfl rfl hs hB (fun a w hs hB => ?_)
 refine l_fit (v := .bool false) (fit_free rfl (ok_pick_f rfl rfl rfl)) rfl rfl hs hB (fun a w hs hB => ?_)
 refine l_fit (v := .bool false) (fit_free rfl (ok_move rfl rfl)) rfl rfl hs hB (fun a w hs hB => ?_)
 refine l_fit (v := undef) (fit_off rfl rfl rfl rfl) rfl rfl hs hB (fun a w hs hB => ?_)
 refine l_fit (v := undef) (fit_off rfl rfl rfl rfl) rfl rfl hs hB (fun a w hs hB => ?_)
 refine l_fit (v := undef) (fit_off rfl rfl rfl rfl) rfl rfl hs hB (fun a w hs hB => ?_)
 refine l_fit (v := undef) (fit_off rfl rfl rfl rfl) rfl rfl hs hB (fun a w hs hB => ?_)
 refine l_fit (v := undef) (fit_off rfl rfl rfl rfl) rfl rfl hs hB (fun a w hs hB => ?_)
 refine l_fit (v := undef) (fit_off rfl rfl rfl rfl) rfl rfl hs hB (fun a w hs hB => ?_)
 refine l_fit (v := undef) (fit_off rfl rfl rfl rfl) rfl rfl hs hB (fun a w hs hB => ?_)
 refine l_fit (v := .bool false) (fit_free rfl (ok_pick_f rfl rfl rfl)) rfl rfl hs hB (fun a w hs hB => ?_)
 refine l_fit (v := .bool false) (fit_free rfl (ok_move rfl rfl)) rfl rfl hs hB (fun a w hs hB => ?_)
 refine l_fit (v := pt g10 0) (fit_on rfl rfl rfl (ok_fieldAddr25_0 rfl rfl)) rfl rfl hs hB (fun a w hs hB => ?_)
 refine l_fit (v := .int .i64 cN) (fit_on rfl rfl rfl (ok_load3 (k := 4) rfl rfl rfl rfl)) rfl rfl hs hB (fun a w hs hB => ?_)
 refine l_fit (v := .bool true) (fit_on rfl rfl rfl (ok_gtr3 rfl rfl rfl (by simp <;> omega))) rfl rfl hs hB (fun a w hs hB => ?_)
 refine l_fit (v := .bool true) (fit_on rfl rfl rfl (ok_move rfl rfl)) rfl rfl hs hB (fun a w hs hB => ?_)
 refine l_fit (v := pt g16 2) (fit_on rfl rfl rfl (ok_fieldAddr31_1 rfl rfl)) rfl rfl hs hB (fun a w hs hB => ?_)
 refine l_fit (v := .int .i64 0) (fit_on rfl rfl rfl (ok_load29 (k := 1) rfl rfl rfl rfl)) rfl rfl hs hB (fun a w hs hB => ?_)
 refine l_fit (v := .bool true) (fit_on rfl rfl rfl (ok_eq29 rfl rfl rfl (by decide))) rfl rfl hs hB (fun a w hs hB => ?_)
 refine l_fit (v := .bool true) (fit_on rfl rfl rfl (ok_pick_t rfl rfl rfl)) rfl rfl hs hB (fun a w hs hB => ?_)
 refine l_fit (v := .bool true) (fit_on rfl rfl rfl (ok_move rfl rfl)) rfl rfl hs hB (fun a w hs hB => ?_)
 refine l_fit (v := pt g17 2) (fit_on rfl rfl rfl (ok_fieldAddr31_1 rfl rfl)) rfl rfl hs hB (fun a w hs hB => ?_)
 refine l_fit (v := .int .i64 0) (fit_on rfl rfl rfl (ok_load29 (k := 0) rfl rfl rfl rfl)) rfl rfl hs hB (fun a w hs hB => ?_)
 refine l_fit (v := .bool true) (fit_on rfl rfl rfl (ok_eq29 rfl rfl rfl (by decide))) rfl rfl hs hB (fun a w hs hB => ?_)
 refine l_fit (v := .bool true) (fit_on rfl rfl rfl (ok_pick_t rfl rfl rfl)) rfl rfl hs hB (fun a w hs hB => ?_)
 refine l_fit (v := .bool true) (fit_on rfl rfl rfl (ok_move rfl rfl)) rfl rfl hs hB (fun a w hs hB => ?_)
 refine l_fit (v := pt g16 0) (fit_on rfl rfl rfl (ok_fieldAddr31_0 rfl rfl)) rfl rfl hs hB (fun a w hs hB => ?_)
 refine l_fit (v := .agg #[.int .i64 P0, .int .i64 P1]) (fit_on rfl rfl rfl (ok_load25 (k := 1) rfl rfl rfl rfl rfl)) rfl rfl hs hB (fun a w hs hB => ?_)
 refine l_fit (v := pt g17 0) (fit_on rfl rfl rfl (ok_fieldAddr31_0 rfl rfl)) rfl rfl hs hB (fun a w hs hB => ?_)
 refine l_fit (v := .agg #[.int .i64 Q0, .int .i64 Q1]) (fit_on rfl rfl rfl (ok_load25 (k := 0) rfl rfl rfl rfl rfl)) rfl rfl hs hB (fun a w hs hB => ?_)
 refine l_fit (v := .int .i64 x) (fit_on rfl rfl rfl (ok_call (args := #[.agg #[.int .i64 P0, .int .i64 P1], .agg #[.int .i64 Q0, .int .i64 Q1]]) rfl Tryd.func13 (by kernel_rfl) rfl rfl (viaB fun w => F.fraction_Cmp.calls _ _ _ _ _ w h2))) rfl rfl hs hB (fun a w hs hB => ?_)
 refine l_fit (v := .int .i64 x) (fit_on rfl rfl rfl (ok_move rfl rfl)) rfl rfl hs hB (fun a w hs hB => ?_)
 refine l_fit (v := .bool false) (fit_on rfl rfl rfl (ok_neq3 rfl rfl rfl (by simp))) rfl rfl hs hB (fun a w hs hB => ?_)
 refine l_fit (v := .bool false) (fit_on rfl rfl rfl (ok_pick_t rfl rfl rfl)) rfl rfl hs hB (fun a w hs hB => ?_)
 refine l_fit (v := .bool false) (fit_free rfl (ok_pick_f rfl rfl rfl)) rfl rfl hs hB (fun a w hs hB => ?_)
 refine l_nil ?_
 replace hs := hs.sub (l := [(213, .bool false), (7, .bool true)]) (⟨rfl, rfl, trivial⟩)
 refine c_false hs rfl ?_
 refine wp_skip ?_
 refine then_n ?_
 replace hs := hs.sub (l := [(7, .bool true)]) (⟨rfl, trivial⟩)
 refine c_list ?_
 refine l_fit (v := .bool true) (fit_free rfl (ok_move rfl rfl)) rfl rfl hs hB (fun a w hs hB => ?_)
 refine l_fit (v := .bool true) (fit_free rfl (ok_assign rfl rfl)) rfl rfl hs hB (fun a w hs hB => ?_)
 refine l_nil ?_
 replace hs := hs.sub (l := [(6, .bool true)]) (⟨rfl, trivial⟩)
 refine wp_ret ?_
 exact c_ret rfl hs rfl ⟨rfl, hB.below⟩

theorem o24tc (K : Nat) (w0 : World) (g17 g16 g15 g14 g10 : Nat) (cN cD x S0 S1 T0 T1 T2 P0 P1 P2 Q0 Q1 Q2 : Int) (ht1 : T2 ≠ 0) (hc0 : ¬ cN > 0) :
  ∀ a w, Sl 215 [(7, .bool true), (10, pt g10 0), (11, .int .i64 x), (14, pt g14 0), (15, pt g15 0), (16, pt g16 0), (17, pt g17 0)] a → Bl w0 [(g17, .cells #[.int .i64 Q0, .int .i64 Q1, .int .i64 Q2] 31 (0, 0)), (g16, .cells #[.int .i64 P0, .int .i64 P1, .int .i64 P2] 31 (0, 0)), (g15, .cells #[.int .i64 T0, .int .i64 T1, .int .i64 T2] 31 (0, 0)), (g14, .cells #[.int .i64 S0, .int .i64 S1, .int .i64 0] 31 (0, 0)), (g10, .cells #[.int .i64 cN, .int .i64 cD] 25 (0, 0))] w → (restOf Tryd.f6 24).wp Tryd.prog (bodyPost Tryd.prog Tryd.f6 fun e w' => e = .returned (.bool true) ∧ Below w0.heap.size w0 w') a w := by
 intro a w hs hB
 conv => arg 2; whnf
 refine wp_seq ?_
 refine c_list ?_
 refine l_fit (v := pt g14 2) (fit_free rfl (ok_fieldAddr31_1 rfl rfl)) rfl rfl hs hB (fun a w hs hB => ?_)
 refine l_fit (v := .int .i64 0) (fit_free rfl (ok_load29 (k := 3) rfl rfl rfl rfl)) rfl rfl hs hB (fun a w hs hB => ?_)
 refine l_fit (v := .bool true) (fit_free rfl (ok_eq29 rfl rfl rfl (by decide))) rfl rfl hs hB (fun a w hs hB => ?_)
 refine l_fit (v := .bool true) (fit_free rfl (ok_move rfl rfl)) rfl rfl hs hB (fun a w hs hB => ?_)
 refine l_fit (v := pt g15 2) (fit_on rfl rfl rfl (ok_fieldAddr31_1 rfl rfl)) rfl rfl hs hB (fun a w hs hB => ?_)
 refine l_fit (v := .int .i64 T2) (fit_on rfl rfl rfl (ok_load29 (k := 2) rfl rfl rfl rfl)) rfl rfl hs hB (fun a w hs hB => ?_)
 refine l_fit (v := .bool false) (fit_on rfl rfl rfl (ok_eq29 rfl rfl rfl (decide_eq_false ht1))) rfl rfl hs hB (fun a w hs hB => ?_)
 refine l_fit (v := .bool false) (fit_free rfl (ok_pick_t rfl rfl rfl)) rfl rfl hs hB (fun a w hs hB => ?_)
 refine l_fit (v := .bool false) (fit_free rfl (ok_move rfl rfl)) rfl rfl hs hB (fun a w hs hB => ?_)
 refine l_fit (v := undef) (fit_off rfl rfl rfl rfl) rfl rfl hs hB (fun a w hs hB => ?_)
 refine l_fit (v := undef) (fit_off rfl rfl rfl rfl) rfl rfl hs hB (fun a w hs hB => ?_)
 refine l_fit (v := undef) (fit_off rfl rfl rfl rfl) rfl rfl hs hB (fun a w hs hB => ?_)
 refine l_fit (v := undef) (fit_off rfl rfl rfl rfl) rfl rfl hs hB (fun a w hs hB => ?_)
 refine l_fit (v := undef) (fit_off rfl rfl rfl rfl) rfl rfl hs hB (fun a w hs hB => ?_)
 refine l_fit (v := undef) (fit_off rfl rfl rfl rfl) rfl rfl hs hB (fun a w hs hB => ?_)
 refine l_fit (v := undef) (fit_off rfl rfl rfl rfl) rfl rfl hs hB (fun a w hs hB => ?_)
 refine l_fit (v := .bool false) (fit_free rfl (ok_pick_f rfl rfl rfl)) rfl rfl hs hB (fun a w hs hB => ?_)
 refine l_fit (v := .bool false) (fit_free rfl (ok_move rfl rfl)) rfl rfl hs hB (fun a w hs hB => ?_)
 refine l_fit (v := pt g10 0) (fit_on rfl rfl rfl (ok_fieldAddr25_0 rfl rfl)) rfl rfl hs hB (fun a w hs hB => ?_)
 refine l_fit (v := .int .i64 cN) (fit_on rfl rfl rfl (ok_load3 (k := 4) rfl rfl rfl rfl)) rfl rfl hs hB (fun a w hs hB => ?_)
 refine l_fit (v := .bool false) (fit_on rfl rfl rfl (ok_gtr3 rfl rfl rfl (by simp <;> omega))) rfl rfl hs hB (fun a w hs hB => ?_)
 refine l_fit (v := .bool false) (fit_on rfl rfl rfl (ok_move rfl rfl)) rfl rfl hs hB (fun a w hs hB => ?_)
 refine l_fit (v := undef) (fit_off rfl rfl rfl rfl) rfl rfl hs hB (fun a w hs hB => ?_)
 refine l_fit (v := undef) (fit_off rfl rfl rfl rfl) rfl rfl hs hB (fun a w hs hB => ?_)
 refine l_fit (v := undef) (fit_off rfl rfl rfl rfl) rfl rfl hs hB (fun a w hs hB => ?_)
 refine l_fit (v := .bool false) (fit_on rfl rfl rfl (ok_pick_f rfl rfl rfl)) rfl rfl hs hB (fun a w hs hB => ?_)
 refine l_fit (v := .bool false) (fit_on rfl rfl rfl (ok_move rfl rfl)) rfl rfl hs hB (fun a w hs hB => ?_)
 refine l_fit (v := undef) (fit_off rfl rfl rfl rfl) rfl rfl hs hB (fun a w hs hB => ?_)
 refine l_fit (v := undef) (fit_off rfl rfl rfl rfl) rfl rfl hs hB (fun a w hs hB => ?_)
 refine l_fit (v := undef) (fit_off rfl rfl rfl rfl) rfl rfl hs hB (fun a w hs hB => ?_)
 refine l_fit (v := .bool false) (fit_on rfl rfl rfl (ok_pick_f rfl rfl rfl)) rfl rfl hs hB (fun a w hs hB => ?_)
 refine l_fit (v := .bool false) (fit_on rfl rfl rfl (ok_move rfl rfl)) rfl rfl hs hB (fun a w hs hB => ?_)
 refine l_fit (v := undef) (fit_off rfl rfl rfl rfl) rfl rfl hs hB (fun a w hs hB => ?_)
 refine l_fit (v := undef) (fit_off rfl rfl rfl rfl) rfl rfl hs hB (fun a w hs hB => ?_)
 refine l_fit (v := undef) (fit_off rfl rfl rfl rfl) rfl rfl hs hB (fun a w hs hB => ?_)
 refine l_fit (v := undef) (fit_off rfl rfl rfl rfl) rfl rfl hs hB (fun a w hs hB => ?_)
 refine l_fit (v := undef) (fit_off rfl rfl rfl rfl) rfl rfl hs hB (fun a w hs hB => ?_)
 refine l_fit (v := undef) (fit_off rfl rfl rfl rfl) rfl rfl hs hB (fun a w hs hB => ?_)
 refine l_fit (v := undef) (fit_off rfl rfl rfl rfl) rfl rfl hs hB (fun a w hs hB => ?_)
 refine l_fit (v := .bool false) (fit_on rfl rfl rfl (ok_pick_f rfl rfl rfl)) rfl rfl hs hB (fun a w hs hB => ?_)
 refine l_fit (v := .bool false) (fit_free rfl (ok_pick_f rfl rfl rfl)) rfl rfl hs hB (fun a w hs hB => ?_)
 refine l_nil ?_
 replace hs := hs.sub (l := [(213, .bool false), (7, .bool true)]) (⟨rfl, rfl, trivial⟩)
 refine c_false hs rfl ?_
 refine wp_skip ?_
 refine then_n ?_
 replace hs := hs.sub (l := [(7, .bool true)]) (⟨rfl, trivial⟩)
 refine c_list ?_
 refine l_fit (v := .bool true) (fit_free rfl (ok_move rfl rfl)) rfl rfl hs hB (fun a w hs hB => ?_)
 refine l_fit (v := .bool true) (fit_free rfl (ok_assign rfl rfl)) rfl rfl hs hB (fun a w hs hB => ?_)
 refine l_nil ?_
 replace hs := hs.sub (l := [(6, .bool true)]) (⟨rfl, trivial⟩)
 refine wp_ret ?_
 exact c_ret rfl hs rfl ⟨rfl, hB.below⟩

theorem o24tp (K : Nat) (w0 : World) (g17 g16 g15 g14 g10 : Nat) (cN cD x S0 S1 T0 T1 T2 P0 P1 P2 Q0 Q1 Q2 : Int) (ht1 : T2 ≠ 0) (hc0 : cN > 0) (hp1 : P2 ≠ 0) :
  ∀ a w, Sl 215 [(7, .bool true), (10, pt g10 0), (11, .int .i64 x), (14, pt g14 0), (15, pt g15 0), (16, pt g16 0), (17, pt g17 0)] a → Bl w0 [(g17, .cells #[.int .i64 Q0, .int .i64 Q1, .int .i64 Q2] 31 (0, 0)), (g16, .cells #[.int .i64 P0, .int .i64 P1, .int .i64 P2] 31 (0, 0)), (g15, .cells #[.int .i64 T0, .int .i64 T1, .int .i64 T2] 31 (0, 0)), (g14, .cells #[.int .i64 S0, .int .i64 S1, .int .i64 0] 31 (0, 0)), (g10, .cells #[.int .i64 cN, .int .i64 cD] 25 (0, 0))] w → (restOf Tryd.f6 24).wp Tryd.prog (bodyPost Tryd.prog Tryd.f6 fun e w' => e = .returned (.bool true) ∧ Below w0.heap.size w0 w') a w := by
 intro a w hs hB
 conv => arg 2; whnf
 refine wp_seq ?_
 refine c_list ?_
 refine l_fit (v := pt g14 2) (fit_free rfl (ok_fieldAddr31_1 rfl rfl)) rfl rfl hs hB (fun a w hs hB => ?_)
 refine l_fit (v := .int .i64 0) (fit_free rfl (ok_load29 (k := 3) rfl rfl rfl rfl)) rfl rfl hs hB (fun a w hs hB => ?_)
 refine l_fit (v := .bool true) (fit_free rfl (ok_eq29 rfl rfl rfl (by decide))) rfl rfl hs hB (fun a w hs hB => ?_)
 refine l_fit (v := .bool true) (fit_free rfl (ok_move rfl rfl)) rfl rfl hs hB (fun a w hs hB => ?_)
 refine l_fit (v := pt g15 2) (fit_on rfl rfl rfl (ok_fieldAddr31_1 rfl rfl)) rfl rfl hs hB (fun a w hs hB => ?_)
 refine l_fit (v := .int .i64 T2) (fit_on rfl rfl rfl (ok_load29 (k := 2) rfl rfl rfl rfl)) rfl rfl hs hB (fun a w hs hB => ?_)
 refine l_fit (v := .bool false) (fit_on rfl rfl rfl (ok_eq29 rfl rfl rfl (decide_eq_false ht1))) rfl rfl hs hB (fun a w hs hB => ?_)
 refine l_fit (v := .bool false) (fit_free rfl (ok_pick_t rfl rfl rfl)) rfl rfl hs hB (fun a w hs hB => ?_)
 refine l_fit (v := .bool false) (fit_free rfl (ok_move rfl rfl)) rfl rfl hs hB (fun a w hs hB => ?_)
 refine l_fit (v := undef) (fit_off rfl rfl rfl rfl) rfl rfl hs hB (fun a w hs hB => ?_)
 refine l_fit (v := undef) (fit_off rfl rfl rfl rfl) rfl rfl hs hB (fun a w hs hB => ?_)
 refine l_fit (v := undef) (fit_off rfl rfl rfl rfl) rfl rfl hs hB (fun a w hs hB => ?_)
 refine l_fit (v := undef) (fit_off rfl rfl rfl rfl) rfl rfl hs hB (fun a w hs hB => ?_)
 refine l_fit (v := undef) (fit_off rfl rfl rfl rfl) rfl rfl hs hB (fun a w hs hB => ?_)
 refine l_fit (v := undef) (fit_off rfl rfl rfl rfl) rfl rfl hs hB (fun a w hs hB => ?_)
 refine l_fit (v := undef) (fit_off rfl rfl rfl rfl) rfl rfl hs hB (fun a w hs hB => ?_)
 refine l_fit (v := .bool false) (fit_free rfl (ok_pick_f rfl rfl rfl)) rfl rfl hs hB (fun a w hs hB => ?_)
 refine l_fit (v := .bool false) (fit_free rfl (ok_move rfl rfl)) rfl rfl hs hB (fun a w hs hB => ?_)
 refine l_fit (v := pt g10 0) (fit_on rfl rfl rfl (ok_fieldAddr25_0 rfl rfl)) rfl rfl hs hB (fun a w hs hB => ?_)
 refine l_fit (v := .int .i64 cN) (fit_on rfl rfl rfl (ok_load3 (k := 4) rfl rfl rfl rfl)) rfl rfl hs hB (fun a w hs hB => ?_)
 refine l_fit (v := .bool true) (fit_on rfl rfl rfl (ok_gtr3 rfl rfl rfl (by simp <;> omega))) rfl rfl hs hB (fun a w hs hB => ?_)
 refine l_fit (v := .bool true) (fit_on rfl rfl rfl (ok_move rfl rfl)) rfl rfl hs hB (fun a w hs hB => ?_)
 refine l_fit (v := pt g16 2) (fit_on rfl rfl rfl (ok_fieldAddr31_1 rfl rfl)) rfl rfl hs hB (fun a w hs hB => ?_)
 refine l_fit (v := .int .i64 P2) (fit_on rfl rfl rfl (ok_load29 (k := 1) rfl rfl rfl rfl)) rfl rfl hs hB (fun a w hs hB => ?_)
 refine l_fit (v := .bool false) (fit_on rfl rfl rfl (ok_eq29 rfl rfl rfl (decide_eq_false hp1))) rfl rfl hs hB (fun a w hs hB => ?_)
 refine l_fit (v := .bool false) (fit_on rfl rfl rfl (ok_pick_t rfl rfl rfl)) rfl rfl hs hB (fun a w hs hB => ?_)
 refine l_fit (v := .bool false) (fit_on rfl rfl rfl (ok_move rfl rfl)) rfl rfl hs hB (fun a w hs hB => ?_)
 refine l_fit (v := undef) (fit_off rfl rfl rfl rfl) rfl rfl hs hB (fun a w hs hB => ?_)
 refine l_fit (v := undef) (fit_off rfl rfl rfl rfl) rfl rfl hs hB (fun a w hs hB => ?_)
 refine l_fit (v := undef) (fit_off rfl rfl rfl rfl) rfl rfl hs hB (fun a w hs hB => ?_)
 refine l_fit (v := .bool false) (fit_on rfl rfl rfl (ok_pick_f rfl rfl rfl)) rfl rfl hs hB (fun a w hs hB => ?_)
 refine l_fit (v := .bool false) (fit_on rfl rfl rfl (ok_move rfl rfl)) rfl rfl hs hB (fun a w hs hB => ?_)
 refine l_fit (v := undef) (fit_off rfl rfl rfl rfl) rfl rfl hs hB (fun a w hs hB => ?_)
 refine l_fit (v := undef) (fit_off rfl rfl rfl rfl) rfl rfl hs hB (fun a w hs hB => ?_)
 refine l_fit (v := undef) (fit_off rfl rfl rfl rfl) rfl rfl hs hB (fun a w hs hB => ?_)
 refine l_fit (v := undef) (fit_off rfl rfl rfl rfl) rfl rfl hs hB (fun a w hs hB => ?_)
 refine l_fit (v := undef) (fit_off rfl rfl rfl rfl) rfl rfl hs hB (fun a w hs hB => ?_)
 refine l_fit (v := undef) (fit_off rfl rfl rfl rfl) rfl rfl hs hB (fun a w hs hB => ?_)
 refine l_fit (v := undef) (fit_off rfl rfl rfl rfl) rfl rfl hs hB (fun a w hs hB => ?_)
 refine l_fit (v := .bool false) (fit_on rfl rfl rfl (ok_pick_f rfl rfl rfl)) rfl rfl hs hB (fun a w hs hB => ?_)
 refine l_fit (v := .bool false) (fit_free rfl (ok_pick_f rfl rfl rfl)) rfl rfl hs hB (fun a w hs hB => ?_)
 refine l_nil ?_
 replace hs := hs.sub (l := [(213, .bool false), (7, .bool true)]) (⟨rfl, rfl, trivial⟩)
 refine c_false hs rfl ?_
 refine wp_skip ?_
 refine then_n ?_
 replace hs := hs.sub (l := [(7, .bool true)]) (⟨rfl, trivial⟩)
 refine c_list ?_
 refine l_fit (v := .bool true) (fit_free rfl (ok_move rfl rfl)) rfl rfl hs hB (fun a w hs hB => ?_)
 refine l_fit (v := .bool true) (fit_free rfl (ok_assign rfl rfl)) rfl rfl hs hB (fun a w hs hB => ?_)
 refine l_nil ?_
 replace hs := hs.sub (l := [(6, .bool true)]) (⟨rfl, trivial⟩)
 refine wp_ret ?_
 exact c_ret rfl hs rfl ⟨rfl, hB.below⟩

theorem o24tq (K : Nat) (w0 : World) (g17 g16 g15 g14 g10 : Nat) (cN cD x S0 S1 T0 T1 T2 P0 P1 Q0 Q1 Q2 : Int) (ht1 : T2 ≠ 0) (hc0 : cN > 0) (hq1 : Q2 ≠ 0) :
  ∀ a w, Sl 215 [(7, .bool true), (10, pt g10 0), (11, .int .i64 x), (14, pt g14 0), (15, pt g15 0), (16, pt g16 0), (17, pt g17 0)] a → Bl w0 [(g17, .cells #[.int .i64 Q0, .int .i64 Q1, .int .i64 Q2] 31 (0, 0)), (g16, .cells #[.int .i64 P0, .int .i64 P1, .int .i64 0] 31 (0, 0)), (g15, .cells #[.int .i64 T0, .int .i64 T1, .int .i64 T2] 31 (0, 0)), (g14, .cells #[.int .i64 S0, .int .i64 S1, .int .i64 0] 31 (0, 0)), (g10, .cells #[.int .i64 cN, .int .i64 cD] 25 (0, 0))] w → (restOf Tryd.f6 24).wp Tryd.prog (bodyPost Tryd.prog Tryd.f6 fun e w' => e = .returned (.bool true) ∧ Below w0.heap.size w0 w') a w := by
 intro a w hs hB
 conv => arg 2; whnf
 refine wp_seq ?_
 refine c_list ?_
 refine l_fit (v := pt g14 2) (fit_free rfl (ok_fieldAddr31_1 rfl rfl)) rfl rfl hs hB (fun a w hs hB => ?_)
 refine l_fit (v := .int .i64 0) (fit_free rfl (ok_load29 (k := 3) rfl rfl rfl rfl)) rfl rfl hs hB (fun a w hs hB => ?_)
 refine l_fit (v := .bool true) (fit_free rfl (ok_eq29 rfl rfl rfl (by decide))) rfl rfl hs hB (fun a w hs hB => ?_)
 refine l_fit (v := .bool true) (fit_free rfl (ok_move rfl rfl)) rfl rfl hs hB (fun a w hs hB => ?_)
 refine l_fit (v := pt g15 2) (fit_on rfl rfl rfl (ok_fieldAddr31_1 rfl rfl)) rfl rfl hs hB (fun a w hs hB => ?_)
 refine l_fit (v := .int .i64 T2) (fit_on rfl rfl rfl (ok_load29 (k := 2) rfl rfl rfl rfl)) rfl rfl hs hB (fun a w hs hB => ?_)
 refine l_fit (v := .bool false) (fit_on rfl rfl rfl (ok_eq29 rfl rfl rfl (decide_eq_false ht1))) rfl rfl hs hB (fun a w hs hB => ?_)
 refine l_fit (v := .bool false) (fit_free rfl (ok_pick_t rfl rfl rfl)) rfl rfl hs hB (fun a w hs hB => ?_)
 refine l_fit (v := .bool false) (fit_free rfl (ok_move rfl rfl)) rfl rfl hs hB (fun a w hs hB => ?_)
 refine l_fit (v := undef) (fit_off rfl rfl rfl rfl) rfl rfl hs hB (fun a w hs hB => ?_)
 refine l_fit (v := undef) (fit_off rfl rfl rfl rfl) rfl rfl hs hB (fun a w hs hB => ?_)
 refine l_fit (v := undef) (fit_off rfl rfl rfl rfl) rfl rfl hs hB (fun a w hs hB => ?_)
 refine l_fit (v := undef) (fit_off rfl rfl rfl rfl) rfl rfl hs hB (fun a w hs hB => ?_)
 refine l_fit (v := undef) (fit_off rfl rfl rfl rfl) rfl rfl hs hB (fun a w hs hB => ?_)
 refine l_fit (v := undef) (fit_off rfl rfl rfl rfl) rfl rfl hs hB (fun a w hs hB => ?_)
 refine l_fit (v := undef) (fit_off rfl rfl rfl rfl) rfl rfl hs hB (fun a w hs hB => ?_)
 refine l_fit (v := .bool false) (fit_free rfl (ok_pick_f rfl rfl rfl)) rfl rfl hs hB (fun a w hs hB => ?_)
 refine l_fit (v := .bool false) (fit_free rfl (ok_move rfl rfl)) rfl rfl hs hB (fun a w hs hB => ?_)
 refine l_fit (v := pt g10 0) (fit_on rfl rfl rfl (ok_fieldAddr25_0 rfl rfl)) rfl rfl hs hB (fun a w hs hB => ?_)
 refine l_fit (v := .int .i64 cN) (fit_on rfl rfl rfl (ok_load3 (k := 4) rfl rfl rfl rfl)) rfl rfl hs hB (fun a w hs hB => ?_)
 refine l_fit (v := .bool true) (fit_on rfl rfl rfl (ok_gtr3 rfl rfl rfl (by simp <;> omega))) rfl rfl hs hB (fun a w hs hB => ?_)
 refine l_fit (v := .bool true) (fit_on rfl rfl rfl (ok_move rfl rfl)) rfl rfl hs hB (fun a w hs hB => ?_)
 refine l_fit (v := pt g16 2) (fit_on rfl rfl rfl (ok_fieldAddr31_1 rfl rfl)) rfl rfl hs hB (fun a w hs hB => ?_)
 refine l_fit (v := .int .i64 0) (fit_on rfl rfl rfl (ok_load29 (k := 1) rfl rfl rfl rfl)) rfl rfl hs hB (fun a w hs hB => ?_)
 refine l_fit (v := .bool true) (fit_on rfl rfl rfl (ok_eq29 rfl rfl rfl (by decide))) rfl rfl hs hB (fun a w hs hB => ?_)
 refine l_fit (v := .bool true) (fit_on rfl rfl rfl (ok_pick_t rfl rfl rfl)) rfl rfl hs hB (fun a w hs hB => ?_)
 refine l_fit (v := .bool true) (fit_on rfl rfl rfl (ok_move rfl rfl)) rfl rfl hs hB (fun a w hs hB => ?_)
 refine l_fit (v := pt g17 2) (fit_on rfl rfl rfl (ok_fieldAddr31_1 rfl rfl)) rfl rfl hs hB (fun a w hs hB => ?_)
 refine l_fit (v := .int .i64 Q2) (fit_on rfl rfl rfl (ok_load29 (k := 0) rfl rfl rfl rfl)) rfl rfl hs hB (fun a w hs hB => ?_)
 refine l_fit (v := .bool false) (fit_on rfl rfl rfl (ok_eq29 rfl rfl rfl (decide_eq_false hq1))) rfl rfl hs hB (fun a w hs hB => ?_)
 refine l_fit (v := .bool false) (fit_on rfl rfl rfl (ok_pick_t rfl rfl rfl)) rfl rfl hs hB (fun a w hs hB => ?_)
 refine l_fit (v := .bool false) (fit_on rfl rfl rfl (ok_move rfl rfl)) rfl rfl hs hB (fun a w hs hB => ?_)
 refine l_fit (v := undef) (fit_off rfl rfl rfl rfl) rfl rfl hs hB (fun a w hs hB => ?_)
 refine l_fit (v := undef) (fit_off rfl rfl rfl rfl) rfl rfl hs hB (fun a w hs hB => ?_)
 refine l_fit (v := undef) (fit_off rfl rfl rfl rfl) rfl rfl hs hB (fun a w hs hB => ?_)
 refine l_fit (v := undef) (fit_off rfl rfl rfl rfl) rfl rfl hs hB (fun a w hs hB => ?_)
 refine l_fit (v := undef) (fit_off rfl rfl rfl rfl) rfl rfl hs hB (fun a w hs hB => ?_)
 refine l_fit (v := undef) (fit_off rfl rfl rfl rfl) rfl rfl hs hB (fun a w hs hB => ?_)
 refine l_fit (v := undef) (fit_off rfl rfl rfl rfl) rfl rfl hs hB (fun a w hs hB => ?_)
 refine l_fit (v := .bool false) (fit_on rfl rfl rfl (ok_pick_f rfl rfl rfl)) rfl rfl hs hB (fun a w hs hB => ?_)
 refine l_fit (v := .bool false) (fit_free rfl (ok_pick_f rfl rfl rfl)) rfl rfl hs hB (fun a w hs hB => ?_)
 refine l_nil ?_
 replace hs := hs.sub (l := [(213, .bool false), (7, .bool true)]) (⟨rfl, rfl, trivial⟩)
 refine c_false hs rfl ?_
 refine wp_skip ?_
 refine then_n ?_
 replace hs := hs.sub (l := [(7, .bool true)]) (⟨rfl, trivial⟩)
 refine c_list ?_
 refine l_fit (v := .bool true) (fit_free rfl (ok_move rfl rfl)) rfl rfl hs hB (fun a w hs hB => ?_)
 refine l_fit (v := .bool true) (fit_free rfl (ok_assign rfl rfl)) rfl rfl hs hB (fun a w hs hB => ?_)
 refine l_nil ?_
 replace hs := hs.sub (l := [(6, .bool true)]) (⟨rfl, trivial⟩)
 refine wp_ret ?_
 exact c_ret rfl hs rfl ⟨rfl, hB.below⟩

theorem o24te (K : Nat) (w0 : World) (g17 g16 g15 g14 g10 : Nat) (cN cD x S0 S1 T0 T1 T2 P0 P1 Q0 Q1 : Int) (ht1 : T2 ≠ 0) (hc0 : cN > 0) (h2 : F.fraction_Cmp.f P0 P1 Q0 Q1 = some (x)) :
  ∀ a w, Sl 215 [(7, .bool true), (10, pt g10 0), (11, .int .i64 x), (14, pt g14 0), (15, pt g15 0), (16, pt g16 0), (17, pt g17 0)] a → Bl w0 [(g17, .cells #[.int .i64 Q0, .int .i64 Q1, .int .i64 0] 31 (0, 0)), (g16, .cells #[.int .i64 P0, .int .i64 P1, .int .i64 0] 31 (0, 0)), (g15, .cells #[.int .i64 T0, .int .i64 T1, .int .i64 T2] 31 (0, 0)), (g14, .cells #[.int .i64 S0, .int .i64 S1, .int .i64 0] 31 (0, 0)), (g10, .cells #[.int .i64 cN, .int .i64 cD] 25 (0, 0))] w → (restOf Tryd.f6 24).wp Tryd.prog (bodyPost Tryd.prog Tryd.f6 fun e w' => e = .returned (.bool true) ∧ Below w0.heap.size w0 w') a w := by
 intro a w hs hB
 conv => arg 2; whnf
 refine wp_seq ?_
 refine c_list ?_
 refine l_fit (v := pt g14 2) (fit_free rfl (ok_fieldAddr31_1 rfl rfl)) rfl rfl hs hB (fun a w hs hB => ?_)
 refine l_fit (v := .int .i64 0) (fit_free rfl (ok_load29 (k := 3) rfl rfl rfl rfl)) rfl rfl hs hB (fun a w hs hB => ?_)
 refine l_fit (v := .bool true) (fit_free rfl (ok_eq29 rfl rfl rfl (by decide))) rfl rfl hs hB (fun a w hs hB => ?_)
 refine l_fit (v := .bool true) (fit_free rfl (ok_move rfl rfl)) rfl rfl hs hB (fun a w hs hB => ?_)
 refine l_fit (v := pt g15 2) (fit_on rfl rfl rfl (ok_fieldAddr31_1 rfl rfl)) rfl rfl hs hB (fun a w hs hB => ?_)
 refine l_fit (v := .int .i64 T2) (fit_on rfl rfl rfl (ok_load29 (k := 2) rfl rfl rfl rfl)) rfl rfl hs hB (fun a w hs hB => ?_)
 refine l_fit (v := .bool false) (fit_on rfl rfl rfl (ok_eq29 rfl rfl rfl (decide_eq_false ht1))) rfl rfl hs hB (fun a w hs hB => ?_)
 refine l_fit (v := .bool false) (fit_free rfl (ok_pick_t rfl rfl rfl)) rfl rfl hs hB (fun a w hs hB => ?_)
 refine l_fit (v := .bool false) (fit_free rfl (ok_move rfl rfl)) rfl rfl hs hB (fun a w hs hB => ?_)
 refine l_fit (v := undef) (fit_off rfl rfl rfl rfl) rfl rfl hs hB (fun a w hs hB => ?_)
 refine l_fit (v := undef) (fit_off rfl rfl rfl rfl) rfl rfl hs hB (fun a w hs hB => ?_)
 refine l_fit (v := undef) (fit_off rfl rfl rfl rfl) rfl rfl hs hB (fun a w hs hB => ?_)
 refine l_fit (v := undef) (fit_off rfl rfl rfl rfl) rfl rfl hs hB (fun a w hs hB => ?_)
 refine l_fit (v := undef) (fit_off rfl rfl rfl rfl) rfl rfl hs hB (fun a w hs hB => ?_)
 refine l_fit (v := undef) (fit_off rfl rfl rfl rfl) rfl rfl hs hB (fun a w hs hB => ?_)
 refine l_fit (v := undef) (fit_off rfl rfl rfl rfl) rfl rfl hs hB (fun a w hs hB => ?_)
 refine l_fit (v := .bool false) (fit_free rfl (ok_pick_f rfl rfl rfl)) rfl rfl hs hB (fun a w hs hB => ?_)
 refine l_fit (v := .bool false) (fit_free rfl (ok_move rfl rfl)) rfl rfl hs hB (fun a w hs hB => ?_)
 refine l_fit (v := pt g10 0) (fit_on rfl rfl rfl (ok_fieldAddr25_0 rfl rfl)) rfl rfl hs hB (fun a w hs hB => ?_)
 refine l_fit (v := .int .i64 cN) (fit_on rfl rfl rfl (ok_load3 (k := 4) rfl rfl rfl rfl)) rfl rfl hs hB (fun a w hs hB => ?_)
 refine l_fit (v := .bool true) (fit_on rfl rfl rfl (ok_gtr3 rfl rfl rfl (by simp <;> omega))) rfl rfl hs hB (fun a w hs hB => ?_)
 refine l_fit (v := .bool true) (fit_on rfl rfl rfl (ok_move rfl rfl)) rfl rfl hs hB (fun a w hs hB => ?_)
 refine l_fit (v := pt g16 2) (fit_on rfl rfl rfl (ok_fieldAddr31_1 rfl rfl)) rfl rfl hs hB (fun a w hs hB => ?_)
 refine l_fit (v := .int .i64 0) (fit_on rfl rfl rfl (ok_load29 (k := 1) rfl rfl rfl rfl)) rfl rfl hs hB (fun a w hs hB => ?_)
 refine l_fit (v := .bool true) (fit_on rfl rfl rfl (ok_eq29 rfl rfl rfl (by decide))) rfl rfl hs hB (fun a w hs hB => ?_)
 refine l_fit (v := .bool true) (fit_on rfl rfl rfl (ok_pick_t rfl rfl rfl)) rfl rfl hs hB (fun a w hs hB => ?_)
 refine l_fit (v := .bool true) (fit_on rfl rfl rfl (ok_move rfl rfl)) rfl rfl hs hB (fun a w hs hB => ?_)
 refine l_fit (v := pt g17 2) (fit_on rfl rfl rfl (ok_fieldAddr31_1 rfl rfl)) rfl rfl hs hB (fun a w hs hB => ?_)
 refine l_fit (v := .int .i64 0) (fit_on rfl rfl rfl (ok_load29 (k := 0) rfl rfl rfl rfl)) rfl rfl hs hB (fun a w hs hB => ?_)
 refine l_fit (v := .bool true) (fit_on rfl rfl rfl (ok_eq29 rfl rfl rfl (by decide))) rfl rfl hs hB (fun a w hs hB => ?_)
 refine l_fit (v := .bool true) (fit_on rfl rfl rfl (ok_pick_t rfl rfl rfl)) rfl rfl hs hB (fun a w hs hB => ?_)
 refine l_fit (v := .bool true) (fit_on rfl rfl rfl (ok_move rfl rfl)) rfl rfl hs hB (fun a w hs hB => ?_)
 refine l_fit (v := pt g16 0) (fit_on rfl rfl rfl (ok_fieldAddr31_0 rfl rfl)) rfl rfl hs hB (fun a w hs hB => ?_)
 refine l_fit (v := .agg #[.int .i64 P0, .int .i64 P1]) (fit_on rfl rfl rfl (ok_load25 (k := 1) rfl rfl rfl rfl rfl)) rfl rfl hs hB (fun a w hs hB => ?_)
 refine l_fit (v := pt g17 0) (fit_on rfl rfl rfl (ok_fieldAddr31_0 rfl rfl)) rfl rfl hs hB (fun a w hs hB => ?_)
 refine l_fit (v := .agg #[.int .i64 Q0, .int .i64 Q1]) (fit_on rfl rfl rfl (ok_load25 (k := 0) rfl rfl rfl rfl rfl)) rfl rfl hs hB (fun a w hs hB => ?_)
 refine l_fit (v := .int .i64 x) (fit_on rfl rfl rfl (ok_call (args := #[.agg #[.int .i64 P0, .int .i64 P1], .agg #[.int .i64 Q0, .int .i64 Q1]]) rfl Tryd.func13 (by kernel_rfl) rfl rfl (viaB fun w => F.fraction_Cmp.calls _ _ _ _ _ w h2))) rfl rfl hs hB (fun a w hs hB => ?_)
 refine l_fit (v := .int .i64 x) (fit_on rfl rfl rfl (ok_move rfl rfl)) rfl rfl hs hB (fun a w hs hB => ?_)
 refine l_fit (v := .bool false) (fit_on rfl rfl rfl (ok_neq3 rfl rfl rfl (by simp))) rfl rfl hs hB (fun a w hs hB => ?_)
 refine l_fit (v := .bool false) (fit_on rfl rfl rfl (ok_pick_t rfl rfl rfl)) rfl rfl hs hB (fun a w hs hB => ?_)
 refine l_fit (v := .bool false) (fit_free rfl (ok_pick_f rfl rfl rfl)) rfl rfl hs hB (fun a w hs hB => ?_)
 refine l_nil ?_
 replace hs := hs.sub (l := [(213, .bool false), (7, .bool true)]) (⟨rfl, rfl, trivial⟩)
 refine c_false hs rfl ?_
 refine wp_skip ?_
 refine then_n ?_
 replace hs := hs.sub (l := [(7, .bool true)]) (⟨rfl, trivial⟩)
 refine c_list ?_
 refine l_fit (v := .bool true) (fit_free rfl (ok_move rfl rfl)) rfl rfl hs hB (fun a w hs hB => ?_)
 refine l_fit (v := .bool true) (fit_free rfl (ok_assign rfl rfl)) rfl rfl hs hB (fun a w hs hB => ?_)
 refine l_nil ?_
 replace hs := hs.sub (l := [(6, .bool true)]) (⟨rfl, trivial⟩)
 refine wp_ret ?_
 exact c_ret rfl hs rfl ⟨rfl, hB.below⟩

theorem o24ec (K : Nat) (w0 : World) (g17 g16 g15 g14 g10 : Nat) (cN cD x S0 S1 T0 T1 P0 P1 P2 Q0 Q1 Q2 : Int) (h1 : F.fraction_Cmp.f S0 S1 T0 T1 = some (x)) (hc0 : ¬ cN > 0) :
  ∀ a w, Sl 215 [(7, .bool true), (10, pt g10 0), (11, .int .i64 x), (14, pt g14 0), (15, pt g15 0), (16, pt g16 0), (17, pt g17 0)] a → Bl w0 [(g17, .cells #[.int .i64 Q0, .int .i64 Q1, .int .i64 Q2] 31 (0, 0)), (g16, .cells #[.int .i64 P0, .int .i64 P1, .int .i64 P2] 31 (0, 0)), (g15, .cells #[.int .i64 T0, .int .i64 T1, .int .i64 0] 31 (0, 0)), (g14, .cells #[.int .i64 S0, .int .i64 S1, .int .i64 0] 31 (0, 0)), (g10, .cells #[.int .i64 cN, .int .i64 cD] 25 (0, 0))] w → (restOf Tryd.f6 24).wp Tryd.prog (bodyPost Tryd.prog Tryd.f6 fun e w' => e = .returned (.bool true) ∧ Below w0.heap.size w0 w') a w := by
 intro a w hs hB
 conv => arg 2; whnf
 refine wp_seq ?_
 refine c_list ?_
 refine l_fit (v := pt g14 2) (fit_free rfl (ok_fieldAddr31_1 rfl rfl)) rfl rfl hs hB (fun a w hs hB => ?_)
 refine l_fit (v := .int .i64 0) (fit_free rfl (ok_load29 (k := 3) rfl rfl rfl rfl)) rfl rfl hs hB (fun a w hs hB => ?_)
 refine l_fit (v := .bool true) (fit_free rfl (ok_eq29 rfl rfl rfl (by decide))) rfl rfl hs hB (fun a w hs hB => ?_)
 refine l_fit (v := .bool true) (fit_free rfl (ok_move rfl rfl)) rfl rfl hs hB (fun a w hs hB => ?_)
 refine l_fit (v := pt g15 2) (fit_on rfl rfl rfl (ok_fieldAddr31_1 rfl rfl)) rfl rfl hs hB (fun a w hs hB => ?_)
 refine l_fit (v := .int .i64 0) (fit_on rfl rfl rfl (ok_load29 (k := 2) rfl rfl rfl rfl)) rfl rfl hs hB (fun a w hs hB => ?_)
 refine l_fit (v := .bool true) (fit_on rfl rfl rfl (ok_eq29 rfl rfl rfl (by decide))) rfl rfl hs hB (fun a w hs hB => ?_)
 refine l_fit (v := .bool true) (fit_free rfl (ok_pick_t rfl rfl rfl)) rfl rfl hs hB (fun a w hs hB => ?_)
 refine l_fit (v := .bool true) (fit_free rfl (ok_move rfl rfl)) rfl rfl hs hB (fun a w hs hB => ?_)
 refine l_fit (v := pt g14 0) (fit_on rfl rfl rfl (ok_fieldAddr31_0 rfl rfl)) rfl rfl hs hB (fun a w hs hB => ?_)
 refine l_fit (v := .agg #[.int .i64 S0, .int .i64 S1]) (fit_on rfl rfl rfl (ok_load25 (k := 3) rfl rfl rfl rfl rfl)) rfl rfl hs hB (fun a w hs hB => ?_)
 refine l_fit (v := pt g15 0) (fit_on rfl rfl rfl (ok_fieldAddr31_0 rfl rfl)) rfl rfl hs hB (fun a w hs hB => ?_)
 refine l_fit (v := .agg #[.int .i64 T0, .int .i64 T1]) (fit_on rfl rfl rfl (ok_load25 (k := 2) rfl rfl rfl rfl rfl)) rfl rfl hs hB (fun a w hs hB => ?_)
 refine l_fit (v := .int .i64 x) (fit_on rfl rfl rfl (ok_call (args := #[.agg #[.int .i64 S0, .int .i64 S1], .agg #[.int .i64 T0, .int .i64 T1]]) rfl Tryd.func13 (by kernel_rfl) rfl rfl (viaB fun w => F.fraction_Cmp.calls _ _ _ _ _ w h1))) rfl rfl hs hB (fun a w hs hB => ?_)
 refine l_fit (v := .int .i64 x) (fit_on rfl rfl rfl (ok_move rfl rfl)) rfl rfl hs hB (fun a w hs hB => ?_)
 refine l_fit (v := .bool false) (fit_on rfl rfl rfl (ok_neq3 rfl rfl rfl (by simp))) rfl rfl hs hB (fun a w hs hB => ?_)
 refine l_fit (v := .bool false) (fit_free rfl (ok_pick_t rfl rfl rfl)) rfl rfl hs hB (fun a w hs hB => ?_)
 refine l_fit (v := .bool false) (fit_free rfl (ok_move rfl rfl)) rfl rfl hs hB (fun a w hs hB => ?_)
 refine l_fit (v := pt g10 0) (fit_on rfl rfl rfl (ok_fieldAddr25_0 rfl rfl)) rfl rfl hs hB (fun a w hs hB => ?_)
 refine l_fit (v := .int .i64 cN) (fit_on rfl rfl rfl (ok_load3 (k := 4) rfl rfl rfl rfl)) rfl rfl hs hB (fun a w hs hB => ?_)
 refine l_fit (v := .bool false) (fit_on rfl rfl rfl (ok_gtr3 rfl rfl rfl (by simp <;> omega))) rfl rfl hs hB (fun a w hs hB => ?_)
 refine l_fit (v := .bool false) (fit_on rfl rfl rfl (ok_move rfl rfl)) rfl rfl hs hB (fun a w hs hB => ?_)
 refine l_fit (v := undef) (fit_off rfl rfl rfl rfl) rfl rfl hs hB (fun a w hs hB => ?_)
 refine l_fit (v := undef) (fit_off rfl rfl rfl rfl) rfl rfl hs hB (fun a w hs hB => ?_)
 refine l_fit (v := undef) (fit_off rfl rfl rfl rfl) rfl rfl hs hB (fun a w hs hB => ?_)
 refine l_fit (v := .bool false) (fit_on rfl rfl rfl (ok_pick_f rfl rfl rfl)) rfl rfl hs hB (fun a w hs hB => ?_)
 refine l_fit (v := .bool false) (fit_on rfl rfl rfl (ok_move rfl rfl)) rfl rfl hs hB (fun a w hs hB => ?_)
 refine l_fit (v := undef) (fit_off rfl rfl rfl rfl) rfl rfl hs hB (fun a w hs hB => ?_)
 refine l_fit (v := undef) (fit_off rfl rfl rfl rfl) rfl rfl hs hB (fun a w hs hB => ?_)
 refine l_fit (v := undef) (fit_off rfl rfl rfl rfl) rfl rfl hs hB (fun a w hs hB => ?_)
 refine l_fit (v := .bool false) (fit_on rfl rfl rfl (ok_pick_f rfl rfl rfl)) rfl rfl hs hB (fun a w hs hB => ?_)
 refine l_fit (v := .bool false) (fit_on rfl rfl rfl (ok_move rfl rfl)) rfl rfl hs hB (fun a w hs hB => ?_)
 refine l_fit (v := undef) (fit_off rfl rfl rfl rfl) rfl rfl hs hB (fun a w hs hB => ?_)
 refine l_fit (v := undef) (fit_off rfl rfl rfl rfl) rfl rfl hs hB (fun a w hs hB => ?_)
 refine l_fit (v := undef) (fit_off rfl rfl rfl rfl) rfl rfl hs hB (fun a w hs hB => ?_)
 refine l_fit (v := undef) (fit_off rfl rfl rfl rfl) rfl rfl hs hB (fun a w hs hB => ?_)
 refine l_fit (v := undef) (fit_off rfl rfl rfl rfl) rfl rfl hs hB (fun a w hs hB => ?_)
 refine l_fit (v := undef) (fit_off rfl rfl rfl rfl) rfl rfl hs hB (fun a w hs hB => ?_)
 refine l_fit (v := undef) (fit_off rfl rfl rfl rfl) rfl rfl hs hB (fun a w hs hB => ?_)
 refine l_fit (v := .bool false) (fit_on rfl rfl rfl (ok_pick_f rfl rfl rfl)) rfl rfl hs hB (fun a w hs hB => ?_)
 refine l_fit (v := .bool false) (fit_free rfl (ok_pick_f rfl rfl rfl)) rfl rfl hs hB (fun a w hs hB => ?_)
 refine l_nil ?_
 replace hs := hs.sub (l := [(213, .bool false), (7, .bool true)]) (⟨rfl, rfl, trivial⟩)
 refine c_false hs rfl ?_
 refine wp_skip ?_
 refine then_n ?_
 replace hs := hs.sub (l := [(7, .bool true)]) (⟨rfl, trivial⟩)
 refine c_list ?_
 refine l_fit (v := .bool true) (fit_free rfl (ok_move rfl rfl)) rfl rfl hs hB (fun a w hs hB => ?_)
 refine l_fit (v := .bool true) (fit_free rfl (ok_assign rfl rfl)) rfl rfl hs hB (fun a w hs hB => ?_)
 refine l_nil ?_
 replace hs := hs.sub (l := [(6, .bool true)]) (⟨rfl, trivial⟩)
 refine wp_ret ?_
 exact c_ret rfl hs rfl ⟨rfl, hB.below⟩

theorem o24ep (K : Nat) (w0 : World) (g17 g16 g15 g14 g10 : Nat) (cN cD x S0 S1 T0 T1 P0 P1 P2 Q0 Q1 Q2 : Int) (h1 : F.fraction_Cmp.f S0 S1 T0 T1 = some (x)) (hc0 : cN > 0) (hp1 : P2 ≠ 0) :
  ∀ a w, Sl 215 [(7, .bool true), (10, pt g10 0), (11, .int .i64 x), (14, pt g14 0), (15, pt g15 0), (16, pt g16 0), (17, pt g17 0)] a → Bl w0 [(g17, .cells #[.int .i64 Q0, .int .i64 Q1, .int .i64 Q2] 31 (0, 0)), (g16, .cells #[.int .i64 P0, .int .i64 P1, .int .i64 P2] 31 (0, 0)), (g15, .cells #[.int .i64 T0, .int .i64 T1, .int .i64 0] 31 (0, 0)), (g14, .cells #[.int .i64 S0, .int .i64 S1, .int .i64 0] 31 (0, 0)), (g10, .cells #[.int .i64 cN, .int .i64 cD] 25 (0, 0))] w → (restOf Tryd.f6 24).wp Tryd.prog (bodyPost Tryd.prog Tryd.f6 fun e w' => e = .returned (.bool true) ∧ Below w0.heap.size w0 w') a w := by
 intro a w hs hB
 conv => arg 2; whnf
 refine wp_seq ?_
 refine c_list ?_
 refine l_fit (v := pt g14 2) (fit_free rfl (ok_fieldAddr31_1 rfl rfl)) rfl rfl hs hB (fun a w hs hB => ?_)
 refine l_fit (v := .int .i64 0) (fit_free rfl (ok_load29 (k := 3) rfl rfl rfl rfl)) rfl rfl hs hB (fun a w hs hB => ?_)
 refine l_fit (v := .bool true) (fit_free rfl (ok_eq29 rfl rfl rfl (by decide))) rfl rfl hs hB (fun a w hs hB => ?_)
 refine l_fit (v := .bool true) (fit_free rfl (ok_move rfl rfl)) rfl rfl hs hB (fun a w hs hB => ?_)
 refine l_fit (v := pt g15 2) (fit_on rfl rfl rfl (ok_fieldAddr31_1 rfl rfl)) rfl rfl hs hB (fun a w hs hB => ?_)
 refine l_fit (v := .int .i64 0) (fit_on rfl rfl rfl (ok_load29 (k := 2) rfl rfl rfl rfl)) rfl rfl hs hB (fun a w hs hB => ?_)
 refine l_fit (v := .bool true) (fit_on rfl rfl rfl (ok_eq29 rfl rfl rfl (by decide))) rfl rfl hs hB (fun a w hs hB => ?_)
 refine l_fit (v := .bool true) (fit_free rfl (ok_pick_t rfl rfl rfl)) rfl rfl hs hB (fun a w hs hB => ?_)
 refine l_fit (v := .bool true) (fit_free rfl (ok_move rfl rfl)) rfl rfl hs hB (fun a w hs hB => ?_)
 refine l_fit (v := pt g14 0) (fit_on rfl rfl rfl (ok_fieldAddr31_0 rfl rfl)) rfl rfl hs hB (fun a w hs hB => ?_)
 refine l_fit (v := .agg #[.int .i64 S0, .int .i64 S1]) (fit_on rfl rfl rfl (ok_load25 (k := 3) rfl rfl rfl rfl rfl)) rfl rfl hs hB (fun a w hs hB => ?_)
 refine l_fit (v := pt g15 0) (fit_on rfl rfl rfl (ok_fieldAddr31_0 rfl rfl)) rfl rfl hs hB (fun a w hs hB => ?_)
 refine l_fit (v := .agg #[.int .i64 T0, .int .i64 T1]) (fit_on rfl rfl rfl (ok_load25 (k := 2) rfl rfl rfl rfl rfl)) rfl rfl hs hB (fun a w hs hB => ?_)
 refine l_fit (v := .int .i64 x) (fit_on rfl rfl rfl (ok_call (args := #[.agg #[.int .i64 S0, .int .i64 S1], .agg #[.int .i64 T0, .int .i64 T1]]) rfl Tryd.func13 (by kernel_rfl) rfl rfl (viaB fun w => F.fraction_Cmp.calls _ _ _ _ _ w h1))) rfl rfl hs hB (fun a w hs hB => ?_)
 refine l_fit (v := .int .i64 x) (fit_on rfl rfl rfl (ok_move rfl rfl)) rfl rfl hs hB (fun a w hs hB => ?_)
 refine l_fit (v := .bool false) (fit_on rfl rfl rfl (ok_neq3 rfl rfl rfl (by simp))) rfl rfl hs hB (fun a w hs hB => ?_)
 refine l_fit (v := .bool false) (fit_free rfl (ok_pick_t rfl rfl rfl)) rfl rfl hs hB (fun a w hs hB => ?_)
 refine l_fit (v := .bool false) (fit_free rfl (ok_move rfl rfl)) rfl rfl hs hB (fun a w hs hB => ?_)
 refine l_fit (v := pt g10 0) (fit_on rfl rfl rfl (ok_fieldAddr25_0 rfl rfl)) rfl rfl hs hB (fun a w hs hB => ?_)
 refine l_fit (v := .int .i64 cN) (fit_on rfl rfl rfl (ok_load3 (k := 4) rfl rfl rfl rfl)) rfl rfl hs hB (fun a w hs hB => ?_)
 refine l_fit (v := .bool true) (fit_on rfl rfl rfl (ok_gtr3 rfl rfl rfl (by simp <;> omega))) rfl rfl hs hB (fun a w hs hB => ?_)
 refine l_fit (v := .bool true) (fit_on rfl rfl rfl (ok_move rfl rfl)) rfl rfl hs hB (fun a w hs hB => ?_)
 refine l_fit (v := pt g16 2) (fit_on rfl rfl rfl (ok_fieldAddr31_1 rfl rfl)) rfl rfl hs hB (fun a w hs hB => ?_)
 refine l_fit (v := .int .i64 P2) (fit_on rfl rfl rfl (ok_load29 (k := 1) rfl rfl rfl rfl)) rfl rfl hs hB (fun a w hs hB => ?_)
 refine l_fit (v := .bool false) (fit_on rfl rfl rfl (ok_eq29 rfl rfl rfl (decide_eq_false hp1))) rfl rfl hs hB (fun a w hs hB => ?_)
 refine l_fit (v := .bool false) (fit_on rfl rfl rfl (ok_pick_t rfl rfl rfl)) rfl rfl hs hB (fun a w hs hB => ?_)
 refine l_fit (v := .bool false) (fit_on rfl rfl rfl (ok_move rfl rfl)) rfl rfl hs hB (fun a w hs hB => ?_)
 refine l_fit (v := undef) (fit_off rfl rfl rfl rfl) rfl rfl hs hB (fun a w hs hB => ?_)
 refine l_fit (v := undef) (fit_off rfl rfl rfl rfl) rfl rfl hs hB (fun a w hs hB => ?_)
 refine l_fit (v := undef) (fit_off rfl rfl rfl rfl) rfl rfl hs hB (fun a w hs hB => ?_)
 refine l_fit (v := .bool false) (fit_on rfl rfl rfl (ok_pick_f rfl rfl rfl)) rfl rfl hs hB (fun a w hs hB => ?_)
 refine l_fit (v := .bool false) (fit_on rfl rfl rfl (ok_move rfl rfl)) rfl rfl hs hB (fun a w hs hB => ?_)
 refine l_fit (v := undef) (fit_off rfl rfl rfl rfl) rfl rfl hs hB (fun a w hs hB => ?_)
 refine l_fit (v := undef) (fit_off rfl rfl rfl rfl) rfl rfl hs hB (fun a w hs hB => ?_)
 refine l_fit (v := undef) (fit_off rfl rfl rfl rfl) rfl rfl hs hB (fun a w hs hB => ?_)
 refine l_fit (v := undef) (fit_off rfl rfl rfl rfl) rfl rfl hs hB (fun a w hs hB => ?_)
 refine l_fit (v := undef) (fit_off rfl rfl rfl rfl) rfl rfl hs hB (fun a w hs hB => ?_)
 refine l_fit (v := undef) (fit_off rfl rfl rfl rfl) rfl rfl hs hB (fun a w hs hB => ?_)
 refine l_fit (v := undef) (fit_off rfl rfl rfl rfl) rfl rfl hs hB (fun a w hs hB => ?_)
 refine l_fit (v := .bool false) (fit_on rfl rfl rfl (ok_pick_f rfl rfl rfl)) rfl rfl hs hB (fun a w hs hB => ?_)
 refine l_fit (v := .bool false) (fit_free rfl (ok_pick_f rfl rfl rfl)) rfl rfl hs hB (fun a w hs hB => ?_)
 refine l_nil ?_
 replace hs := hs.sub (l := [(213, .bool false), (7, .bool true)]) (⟨rfl, rfl, trivial⟩)
 refine c_false hs rfl ?_
 refine wp_skip ?_
 refine then_n ?_
 replace hs := hs.sub (l := [(7, .bool true)]) (⟨rfl, trivial⟩)
 refine c_list ?_
 refine l_fit (v := .bool true) (fit_free rfl (ok_move rfl rfl)) rfl rfl hs hB (fun a w hs hB => ?_)
 refine l_fit (v := .bool true) (fit_free rfl (ok_assign rfl rfl)) rfl rfl hs hB (fun a w hs hB => ?_)
 refine l_nil ?_
 replace hs := hs.sub (l := [(6, .bool true)]) (⟨rfl, trivial⟩)
 refine wp_ret ?_
 exact c_ret rfl hs rfl ⟨rfl, hB.below⟩

theorem o24eq (K : Nat) (w0 : World) (g17 g16 g15 g14 g10 : Nat) (cN cD x S0 S1 T0 T1 P0 P1 Q0 Q1 Q2 : Int) (h1 : F.fraction_Cmp.f S0 S1 T0 T1 = some (x)) (hc0 : cN > 0) (hq1 : Q2 ≠ 0) :
  ∀ a w, Sl 215 [(7, .bool true), (10, pt g10 0), (11, .int .i64 x), (14, pt g14 0), (15, pt g15 0), (16, pt g16 0), (17, pt g17 0)] a → Bl w0 [(g17, .cells #[.int .i64 Q0, .int .i64 Q1, .int .i64 Q2] 31 (0, 0)), (g16, .cells #[.int .i64 P0, .int .i64 P1, .int .i64 0] 31 (0, 0)), (g15, .cells #[.int .i64 T0, .int .i64 T1, .int .i64 0] 31 (0, 0)), (g14, .cells #[.int .i64 S0, .int .i64 S1, .int .i64 0] 31 (0, 0)), (g10, .cells #[.int .i64 cN, .int .i64 cD] 25 (0, 0))] w → (restOf Tryd.f6 24).wp Tryd.prog (bodyPost Tryd.prog Tryd.f6 fun e w' => e = .returned (.bool true) ∧ Below w0.heap.size w0 w') a w := by
 intro a w hs hB
 conv => arg 2; whnf
 refine wp_seq ?_
 refine c_list ?_
 refine l_fit (v := pt g14 2) (fit_free rfl (ok_fieldAddr31_1 rfl rfl)) rfl rfl hs hB (fun a w hs hB => ?_)
 refine l_fit (v := .int .i64 0) (fit_free rfl (ok_load29 (k := 3) rfl rfl rfl rfl)) rfl rfl hs hB (fun a w hs hB => ?_)
 refine l_fit (v := .bool true) (fit_free rfl (ok_eq29 rfl rfl rfl (by decide))) rfl rfl hs hB (fun a w hs hB => ?_)
 refine l_fit (v := .bool true) (fit_free rfl (ok_move rfl rfl)) rfl rfl hs hB (fun a w hs hB => ?_)
 refine l_fit (v := pt g15 2) (fit_on rfl rfl rfl (ok_fieldAddr31_1 rfl rfl)) rfl rfl hs hB (fun a w hs hB => ?_)
 refine l_fit (v := .int .i64 0) (fit_on rfl rfl rfl (ok_load29 (k := 2) rfl rfl rfl rfl)) rfl rfl hs hB (fun a w hs hB => ?_)
 refine l_fit (v := .bool true) (fit_on rfl rfl rfl (ok_eq29 rfl rfl rfl (by decide))) rfl rfl hs hB (fun a w hs hB => ?_)
 refine l_fit (v := .bool true) (fit_free rfl (ok_pick_t rfl rfl rfl)) rfl rfl hs hB (fun a w hs hB => ?_)
 refine l_fit (v := .bool true) (fit_free rfl (ok_move rfl rfl)) rfl rfl hs hB (fun a w hs hB => ?_)
 refine l_fit (v := pt g14 0) (fit_on rfl rfl rfl (ok_fieldAddr31_0 rfl rfl)) rfl rfl hs hB (fun a w hs hB => ?_)
 refine l_fit (v := .agg #[.int .i64 S0, .int .i64 S1]) (fit_on rfl rfl rfl (ok_load25 (k := 3) rfl rfl rfl rfl rfl)) rfl rfl hs hB (fun a w hs hB => ?_)
 refine l_fit (v := pt g15 0) (fit_on rfl rfl rfl (ok_fieldAddr31_0 rfl rfl)) rfl rfl hs hB (fun a w hs hB => ?_)
 refine l_fit (v := .agg #[.int .i64 T0, .int .i64 T1]) (fit_on rfl rfl rfl (ok_load25 (k := 2) rfl rfl rfl rfl rfl)) rfl rfl hs hB (fun a w hs hB => ?_)
 refine l_fit (v := .int .i64 x) (fit_on rfl rfl rfl (ok_call (args := #[.agg #[.int .i64 S0, .int .i64 S1], .agg #[.int .i64 T0, .int .i64 T1]]) rfl Tryd.func13 (by kernel_rfl) rfl rfl (viaB fun w => F.fraction_Cmp.calls _ _ _ _ _ w h1))) rfl rfl hs hB (fun a w hs hB => ?_)
 refine l_fit (v := .int .i64 x) (fit_on rfl rfl rfl (ok_move rfl rfl)) rfl rfl hs hB (fun a w hs hB => ?_)
 refine l_fit (v := .bool false) (fit_on rfl rfl rfl (ok_neq3 rfl rfl rfl (by simp))) rfl rfl hs hB (fun a w hs hB => ?_)
 refine l_fit (v := .bool false) (fit_free rfl (ok_pick_t rfl rfl rfl)) rfl rfl hs hB (fun a w hs hB => ?_)
 refine l_fit (v := .bool false) (fit_free rfl (ok_move rfl rfl)) rfl rfl hs hB (fun a w hs hB => ?_)
 refine l_fit (v := pt g10 0) (fit_on rfl rfl rfl (ok_fieldAddr25_0 rfl rfl)) rfl rfl hs hB (fun a w hs hB => ?_)
 refine l_fit (v := .int .i64 cN) (fit_on rfl rfl rfl (ok_load3 (k := 4) rfl rfl rfl rfl)) rfl rfl hs hB (fun a w hs hB => ?_)
 refine l_fit (v := .bool true) (fit_on rfl rfl rfl (ok_gtr3 rfl rfl rfl (by simp <;> omega))) rfl rfl hs hB (fun a w hs hB => ?_)
 refine l_fit (v := .bool true) (fit_on rfl rfl rfl (ok_move rfl rfl)) rfl rfl hs hB (fun a w hs hB => ?_)
 refine l_fit (v := pt g16 2) (fit_on rfl rfl rfl (ok_fieldAddr31_1 rfl rfl)) rfl rfl hs hB (fun a w hs hB => ?_)
 refine l_fit (v := .int .i64 0) (fit_on rfl rfl rfl (ok_load29 (k := 1) rfl rfl rfl rfl)) rfl rfl hs hB (fun a w hs hB => ?_)
 refine l_fit (v := .bool true) (fit_on rfl rfl rfl (ok_eq29 rfl rfl rfl (by decide))) rfl rfl hs hB (fun a w hs hB => ?_)
 refine l_fit (v := .bool true) (fit_on rfl rfl rfl (ok_pick_t rfl rfl rfl)) rfl rfl hs hB (fun a w hs hB => ?_)
 refine l_fit (v := .bool true) (fit_on rfl rfl rfl (ok_move rfl rfl)) rfl rfl hs hB (fun a w hs hB => ?_)
 refine l_fit (v := pt g17 2) (fit_on rfl rfl rfl (ok_fieldAddr31_1 rfl rfl)) rfl rfl hs hB (fun a w hs hB => ?_)
 refine l_fit (v := .int .i64 Q2) (fit_on rfl rfl rfl (ok_load29 (k := 0) rfl rfl rfl rfl)) rfl rfl hs hB (fun a w hs hB => ?_)
 refine l_fit (v := .bool false) (fit_on rfl rfl rfl (ok_eq29 rfl rfl rfl (decide_eq_false hq1))) rfl rfl hs hB (fun a w hs hB => ?_)
 refine l_fit (v := .bool false) (fit_on rfl rfl rfl (ok_pick_t rfl rfl rfl)) rfl rfl hs hB (fun a w hs hB => ?_)
 refine l_fit (v := .bool false) (fit_on rfl rfl rfl (ok_move rfl rfl)) rfl rfl hs hB (fun a w hs hB => ?_)
 refine l_fit (v := undef) (fit_off rfl rfl rfl rfl) rfl rfl hs hB (fun a w hs hB => ?_)
 refine l_fit (v := undef) (fit_off rfl rfl rfl rfl) rfl rfl hs hB (fun a w hs hB => ?_)
 refine l_fit (v := undef) (fit_off rfl rfl rfl rfl) rfl rfl hs hB (fun a w hs hB => ?_)
 refine l_fit (v := undef) (fit_off rfl rfl rfl rfl) rfl rfl hs hB (fun a w hs hB => ?_)
 refine l_fit (v := undef) (fit_off rfl rfl rfl rfl) rfl rfl hs hB (fun a w hs hB => ?_)
 refine l_fit (v := undef) (fit_off rfl rfl rfl rfl) rfl rfl hs hB (fun a w hs hB => ?_)
 refine l_fit (v := undef) (fit_off rfl rfl rfl rfl) rfl rfl hs hB (fun a w hs hB => ?_)
 refine l_fit (v := .bool false) (fit_on rfl rfl rfl (ok_pick_f rfl rfl rfl)) rfl rfl hs hB (fun a w hs hB => ?_)
 refine l_fit (v := .bool false) (fit_free rfl (ok_pick_f rfl rfl rfl)) rfl rfl hs hB (fun a w hs hB => ?_)
 refine l_nil ?_
 replace hs := hs.sub (l := [(213, .bool false), (7, .bool true)]) (⟨rfl, rfl, trivial⟩)
 refine c_false hs rfl ?_
 refine wp_skip ?_
 refine then_n ?_
 replace hs := hs.sub (l := [(7, .bool true)]) (⟨rfl, trivial⟩)
 refine c_list ?_
 refine l_fit (v := .bool true) (fit_free rfl (ok_move rfl rfl)) rfl rfl hs hB (fun a w hs hB => ?_)
 refine l_fit (v := .bool true) (fit_free rfl (ok_assign rfl rfl)) rfl rfl hs hB (fun a w hs hB => ?_)
 refine l_nil ?_
 replace hs := hs.sub (l := [(6, .bool true)]) (⟨rfl, trivial⟩)
 refine wp_ret ?_
 exact c_ret rfl hs rfl ⟨rfl, hB.below⟩

theorem o24ee (K : Nat) (w0 : World) (g17 g16 g15 g14 g10 : Nat) (cN cD x S0 S1 T0 T1 P0 P1 Q0 Q1 : Int) (h1 : F.fraction_Cmp.f S0 S1 T0 T1 = some (x)) (hc0 : cN > 0) (h2 : F.fraction_Cmp.f P0 P1 Q0 Q1 = some (x)) :
  ∀ a w, Sl 215 [(7, .bool true), (10, pt g10 0), (11, .int .i64 x), (14, pt g14 0), (15, pt g15 0), (16, pt g16 0), (17, pt g17 0)] a → Bl w0 [(g17, .cells #[.int .i64 Q0, .int .i64 Q1, .int .i64 0] 31 (0, 0)), (g16, .cells #[.int .i64 P0, .int .i64 P1, .int .i64 0] 31 (0, 0)), (g15, .cells #[.int .i64 T0, .int .i64 T1, .int .i64 0] 31 (0, 0)), (g14, .cells #[.int .i64 S0, .int .i64 S1, .int .i64 0] 31 (0, 0)), (g10, .cells #[.int .i64 cN, .int .i64 cD] 25 (0, 0))] w → (restOf Tryd.f6 24).wp Tryd.prog (bodyPost Tryd.prog Tryd.f6 fun e w' => e = .returned (.bool true) ∧ Below w0.heap.size w0 w') a w := by
 intro a w hs hB
 conv => arg 2; whnf
 refine wp_seq ?_
 refine c_list ?_
 refine l_fit (v := pt g14 2) (fit_free rfl (ok_fieldAddr31_1 rfl rfl)) rfl rfl hs hB (fun a w hs hB => ?_)
 refine l_fit (v := .int .i64 0) (fit_free rfl (ok_load29 (k := 3) rfl rfl rfl rfl)) rfl rfl hs hB (fun a w hs hB => ?_)
 refine l_fit (v := .bool true) (fit_free rfl (ok_eq29 rfl rfl rfl (by decide))) rfl rfl hs hB (fun a w hs hB => ?_)
 refine l_fit (v := .bool true) (fit_free rfl (ok_move rfl rfl)) rfl rfl hs hB (fun a w hs hB => ?_)
 refine l_fit (v := pt g15 2) (fit_on rfl rfl rfl (ok_fieldAddr31_1 rfl rfl)) rfl rfl hs hB (fun a w hs hB => ?_)
 refine l_fit (v := .int .i64 0) (fit_on rfl rfl rfl (ok_load29 (k := 2) rfl rfl rfl rfl)) rfl rfl hs hB (fun a w hs hB => ?_)
 refine l_fit (v := .bool true) (fit_on rfl rfl rfl (ok_eq29 rfl rfl rfl (by decide))) rfl rfl hs hB (fun a w hs hB => ?_)
 refine l_fit (v := .bool true) (fit_free rfl (ok_pick_t rfl rfl rfl)) rfl rfl hs hB (fun a w hs hB => ?_)
 refine l_fit (v := .bool true) (fit_free rfl (ok_move rfl rfl)) rfl rfl hs hB (fun a w hs hB => ?_)
 refine l_fit (v := pt g14 0) (fit_on rfl rfl rfl (ok_fieldAddr31_0 rfl rfl)) rfl rfl hs hB (fun a w hs hB => ?_)
 refine l_fit (v := .agg #[.int .i64 S0, .int .i64 S1]) (fit_on rfl rfl rfl (ok_load25 (k := 3) rfl rfl rfl rfl rfl)) rfl rfl hs hB (fun a w hs hB => ?_)
 refine l_fit (v := pt g15 0) (fit_on rfl rfl rfl (ok_fieldAddr31_0 rfl rfl)) rfl rfl hs hB (fun a w hs hB => ?_)
 refine l_fit (v := .agg #[.int .i64 T0, .int .i64 T1]) (fit_on rfl rfl rfl (ok_load25 (k := 2) rfl rfl rfl rfl rfl)) rfl rfl hs hB (fun a w hs hB => ?_)
 refine l_fit (v := .int .i64 x) (fit_on rfl rfl rfl (ok_call (args := #[.agg #[.int .i64 S0, .int .i64 S1], .agg #[.int .i64 T0, .int .i64 T1]]) rfl Tryd.func13 (by kernel_rfl) rfl rfl (viaB fun w => F.fraction_Cmp.calls _ _ _ _ _ w h1))) rfl rfl hs hB (fun a w hs hB => ?_)
 refine l_fit (v := .int .i64 x) (fit_on rfl rfl rfl (ok_move rfl rfl)) rfl rfl hs hB (fun a w hs hB => ?_)
 refine l_fit (v := .bool false) (fit_on rfl rfl rfl (ok_neq3 rfl rfl rfl (by simp))) rfl rfl hs hB (fun a w hs hB => ?_)
 refine l_fit (v := .bool false) (fit_free rfl (ok_pick_t rfl rfl rfl)) rfl rfl hs hB (fun a w hs hB => ?_)
 refine l_fit (v := .bool false) (fit_free rfl (ok_move rfl rfl)) rfl rfl hs hB (fun a w hs hB => ?_)
 refine l_fit (v := pt g10 0) (fit_on rfl rfl rfl (ok_fieldAddr25_0 rfl rfl)) rfl rfl hs hB (fun a w hs hB => ?_)
 refine l_fit (v := .int .i64 cN) (fit_on rfl rfl rfl (ok_load3 (k := 4) rfl rfl rfl rfl)) rfl rfl hs hB (fun a w hs hB => ?_)
 refine l_fit (v := .bool true) (fit_on rfl rfl rfl (ok_gtr3 rfl rfl rfl (by simp <;> omega))) rfl rfl hs hB (fun a w hs hB => ?_)
 refine l_fit (v := .bool true) (fit_on rfl rfl rfl (ok_move rfl rfl)) rfl rfl hs hB (fun a w hs hB => ?_)
 refine l_fit (v := pt g16 2) (fit_on rfl rfl rfl (ok_fieldAddr31_1 rfl rfl)) rfl rfl hs hB (fun a w hs hB => ?_)
 refine l_fit (v := .int .i64 0) (fit_on rfl rfl rfl (ok_load29 (k := 1) rfl rfl rfl rfl)) rfl rfl hs hB (fun a w hs hB => ?_)
 refine l_fit (v := .bool true) (fit_on rfl rfl rfl (ok_eq29 rfl rfl rfl (by decide))) rfl rfl hs hB (fun a w hs hB => ?_)
 refine l_fit (v := .bool true) (fit_on rfl rfl rfl (ok_pick_t rfl rfl rfl)) rfl rfl hs hB (fun a w hs hB => ?_)
 refine l_fit (v := .bool true) (fit_on rfl rfl rfl (ok_move rfl rfl)) rfl rfl hs hB (fun a w hs hB => ?_)
 refine l_fit (v := pt g17 2) (fit_on rfl rfl rfl (ok_fieldAddr31_1 rfl rfl)) rfl rfl hs hB (fun a w hs hB => ?_)
 refine l_fit (v := .int .i64 0) (fit_on rfl rfl rfl (ok_load29 (k := 0) rfl rfl rfl rfl)) rfl rfl hs hB (fun a w hs hB => ?_)
 refine l_fit (v := .bool true) (fit_on rfl rfl rfl (ok_eq29 rfl rfl rfl (by decide))) rfl rfl hs hB (fun a w hs hB => ?_)
 refine l_fit (v := .bool true) (fit_on rfl rfl rfl (ok_pick_t rfl rfl rfl)) rfl rfl hs hB (fun a w hs hB => ?_)
 refine l_fit (v := .bool true) (fit_on rfl rfl rfl (ok_move rfl rfl)) rfl rfl hs hB (fun a w hs hB => ?_)
 refine l_fit (v := pt g16 0) (fit_on rfl rfl rfl (ok_fieldAddr31_0 rfl rfl)) rfl rfl hs hB (fun a w hs hB => ?_)
 refine l_fit (v := .agg #[.int .i64 P0, .int .i64 P1]) (fit_on rfl rfl rfl (ok_load25 (k := 1) rfl rfl rfl rfl rfl)) rfl rfl hs hB (fun a w hs hB => ?_)
 refine l_fit (v := pt g17 0) (fit_on rfl rfl rfl (ok_fieldAddr31_0 rfl rfl)) rfl rfl hs hB (fun a w hs hB => ?_)
 refine l_fit (v := .agg #[.int .i64 Q0, .int .i64 Q1]) (fit_on rfl rfl rfl (ok_load25 (k := 0) rfl rfl rfl rfl rfl)) rfl rfl hs hB (fun a w hs hB => ?_)
 refine l_fit (v := .int .i64 x) (fit_on rfl rfl rfl (ok_call (args := #[.agg #[.int .i64 P0, .int .i64 P1], .agg #[.int .i64 Q0, .int .i64 Q1]]) rfl Tryd.func13 (by kernel_rfl) rfl rfl (viaB fun w => F.fraction_Cmp.calls _ _ _ _ _ w h2))) rfl rfl hs hB (fun a w hs hB => ?_)
 refine l_fit (v := .int .i64 x) (fit_on rfl rfl rfl (ok_move rfl rfl)) rfl rfl hs hB (fun a w hs hB => ?_)
 refine l_fit (v := .bool false) (fit_on rfl rfl rfl (ok_neq3 rfl rfl rfl (by simp))) rfl rfl hs hB (fun a w hs hB => ?_)
 refine l_fit (v := .bool false) (fit_on rfl rfl rfl (ok_pick_t rfl rfl rfl)) rfl rfl hs hB (fun a w hs hB => ?_)
 refine l_fit (v := .bool false) (fit_free rfl (ok_pick_f rfl rfl rfl)) rfl rfl hs hB (fun a w hs hB => ?_)
 refine l_nil ?_
 replace hs := hs.sub (l := [(213, .bool false), (7, .bool true)]) (⟨rfl, rfl, trivial⟩)
 refine c_false hs rfl ?_
 refine wp_skip ?_
 refine then_n ?_
 replace hs := hs.sub (l := [(7, .bool true)]) (⟨rfl, trivial⟩)
 refine c_list ?_
 refine l_fit (v := .bool true) (fit_free rfl (ok_move rfl rfl)) rfl rfl hs hB (fun a w hs hB => ?_)
 refine l_fit (v := .bool true) (fit_free rfl (ok_assign rfl rfl)) rfl rfl hs hB (fun a w hs hB => ?_)
 refine l_nil ?_
 replace hs := hs.sub (l := [(6, .bool true)]) (⟨rfl, trivial⟩)
 refine wp_ret ?_
 exact c_ret rfl hs rfl ⟨rfl, hB.below⟩
end Go.Proofs.YtndfjpnpdnnpkaaDoor.Cx
