/- FractionField: what the code does, part by part: of the calls' results it is told what the plain law says of them, and it answers true. (printed by wip/field_gen.py) -/
import Derived.Test.YtndfjpnpdnnpkaaDoorCy
import Derived.Test.YtndfjpnpdnnpkaaDoorFs
import Derived.Test.YtndfjpnpdnnpkaaDoorFx8
namespace Go.Proofs.YtndfjpnpdnnpkaaDoor.Cx
open Go Go.Proofs Go.RowKit Go.Proofs.YtndfjpnpdnnpkaaDoorW.PrintWords
set_option maxRecDepth 100000
theorem f23u0 (K : Nat) (w0 : World) (g18 g17 g16 : Nat) (Q0 Q1 U0 U1 L0 L1 Q2 U2 : Int) (hU : U2 ≠ 0) :
  ∀ a w, Sl 222 [(7, .bool true), (16, pt g16 0), (17, pt g17 0), (18, pt g18 0)] a → Bl w0 [(g18, .cells #[.int .i64 L0, .int .i64 L1, .int .i64 0] 31 (0, 0)), (g17, .cells #[.int .i64 U0, .int .i64 U1, .int .i64 U2] 31 (0, 0)), (g16, .cells #[.int .i64 Q0, .int .i64 Q1, .int .i64 Q2] 31 (0, 0))] w → (restOf Tryd.f5 23).wp Tryd.prog (bodyPost Tryd.prog Tryd.f5 fun e w' => e = .returned (.bool true) ∧ Below w0.heap.size w0 w') a w := by
 intro a w hs hB
 conv => arg 2; whnf
 refine c_list ?_
 refine l_fit (v := .agg #[.int .i64 0, .int .i64 0, .int .i64 2]) (fit_free rfl (ok_build31_1 rfl rfl)) rfl rfl hs hB (fun a w hs hB => ?_)
 refine l_alloc31 rfl rfl rfl rfl hs hB (fun g19 a w hs hB => ?_)
 refine l_store31 (k := 0) (cs' := #[.int .i64 0, .int .i64 0, .int .i64 2]) rfl rfl rfl rfl rfl rfl rfl rfl hs hB (fun w hB => ?_)
 replace hB : Bl w0 [(g19, .cells #[.int .i64 0, .int .i64 0, .int .i64 2] 31 (0, 0)), (g18, .cells #[.int .i64 L0, .int .i64 L1, .int .i64 0] 31 (0, 0)), (g17, .cells #[.int .i64 U0, .int .i64 U1, .int .i64 U2] 31 (0, 0)), (g16, .cells #[.int .i64 Q0, .int .i64 Q1, .int .i64 Q2] 31 (0, 0))] w := hB
 refine l_nil ?_
 replace hs := hs.sub (l := [(19, pt g19 0), (7, .bool true), (16, pt g16 0), (17, pt g17 0), (18, pt g18 0)]) (⟨rfl, rfl, rfl, rfl, rfl, trivial⟩)
 refine wp_seq ?_
 refine c_list ?_
 refine l_fit (v := pt g17 2) (fit_free rfl (ok_fieldAddr31_1 rfl rfl)) rfl rfl hs hB (fun a w hs hB => ?_)
 refine l_fit (v := .int .i64 U2) (fit_free rfl (ok_load29 (k := 2) rfl rfl rfl rfl)) rfl rfl hs hB (fun a w hs hB => ?_)
 refine l_fit (v := .bool false) (fit_free rfl (ok_eq29 rfl rfl rfl (decide_eq_false hU))) rfl rfl hs hB (fun a w hs hB => ?_)
 refine l_fit (v := .bool false) (fit_free rfl (ok_move rfl rfl)) rfl rfl hs hB (fun a w hs hB => ?_)
 refine l_fit (v := undef) (fit_off rfl rfl rfl rfl) rfl rfl hs hB (fun a w hs hB => ?_)
 refine l_fit (v := undef) (fit_off rfl rfl rfl rfl) rfl rfl hs hB (fun a w hs hB => ?_)
 refine l_fit (v := undef) (fit_off rfl rfl rfl rfl) rfl rfl hs hB (fun a w hs hB => ?_)
 refine l_fit (v := .bool false) (fit_free rfl (ok_pick_f rfl rfl rfl)) rfl rfl hs hB (fun a w hs hB => ?_)
 refine l_nil ?_
 replace hs := hs.sub (l := [(200, .bool false), (19, pt g19 0), (7, .bool true), (16, pt g16 0), (17, pt g17 0), (18, pt g18 0)]) (⟨rfl, rfl, rfl, rfl, rfl, rfl, trivial⟩)
 refine c_false hs rfl ?_
 refine wp_skip ?_
 refine then_n ?_
 replace hs := hs.sub (l := [(19, pt g19 0), (7, .bool true), (18, pt g18 0)]) (⟨rfl, rfl, rfl, trivial⟩)
 refine c_list ?_
 refine l_fit (v := .bool true) (fit_free rfl (ok_move rfl rfl)) rfl rfl hs hB (fun a w hs hB => ?_)
 refine l_fit (v := .bool true) (fit_free rfl (ok_move rfl rfl)) rfl rfl hs hB (fun a w hs hB => ?_)
 refine l_fit (v := pt g18 2) (fit_on rfl rfl rfl (ok_fieldAddr31_1 rfl rfl)) rfl rfl hs hB (fun a w hs hB => ?_)
 refine l_fit (v := .int .i64 0) (fit_on rfl rfl rfl (ok_load29 (k := 1) rfl rfl rfl rfl)) rfl rfl hs hB (fun a w hs hB => ?_)
 refine l_fit (v := .bool false) (fit_on rfl rfl rfl (ok_neq29 rfl rfl rfl (by decide))) rfl rfl hs hB (fun a w hs hB => ?_)
 refine l_fit (v := .bool false) (fit_on rfl rfl rfl (ok_move rfl rfl)) rfl rfl hs hB (fun a w hs hB => ?_)
 refine l_fit (v := pt g19 2) (fit_on rfl rfl rfl (ok_fieldAddr31_1 rfl rfl)) rfl rfl hs hB (fun a w hs hB => ?_)
 refine l_fit (v := .int .i64 2) (fit_on rfl rfl rfl (ok_load29 (k := 0) rfl rfl rfl rfl)) rfl rfl hs hB (fun a w hs hB => ?_)
 refine l_fit (v := .bool true) (fit_on rfl rfl rfl (ok_neq29 rfl rfl rfl (by decide))) rfl rfl hs hB (fun a w hs hB => ?_)
 refine l_fit (v := .bool true) (fit_on rfl rfl rfl (ok_pick_f rfl rfl rfl)) rfl rfl hs hB (fun a w hs hB => ?_)
 refine l_fit (v := .bool true) (fit_on rfl rfl rfl (ok_move rfl rfl)) rfl rfl hs hB (fun a w hs hB => ?_)
 refine l_fit (v := undef) (fit_off rfl rfl rfl rfl) rfl rfl hs hB (fun a w hs hB => ?_)
 refine l_fit (v := undef) (fit_off rfl rfl rfl rfl) rfl rfl hs hB (fun a w hs hB => ?_)
 refine l_fit (v := undef) (fit_off rfl rfl rfl rfl) rfl rfl hs hB (fun a w hs hB => ?_)
 refine l_fit (v := .bool true) (fit_on rfl rfl rfl (ok_pick_t rfl rfl rfl)) rfl rfl hs hB (fun a w hs hB => ?_)
 refine l_fit (v := .bool true) (fit_free rfl (ok_pick_t rfl rfl rfl)) rfl rfl hs hB (fun a w hs hB => ?_)
 refine l_fit (v := .bool true) (fit_free rfl (ok_assign rfl rfl)) rfl rfl hs hB (fun a w hs hB => ?_)
 refine l_nil ?_
 replace hs := hs.sub (l := [(6, .bool true)]) (⟨rfl, trivial⟩)
 refine wp_ret ?_
 exact c_ret rfl hs rfl ⟨rfl, hB.below⟩

theorem f23u1 (K : Nat) (w0 : World) (g18 g17 g16 : Nat) (Q0 Q1 U0 U1 L0 L1 Q2 U2 L2 : Int) (hU : U2 ≠ 0) (hL : L2 ≠ 0) :
  ∀ a w, Sl 222 [(7, .bool true), (16, pt g16 0), (17, pt g17 0), (18, pt g18 0)] a → Bl w0 [(g18, .cells #[.int .i64 L0, .int .i64 L1, .int .i64 L2] 31 (0, 0)), (g17, .cells #[.int .i64 U0, .int .i64 U1, .int .i64 U2] 31 (0, 0)), (g16, .cells #[.int .i64 Q0, .int .i64 Q1, .int .i64 Q2] 31 (0, 0))] w → (restOf Tryd.f5 23).wp Tryd.prog (bodyPost Tryd.prog Tryd.f5 fun e w' => e = .returned (.bool true) ∧ Below w0.heap.size w0 w') a w := by
 intro a w hs hB
 conv => arg 2; whnf
 refine c_list ?_
 refine l_fit (v := .agg #[.int .i64 0, .int .i64 0, .int .i64 2]) (fit_free rfl (ok_build31_1 rfl rfl)) rfl rfl hs hB (fun a w hs hB => ?_)
 refine l_alloc31 rfl rfl rfl rfl hs hB (fun g19 a w hs hB => ?_)
 refine l_store31 (k := 0) (cs' := #[.int .i64 0, .int .i64 0, .int .i64 2]) rfl rfl rfl rfl rfl rfl rfl rfl hs hB (fun w hB => ?_)
 replace hB : Bl w0 [(g19, .cells #[.int .i64 0, .int .i64 0, .int .i64 2] 31 (0, 0)), (g18, .cells #[.int .i64 L0, .int .i64 L1, .int .i64 L2] 31 (0, 0)), (g17, .cells #[.int .i64 U0, .int .i64 U1, .int .i64 U2] 31 (0, 0)), (g16, .cells #[.int .i64 Q0, .int .i64 Q1, .int .i64 Q2] 31 (0, 0))] w := hB
 refine l_nil ?_
 replace hs := hs.sub (l := [(19, pt g19 0), (7, .bool true), (16, pt g16 0), (17, pt g17 0), (18, pt g18 0)]) (⟨rfl, rfl, rfl, rfl, rfl, trivial⟩)
 refine wp_seq ?_
 refine c_list ?_
 refine l_fit (v := pt g17 2) (fit_free rfl (ok_fieldAddr31_1 rfl rfl)) rfl rfl hs hB (fun a w hs hB => ?_)
 refine l_fit (v := .int .i64 U2) (fit_free rfl (ok_load29 (k := 2) rfl rfl rfl rfl)) rfl rfl hs hB (fun a w hs hB => ?_)
 refine l_fit (v := .bool false) (fit_free rfl (ok_eq29 rfl rfl rfl (decide_eq_false hU))) rfl rfl hs hB (fun a w hs hB => ?_)
 refine l_fit (v := .bool false) (fit_free rfl (ok_move rfl rfl)) rfl rfl hs hB (fun a w hs hB => ?_)
 refine l_fit (v := undef) (fit_off rfl rfl rfl rfl) rfl rfl hs hB (fun a w hs hB => ?_)
 refine l_fit (v := undef) (fit_off rfl rfl rfl rfl) rfl rfl hs hB (fun a w hs hB => ?_)
 refine l_fit (v := undef) (fit_off rfl rfl rfl rfl) rfl rfl hs hB (fun a w hs hB => ?_)
 refine l_fit (v := .bool false) (fit_free rfl (ok_pick_f rfl rfl rfl)) rfl rfl hs hB (fun a w hs hB => ?_)
 refine l_nil ?_
 replace hs := hs.sub (l := [(200, .bool false), (19, pt g19 0), (7, .bool true), (16, pt g16 0), (17, pt g17 0), (18, pt g18 0)]) (⟨rfl, rfl, rfl, rfl, rfl, rfl, trivial⟩)
 refine c_false hs rfl ?_
 refine wp_skip ?_
 refine then_n ?_
 replace hs := hs.sub (l := [(19, pt g19 0), (7, .bool true), (18, pt g18 0)]) (⟨rfl, rfl, rfl, trivial⟩)
 refine c_list ?_
 refine l_fit (v := .bool true) (fit_free rfl (ok_move rfl rfl)) rfl rfl hs hB (fun a w hs hB => ?_)
 refine l_fit (v := .bool true) (fit_free rfl (ok_move rfl rfl)) rfl rfl hs hB (fun a w hs hB => ?_)
 refine l_fit (v := pt g18 2) (fit_on rfl rfl rfl (ok_fieldAddr31_1 rfl rfl)) rfl rfl hs hB (fun a w hs hB => ?_)
 refine l_fit (v := .int .i64 L2) (fit_on rfl rfl rfl (ok_load29 (k := 1) rfl rfl rfl rfl)) rfl rfl hs hB (fun a w hs hB => ?_)
 refine l_fit (v := .bool true) (fit_on rfl rfl rfl (ok_neq29 rfl rfl rfl (decide_eq_true hL))) rfl rfl hs hB (fun a w hs hB => ?_)
 refine l_fit (v := .bool true) (fit_on rfl rfl rfl (ok_move rfl rfl)) rfl rfl hs hB (fun a w hs hB => ?_)
 refine l_fit (v := undef) (fit_off rfl rfl rfl rfl) rfl rfl hs hB (fun a w hs hB => ?_)
 refine l_fit (v := undef) (fit_off rfl rfl rfl rfl) rfl rfl hs hB (fun a w hs hB => ?_)
 refine l_fit (v := undef) (fit_off rfl rfl rfl rfl) rfl rfl hs hB (fun a w hs hB => ?_)
 refine l_fit (v := .bool true) (fit_on rfl rfl rfl (ok_pick_t rfl rfl rfl)) rfl rfl hs hB (fun a w hs hB => ?_)
 refine l_fit (v := .bool true) (fit_on rfl rfl rfl (ok_move rfl rfl)) rfl rfl hs hB (fun a w hs hB => ?_)
 refine l_fit (v := undef) (fit_off rfl rfl rfl rfl) rfl rfl hs hB (fun a w hs hB => ?_)
 refine l_fit (v := undef) (fit_off rfl rfl rfl rfl) rfl rfl hs hB (fun a w hs hB => ?_)
 refine l_fit (v := undef) (fit_off rfl rfl rfl rfl) rfl rfl hs hB (fun a w hs hB => ?_)
 refine l_fit (v := .bool true) (fit_on rfl rfl rfl (ok_pick_t rfl rfl rfl)) rfl rfl hs hB (fun a w hs hB => ?_)
 refine l_fit (v := .bool true) (fit_free rfl (ok_pick_t rfl rfl rfl)) rfl rfl hs hB (fun a w hs hB => ?_)
 refine l_fit (v := .bool true) (fit_free rfl (ok_assign rfl rfl)) rfl rfl hs hB (fun a w hs hB => ?_)
 refine l_nil ?_
 replace hs := hs.sub (l := [(6, .bool true)]) (⟨rfl, trivial⟩)
 refine wp_ret ?_
 exact c_ret rfl hs rfl ⟨rfl, hB.below⟩

theorem f23q0 (K : Nat) (w0 : World) (g18 g17 g16 : Nat) (Q0 Q1 U0 U1 L0 L1 Q2 : Int) (hQ : Q2 ≠ 0) :
  ∀ a w, Sl 222 [(7, .bool true), (16, pt g16 0), (17, pt g17 0), (18, pt g18 0)] a → Bl w0 [(g18, .cells #[.int .i64 L0, .int .i64 L1, .int .i64 0] 31 (0, 0)), (g17, .cells #[.int .i64 U0, .int .i64 U1, .int .i64 0] 31 (0, 0)), (g16, .cells #[.int .i64 Q0, .int .i64 Q1, .int .i64 Q2] 31 (0, 0))] w → (restOf Tryd.f5 23).wp Tryd.prog (bodyPost Tryd.prog Tryd.f5 fun e w' => e = .returned (.bool true) ∧ Below w0.heap.size w0 w') a w := by
 intro a w hs hB
 conv => arg 2; whnf
 refine c_list ?_
 refine l_fit (v := .agg #[.int .i64 0, .int .i64 0, .int .i64 2]) (fit_free rfl (ok_build31_1 rfl rfl)) rfl rfl hs hB (fun a w hs hB => ?_)
 refine l_alloc31 rfl rfl rfl rfl hs hB (fun g19 a w hs hB => ?_)
 refine l_store31 (k := 0) (cs' := #[.int .i64 0, .int .i64 0, .int .i64 2]) rfl rfl rfl rfl rfl rfl rfl rfl hs hB (fun w hB => ?_)
 replace hB : Bl w0 [(g19, .cells #[.int .i64 0, .int .i64 0, .int .i64 2] 31 (0, 0)), (g18, .cells #[.int .i64 L0, .int .i64 L1, .int .i64 0] 31 (0, 0)), (g17, .cells #[.int .i64 U0, .int .i64 U1, .int .i64 0] 31 (0, 0)), (g16, .cells #[.int .i64 Q0, .int .i64 Q1, .int .i64 Q2] 31 (0, 0))] w := hB
 refine l_nil ?_
 replace hs := hs.sub (l := [(19, pt g19 0), (7, .bool true), (16, pt g16 0), (17, pt g17 0), (18, pt g18 0)]) (⟨rfl, rfl, rfl, rfl, rfl, trivial⟩)
 refine wp_seq ?_
 refine c_list ?_
 refine l_fit (v := pt g17 2) (fit_free rfl (ok_fieldAddr31_1 rfl rfl)) rfl rfl hs hB (fun a w hs hB => ?_)
 refine l_fit (v := .int .i64 0) (fit_free rfl (ok_load29 (k := 2) rfl rfl rfl rfl)) rfl rfl hs hB (fun a w hs hB => ?_)
 refine l_fit (v := .bool true) (fit_free rfl (ok_eq29 rfl rfl rfl (by decide))) rfl rfl hs hB (fun a w hs hB => ?_)
 refine l_fit (v := .bool true) (fit_free rfl (ok_move rfl rfl)) rfl rfl hs hB (fun a w hs hB => ?_)
 refine l_fit (v := pt g16 2) (fit_on rfl rfl rfl (ok_fieldAddr31_1 rfl rfl)) rfl rfl hs hB (fun a w hs hB => ?_)
 refine l_fit (v := .int .i64 Q2) (fit_on rfl rfl rfl (ok_load29 (k := 3) rfl rfl rfl rfl)) rfl rfl hs hB (fun a w hs hB => ?_)
 refine l_fit (v := .bool false) (fit_on rfl rfl rfl (ok_eq29 rfl rfl rfl (decide_eq_false hQ))) rfl rfl hs hB (fun a w hs hB => ?_)
 refine l_fit (v := .bool false) (fit_free rfl (ok_pick_t rfl rfl rfl)) rfl rfl hs hB (fun a w hs hB => ?_)
 refine l_nil ?_
 replace hs := hs.sub (l := [(200, .bool false), (19, pt g19 0), (7, .bool true), (16, pt g16 0), (17, pt g17 0), (18, pt g18 0)]) (⟨rfl, rfl, rfl, rfl, rfl, rfl, trivial⟩)
 refine c_false hs rfl ?_
 refine wp_skip ?_
 refine then_n ?_
 replace hs := hs.sub (l := [(19, pt g19 0), (7, .bool true), (18, pt g18 0)]) (⟨rfl, rfl, rfl, trivial⟩)
 refine c_list ?_
 refine l_fit (v := .bool true) (fit_free rfl (ok_move rfl rfl)) rfl rfl hs hB (fun a w hs hB => ?_)
 refine l_fit (v := .bool true) (fit_free rfl (ok_move rfl rfl)) rfl rfl hs hB (fun a w hs hB => ?_)
 refine l_fit (v := pt g18 2) (fit_on rfl rfl rfl (ok_fieldAddr31_1 rfl rfl)) rfl rfl hs hB (fun a w hs hB => ?_)
 refine l_fit (v := .int .i64 0) (fit_on rfl rfl rfl (ok_load29 (k := 1) rfl rfl rfl rfl)) rfl rfl hs hB (fun a w hs hB => ?_)
 refine l_fit (v := .bool false) (fit_on rfl rfl rfl (ok_neq29 rfl rfl rfl (by decide))) rfl rfl hs hB (fun a w hs hB => ?_)
 refine l_fit (v := .bool false) (fit_on rfl rfl rfl (ok_move rfl rfl)) rfl rfl hs hB (fun a w hs hB => ?_)
 refine l_fit (v := pt g19 2) (fit_on rfl rfl rfl (ok_fieldAddr31_1 rfl rfl)) rfl rfl hs hB (fun a w hs hB => ?_)
 refine l_fit (v := .int .i64 2) (fit_on rfl rfl rfl (ok_load29 (k := 0) rfl rfl rfl rfl)) rfl rfl hs hB (fun a w hs hB => ?_)
 refine l_fit (v := .bool true) (fit_on rfl rfl rfl (ok_neq29 rfl rfl rfl (by decide))) rfl rfl hs hB (fun a w hs hB => ?_)
 refine l_fit (v := .bool true) (fit_on rfl rfl rfl (ok_pick_f rfl rfl rfl)) rfl rfl hs hB (fun a w hs hB => ?_)
 refine l_fit (v := .bool true) (fit_on rfl rfl rfl (ok_move rfl rfl)) rfl rfl hs hB (fun a w hs hB => ?_)
 refine l_fit (v := undef) (fit_off rfl rfl rfl rfl) rfl rfl hs hB (fun a w hs hB => ?_)
 refine l_fit (v := undef) (fit_off rfl rfl rfl rfl) rfl rfl hs hB (fun a w hs hB => ?_)
 refine l_fit (v := undef) (fit_off rfl rfl rfl rfl) rfl rfl hs hB (fun a w hs hB => ?_)
 refine l_fit (v := .bool true) (fit_on rfl rfl rfl (ok_pick_t rfl rfl rfl)) rfl rfl hs hB (fun a w hs hB => ?_)
 refine l_fit (v := .bool true) (fit_free rfl (ok_pick_t rfl rfl rfl)) rfl rfl hs hB (fun a w hs hB => ?_)
 refine l_fit (v := .bool true) (fit_free rfl (ok_assign rfl rfl)) rfl rfl hs hB (fun a w hs hB => ?_)
 refine l_nil ?_
 replace hs := hs.sub (l := [(6, .bool true)]) (⟨rfl, trivial⟩)
 refine wp_ret ?_
 exact c_ret rfl hs rfl ⟨rfl, hB.below⟩

theorem f23q1 (K : Nat) (w0 : World) (g18 g17 g16 : Nat) (Q0 Q1 U0 U1 L0 L1 Q2 L2 : Int) (hQ : Q2 ≠ 0) (hL : L2 ≠ 0) :
  ∀ a w, Sl 222 [(7, .bool true), (16, pt g16 0), (17, pt g17 0), (18, pt g18 0)] a → Bl w0 [(g18, .cells #[.int .i64 L0, .int .i64 L1, .int .i64 L2] 31 (0, 0)), (g17, .cells #[.int .i64 U0, .int .i64 U1, .int .i64 0] 31 (0, 0)), (g16, .cells #[.int .i64 Q0, .int .i64 Q1, .int .i64 Q2] 31 (0, 0))] w → (restOf Tryd.f5 23).wp Tryd.prog (bodyPost Tryd.prog Tryd.f5 fun e w' => e = .returned (.bool true) ∧ Below w0.heap.size w0 w') a w := by
 intro a w hs hB
 conv => arg 2; whnf
 refine c_list ?_
 refine l_fit (v := .agg #[.int .i64 0, .int .i64 0, .int .i64 2]) (fit_free rfl (ok_build31_1 rfl rfl)) rfl rfl hs hB (fun a w hs hB => ?_)
 refine l_alloc31 rfl rfl rfl rfl hs hB (fun g19 a w hs hB => ?_)
 refine l_store31 (k := 0) (cs' := #[.int .i64 0, .int .i64 0, .int .i64 2]) rfl rfl rfl rfl rfl rfl rfl rfl hs hB (fun w hB => ?_)
 replace hB : Bl w0 [(g19, .cells #[.int .i64 0, .int .i64 0, .int .i64 2] 31 (0, 0)), (g18, .cells #[.int .i64 L0, .int .i64 L1, .int .i64 L2] 31 (0, 0)), (g17, .cells #[.int .i64 U0, .int .i64 U1, .int .i64 0] 31 (0, 0)), (g16, .cells #[.int .i64 Q0, .int .i64 Q1, .int .i64 Q2] 31 (0, 0))] w := hB
 refine l_nil ?_
 replace hs := hs.sub (l := [(19, pt g19 0), (7, .bool true), (16, pt g16 0), (17, pt g17 0), (18, pt g18 0)]) (⟨rfl, rfl, rfl, rfl, rfl, trivial⟩)
 refine wp_seq ?_
 refine c_list ?_
 refine l_fit (v := pt g17 2) (fit_free rfl (ok_fieldAddr31_1 rfl rfl)) rfl rfl hs hB (fun a w hs hB => ?_)
 refine l_fit (v := .int .i64 0) (fit_free rfl (ok_load29 (k := 2) rfl rfl rfl rfl)) rfl rfl hs hB (fun a w hs hB => ?_)
 refine l_fit (v := .bool true) (fit_free rfl (ok_eq29 rfl rfl rfl (by decide))) rfl rfl hs hB (fun a w hs hB => ?_)
 refine l_fit (v := .bool true) (fit_free rfl (ok_move rfl rfl)) rfl rfl hs hB (fun a w hs hB => ?_)
 refine l_fit (v := pt g16 2) (fit_on rfl rfl rfl (ok_fieldAddr31_1 rfl rfl)) rfl rfl hs hB (fun a w hs hB => ?_)
 refine l_fit (v := .int .i64 Q2) (fit_on rfl rfl rfl (ok_load29 (k := 3) rfl rfl rfl rfl)) rfl rfl hs hB (fun a w hs hB => ?_)
 refine l_fit (v := .bool false) (fit_on rfl rfl rfl (ok_eq29 rfl rfl rfl (decide_eq_false hQ))) rfl rfl hs hB (fun a w hs hB => ?_)
 refine l_fit (v := .bool false) (fit_free rfl (ok_pick_t rfl rfl rfl)) rfl rfl hs hB (fun a w hs hB => ?_)
 refine l_nil ?_
 replace hs := hs.sub (l := [(200, .bool false), (19, pt g19 0), (7, .bool true), (16, pt g16 0), (17, pt g17 0), (18, pt g18 0)]) (⟨rfl, rfl, rfl, rfl, rfl, rfl, trivial⟩)
 refine c_false hs rfl ?_
 refine wp_skip ?_
 refine then_n ?_
 replace hs := hs.sub (l := [(19, pt g19 0), (7, .bool true), (18, pt g18 0)]) (⟨rfl, rfl, rfl, trivial⟩)
 refine c_list ?_
 refine l_fit (v := .bool true) (fit_free rfl (ok_move rfl rfl)) rfl rfl hs hB (fun a w hs hB => ?_)
 refine l_fit (v := .bool true) (fit_free rfl (ok_move rfl rfl)) rfl rfl hs hB (fun a w hs hB => ?_)
 refine l_fit (v := pt g18 2) (fit_on rfl rfl rfl (ok_fieldAddr31_1 rfl rfl)) rfl rfl hs hB (fun a w hs hB => ?_)
 refine l_fit (v := .int .i64 L2) (fit_on rfl rfl rfl (ok_load29 (k := 1) rfl rfl rfl rfl)) rfl rfl hs hB (fun a w hs hB => ?_)
 refine l_fit (v := .bool true) (fit_on rfl rfl rfl (ok_neq29 rfl rfl rfl (decide_eq_true hL))) rfl rfl hs hB (fun a w hs hB => ?_)
 refine l_fit (v := .bool true) (fit_on rfl rfl rfl (ok_move rfl rfl)) rfl rfl hs hB (fun a w hs hB => ?_)
 refine l_fit (v := undef) (fit_off rfl rfl rfl rfl) rfl rfl hs hB (fun a w hs hB => ?_)
 refine l_fit (v := undef) (fit_off rfl rfl rfl rfl) rfl rfl hs hB (fun a w hs hB => ?_)
 refine l_fit (v := undef) (fit_off rfl rfl rfl rfl) rfl rfl hs hB (fun a w hs hB => ?_)
 refine l_fit (v := .bool true) (fit_on rfl rfl rfl (ok_pick_t rfl rfl rfl)) rfl rfl hs hB (fun a w hs hB => ?_)
 refine l_fit (v := .bool true) (fit_on rfl rfl rfl (ok_move rfl rfl)) rfl rfl hs hB (fun a w hs hB => ?_)
 refine l_fit (v := undef) (fit_off rfl rfl rfl rfl) rfl rfl hs hB (fun a w hs hB => ?_)
 refine l_fit (v := undef) (fit_off rfl rfl rfl rfl) rfl rfl hs hB (fun a w hs hB => ?_)
 refine l_fit (v := undef) (fit_off rfl rfl rfl rfl) rfl rfl hs hB (fun a w hs hB => ?_)
 refine l_fit (v := .bool true) (fit_on rfl rfl rfl (ok_pick_t rfl rfl rfl)) rfl rfl hs hB (fun a w hs hB => ?_)
 refine l_fit (v := .bool true) (fit_free rfl (ok_pick_t rfl rfl rfl)) rfl rfl hs hB (fun a w hs hB => ?_)
 refine l_fit (v := .bool true) (fit_free rfl (ok_assign rfl rfl)) rfl rfl hs hB (fun a w hs hB => ?_)
 refine l_nil ?_
 replace hs := hs.sub (l := [(6, .bool true)]) (⟨rfl, trivial⟩)
 refine wp_ret ?_
 exact c_ret rfl hs rfl ⟨rfl, hB.below⟩

theorem f23l (K : Nat) (w0 : World) (g18 g17 g16 : Nat) (Q0 Q1 U0 U1 A0 A1 A2 L0 L1 L2 : Int) (hA : F.wireloomlaw02_add.f K U0 U1 Q0 Q1 = some (A0, A1, A2)) (hL : L2 ≠ 0) :
  ∀ a w, Sl 222 [(7, .bool true), (16, pt g16 0), (17, pt g17 0), (18, pt g18 0)] a → Bl w0 [(g18, .cells #[.int .i64 L0, .int .i64 L1, .int .i64 L2] 31 (0, 0)), (g17, .cells #[.int .i64 U0, .int .i64 U1, .int .i64 0] 31 (0, 0)), (g16, .cells #[.int .i64 Q0, .int .i64 Q1, .int .i64 0] 31 (0, 0))] w → (restOf Tryd.f5 23).wp Tryd.prog (bodyPost Tryd.prog Tryd.f5 fun e w' => e = .returned (.bool true) ∧ Below w0.heap.size w0 w') a w := by
 intro a w hs hB
 conv => arg 2; whnf
 refine c_list ?_
 refine l_fit (v := .agg #[.int .i64 0, .int .i64 0, .int .i64 2]) (fit_free rfl (ok_build31_1 rfl rfl)) rfl rfl hs hB (fun a w hs hB => ?_)
 refine l_alloc31 rfl rfl rfl rfl hs hB (fun g19 a w hs hB => ?_)
 refine l_store31 (k := 0) (cs' := #[.int .i64 0, .int .i64 0, .int .i64 2]) rfl rfl rfl rfl rfl rfl rfl rfl hs hB (fun w hB => ?_)
 replace hB : Bl w0 [(g19, .cells #[.int .i64 0, .int .i64 0, .int .i64 2] 31 (0, 0)), (g18, .cells #[.int .i64 L0, .int .i64 L1, .int .i64 L2] 31 (0, 0)), (g17, .cells #[.int .i64 U0, .int .i64 U1, .int .i64 0] 31 (0, 0)), (g16, .cells #[.int .i64 Q0, .int .i64 Q1, .int .i64 0] 31 (0, 0))] w := hB
 refine l_nil ?_
 replace hs := hs.sub (l := [(19, pt g19 0), (7, .bool true), (16, pt g16 0), (17, pt g17 0), (18, pt g18 0)]) (⟨rfl, rfl, rfl, rfl, rfl, trivial⟩)
 refine wp_seq ?_
 refine c_list ?_
 refine l_fit (v := pt g17 2) (fit_free rfl (ok_fieldAddr31_1 rfl rfl)) rfl rfl hs hB (fun a w hs hB => ?_)
 refine l_fit (v := .int .i64 0) (fit_free rfl (ok_load29 (k := 2) rfl rfl rfl rfl)) rfl rfl hs hB (fun a w hs hB => ?_)
 refine l_fit (v := .bool true) (fit_free rfl (ok_eq29 rfl rfl rfl (by decide))) rfl rfl hs hB (fun a w hs hB => ?_)
 refine l_fit (v := .bool true) (fit_free rfl (ok_move rfl rfl)) rfl rfl hs hB (fun a w hs hB => ?_)
 refine l_fit (v := pt g16 2) (fit_on rfl rfl rfl (ok_fieldAddr31_1 rfl rfl)) rfl rfl hs hB (fun a w hs hB => ?_)
 refine l_fit (v := .int .i64 0) (fit_on rfl rfl rfl (ok_load29 (k := 3) rfl rfl rfl rfl)) rfl rfl hs hB (fun a w hs hB => ?_)
 refine l_fit (v := .bool true) (fit_on rfl rfl rfl (ok_eq29 rfl rfl rfl (by decide))) rfl rfl hs hB (fun a w hs hB => ?_)
 refine l_fit (v := .bool true) (fit_free rfl (ok_pick_t rfl rfl rfl)) rfl rfl hs hB (fun a w hs hB => ?_)
 refine l_nil ?_
 replace hs := hs.sub (l := [(200, .bool true), (19, pt g19 0), (7, .bool true), (16, pt g16 0), (17, pt g17 0), (18, pt g18 0)]) (⟨rfl, rfl, rfl, rfl, rfl, rfl, trivial⟩)
 refine c_true hs rfl ?_
 refine wp_region_list ?_
 refine l_fit (v := pt g17 0) (fit_free rfl (ok_fieldAddr31_0 rfl rfl)) rfl rfl hs hB (fun a w hs hB => ?_)
 refine l_fit (v := .agg #[.int .i64 U0, .int .i64 U1]) (fit_free rfl (ok_load25 (k := 2) rfl rfl rfl rfl rfl)) rfl rfl hs hB (fun a w hs hB => ?_)
 refine l_fit (v := pt g16 0) (fit_free rfl (ok_fieldAddr31_0 rfl rfl)) rfl rfl hs hB (fun a w hs hB => ?_)
 refine l_fit (v := .agg #[.int .i64 Q0, .int .i64 Q1]) (fit_free rfl (ok_load25 (k := 3) rfl rfl rfl rfl rfl)) rfl rfl hs hB (fun a w hs hB => ?_)
 refine l_fit (v := .agg #[.int .i64 A0, .int .i64 A1, .int .i64 A2]) (fit_free rfl (ok_call (args := #[.agg #[.int .i64 U0, .int .i64 U1], .agg #[.int .i64 Q0, .int .i64 Q1]]) rfl Tryd.func14 (by kernel_rfl) rfl rfl (viaB fun w => F.wireloomlaw02_add.calls K _ _ _ _ _ _ _ w hA))) rfl rfl hs hB (fun a w hs hB => ?_)
 refine l_store31 (k := 0) (cs' := #[.int .i64 A0, .int .i64 A1, .int .i64 A2]) rfl rfl rfl rfl rfl rfl rfl rfl hs hB (fun w hB => ?_)
 replace hB : Bl w0 [(g19, .cells #[.int .i64 A0, .int .i64 A1, .int .i64 A2] 31 (0, 0)), (g18, .cells #[.int .i64 L0, .int .i64 L1, .int .i64 L2] 31 (0, 0)), (g17, .cells #[.int .i64 U0, .int .i64 U1, .int .i64 0] 31 (0, 0)), (g16, .cells #[.int .i64 Q0, .int .i64 Q1, .int .i64 0] 31 (0, 0))] w := hB
 refine l_end ?_
 refine then_n ?_
 replace hs := hs.sub (l := [(19, pt g19 0), (7, .bool true), (18, pt g18 0)]) (⟨rfl, rfl, rfl, trivial⟩)
 refine c_list ?_
 refine l_fit (v := .bool true) (fit_free rfl (ok_move rfl rfl)) rfl rfl hs hB (fun a w hs hB => ?_)
 refine l_fit (v := .bool true) (fit_free rfl (ok_move rfl rfl)) rfl rfl hs hB (fun a w hs hB => ?_)
 refine l_fit (v := pt g18 2) (fit_on rfl rfl rfl (ok_fieldAddr31_1 rfl rfl)) rfl rfl hs hB (fun a w hs hB => ?_)
 refine l_fit (v := .int .i64 L2) (fit_on rfl rfl rfl (ok_load29 (k := 1) rfl rfl rfl rfl)) rfl rfl hs hB (fun a w hs hB => ?_)
 refine l_fit (v := .bool true) (fit_on rfl rfl rfl (ok_neq29 rfl rfl rfl (decide_eq_true hL))) rfl rfl hs hB (fun a w hs hB => ?_)
 refine l_fit (v := .bool true) (fit_on rfl rfl rfl (ok_move rfl rfl)) rfl rfl hs hB (fun a w hs hB => ?_)
 refine l_fit (v := undef) (fit_off rfl rfl rfl rfl) rfl rfl hs hB (fun a w hs hB => ?_)
 refine l_fit (v := undef) (fit_off rfl rfl rfl rfl) rfl rfl hs hB (fun a w hs hB => ?_)
 refine l_fit (v := undef) (fit_off rfl rfl rfl rfl) rfl rfl hs hB (fun a w hs hB => ?_)
 refine l_fit (v := .bool true) (fit_on rfl rfl rfl (ok_pick_t rfl rfl rfl)) rfl rfl hs hB (fun a w hs hB => ?_)
 refine l_fit (v := .bool true) (fit_on rfl rfl rfl (ok_move rfl rfl)) rfl rfl hs hB (fun a w hs hB => ?_)
 refine l_fit (v := undef) (fit_off rfl rfl rfl rfl) rfl rfl hs hB (fun a w hs hB => ?_)
 refine l_fit (v := undef) (fit_off rfl rfl rfl rfl) rfl rfl hs hB (fun a w hs hB => ?_)
 refine l_fit (v := undef) (fit_off rfl rfl rfl rfl) rfl rfl hs hB (fun a w hs hB => ?_)
 refine l_fit (v := .bool true) (fit_on rfl rfl rfl (ok_pick_t rfl rfl rfl)) rfl rfl hs hB (fun a w hs hB => ?_)
 refine l_fit (v := .bool true) (fit_free rfl (ok_pick_t rfl rfl rfl)) rfl rfl hs hB (fun a w hs hB => ?_)
 refine l_fit (v := .bool true) (fit_free rfl (ok_assign rfl rfl)) rfl rfl hs hB (fun a w hs hB => ?_)
 refine l_nil ?_
 replace hs := hs.sub (l := [(6, .bool true)]) (⟨rfl, trivial⟩)
 refine wp_ret ?_
 exact c_ret rfl hs rfl ⟨rfl, hB.below⟩

theorem f23a (K : Nat) (w0 : World) (g18 g17 g16 : Nat) (Q0 Q1 U0 U1 A0 A1 A2 L0 L1 : Int) (hA : F.wireloomlaw02_add.f K U0 U1 Q0 Q1 = some (A0, A1, A2)) (hA2 : A2 ≠ 0) :
  ∀ a w, Sl 222 [(7, .bool true), (16, pt g16 0), (17, pt g17 0), (18, pt g18 0)] a → Bl w0 [(g18, .cells #[.int .i64 L0, .int .i64 L1, .int .i64 0] 31 (0, 0)), (g17, .cells #[.int .i64 U0, .int .i64 U1, .int .i64 0] 31 (0, 0)), (g16, .cells #[.int .i64 Q0, .int .i64 Q1, .int .i64 0] 31 (0, 0))] w → (restOf Tryd.f5 23).wp Tryd.prog (bodyPost Tryd.prog Tryd.f5 fun e w' => e = .returned (.bool true) ∧ Below w0.heap.size w0 w') a w := by
 intro a w hs hB
 conv => arg 2; whnf
 refine c_list ?_
 refine l_fit (v := .agg #[.int .i64 0, .int .i64 0, .int .i64 2]) (fit_free rfl (ok_build31_1 rfl rfl)) rfl rfl hs hB (fun a w hs hB => ?_)
 refine l_alloc31 rfl rfl rfl rfl hs hB (fun g19 a w hs hB => ?_)
 refine l_store31 (k := 0) (cs' := #[.int .i64 0, .int .i64 0, .int .i64 2]) rfl rfl rfl rfl rfl rfl rfl rfl hs hB (fun w hB => ?_)
 replace hB : Bl w0 [(g19, .cells #[.int .i64 0, .int .i64 0, .int .i64 2] 31 (0, 0)), (g18, .cells #[.int .i64 L0, .int .i64 L1, .int .i64 0] 31 (0, 0)), (g17, .cells #[.int .i64 U0, .int .i64 U1, .int .i64 0] 31 (0, 0)), (g16, .cells #[.int .i64 Q0, .int .i64 Q1, .int .i64 0] 31 (0, 0))] w := hB
 refine l_nil ?_
 replace hs := hs.sub (l := [(19, pt g19 0), (7, .bool true), (16, pt g16 0), (17, pt g17 0), (18, pt g18 0)]) (⟨rfl, rfl, rfl, rfl, rfl, trivial⟩)
 refine wp_seq ?_
 refine c_list ?_
 refine l_fit (v := pt g17 2) (fit_free rfl (ok_fieldAddr31_1 rfl rfl)) rfl rfl hs hB (fun a w hs hB => ?_)
 refine l_fit (v := .int .i64 0) (fit_free rfl (ok_load29 (k := 2) rfl rfl rfl rfl)) rfl rfl hs hB (fun a w hs hB => ?_)
 refine l_fit (v := .bool true) (fit_free rfl (ok_eq29 rfl rfl rfl (by decide))) rfl rfl hs hB (fun a w hs hB => ?_)
 refine l_fit (v := .bool true) (fit_free rfl (ok_move rfl rfl)) rfl rfl hs hB (fun a w hs hB => ?_)
 refine l_fit (v := pt g16 2) (fit_on rfl rfl rfl (ok_fieldAddr31_1 rfl rfl)) rfl rfl hs hB (fun a w hs hB => ?_)
 refine l_fit (v := .int .i64 0) (fit_on rfl rfl rfl (ok_load29 (k := 3) rfl rfl rfl rfl)) rfl rfl hs hB (fun a w hs hB => ?_)
 refine l_fit (v := .bool true) (fit_on rfl rfl rfl (ok_eq29 rfl rfl rfl (by decide))) rfl rfl hs hB (fun a w hs hB => ?_)
 refine l_fit (v := .bool true) (fit_free rfl (ok_pick_t rfl rfl rfl)) rfl rfl hs hB (fun a w hs hB => ?_)
 refine l_nil ?_
 replace hs := hs.sub (l := [(200, .bool true), (19, pt g19 0), (7, .bool true), (16, pt g16 0), (17, pt g17 0), (18, pt g18 0)]) (⟨rfl, rfl, rfl, rfl, rfl, rfl, trivial⟩)
 refine c_true hs rfl ?_
 refine wp_region_list ?_
 refine l_fit (v := pt g17 0) (fit_free rfl (ok_fieldAddr31_0 rfl rfl)) rfl rfl hs hB (fun a w hs hB => ?_)
 refine l_fit (v := .agg #[.int .i64 U0, .int .i64 U1]) (fit_free rfl (ok_load25 (k := 2) rfl rfl rfl rfl rfl)) rfl rfl hs hB (fun a w hs hB => ?_)
 refine l_fit (v := pt g16 0) (fit_free rfl (ok_fieldAddr31_0 rfl rfl)) rfl rfl hs hB (fun a w hs hB => ?_)
 refine l_fit (v := .agg #[.int .i64 Q0, .int .i64 Q1]) (fit_free rfl (ok_load25 (k := 3) rfl rfl rfl rfl rfl)) rfl rfl hs hB (fun a w hs hB => ?_)
 refine l_fit (v := .agg #[.int .i64 A0, .int .i64 A1, .int .i64 A2]) (fit_free rfl (ok_call (args := #[.agg #[.int .i64 U0, .int .i64 U1], .agg #[.int .i64 Q0, .int .i64 Q1]]) rfl Tryd.func14 (by kernel_rfl) rfl rfl (viaB fun w => F.wireloomlaw02_add.calls K _ _ _ _ _ _ _ w hA))) rfl rfl hs hB (fun a w hs hB => ?_)
 refine l_store31 (k := 0) (cs' := #[.int .i64 A0, .int .i64 A1, .int .i64 A2]) rfl rfl rfl rfl rfl rfl rfl rfl hs hB (fun w hB => ?_)
 replace hB : Bl w0 [(g19, .cells #[.int .i64 A0, .int .i64 A1, .int .i64 A2] 31 (0, 0)), (g18, .cells #[.int .i64 L0, .int .i64 L1, .int .i64 0] 31 (0, 0)), (g17, .cells #[.int .i64 U0, .int .i64 U1, .int .i64 0] 31 (0, 0)), (g16, .cells #[.int .i64 Q0, .int .i64 Q1, .int .i64 0] 31 (0, 0))] w := hB
 refine l_end ?_
 refine then_n ?_
 replace hs := hs.sub (l := [(19, pt g19 0), (7, .bool true), (18, pt g18 0)]) (⟨rfl, rfl, rfl, trivial⟩)
 refine c_list ?_
 refine l_fit (v := .bool true) (fit_free rfl (ok_move rfl rfl)) rfl rfl hs hB (fun a w hs hB => ?_)
 refine l_fit (v := .bool true) (fit_free rfl (ok_move rfl rfl)) rfl rfl hs hB (fun a w hs hB => ?_)
 refine l_fit (v := pt g18 2) (fit_on rfl rfl rfl (ok_fieldAddr31_1 rfl rfl)) rfl rfl hs hB (fun a w hs hB => ?_)
 refine l_fit (v := .int .i64 0) (fit_on rfl rfl rfl (ok_load29 (k := 1) rfl rfl rfl rfl)) rfl rfl hs hB (fun a w hs hB => ?_)
 refine l_fit (v := .bool false) (fit_on rfl rfl rfl (ok_neq29 rfl rfl rfl (by decide))) rfl rfl hs hB (fun a w hs hB => ?_)
 refine l_fit (v := .bool false) (fit_on rfl rfl rfl (ok_move rfl rfl)) rfl rfl hs hB (fun a w hs hB => ?_)
 refine l_fit (v := pt g19 2) (fit_on rfl rfl rfl (ok_fieldAddr31_1 rfl rfl)) rfl rfl hs hB (fun a w hs hB => ?_)
 refine l_fit (v := .int .i64 A2) (fit_on rfl rfl rfl (ok_load29 (k := 0) rfl rfl rfl rfl)) rfl rfl hs hB (fun a w hs hB => ?_)
 refine l_fit (v := .bool true) (fit_on rfl rfl rfl (ok_neq29 rfl rfl rfl (decide_eq_true hA2))) rfl rfl hs hB (fun a w hs hB => ?_)
 refine l_fit (v := .bool true) (fit_on rfl rfl rfl (ok_pick_f rfl rfl rfl)) rfl rfl hs hB (fun a w hs hB => ?_)
 refine l_fit (v := .bool true) (fit_on rfl rfl rfl (ok_move rfl rfl)) rfl rfl hs hB (fun a w hs hB => ?_)
 refine l_fit (v := undef) (fit_off rfl rfl rfl rfl) rfl rfl hs hB (fun a w hs hB => ?_)
 refine l_fit (v := undef) (fit_off rfl rfl rfl rfl) rfl rfl hs hB (fun a w hs hB => ?_)
 refine l_fit (v := undef) (fit_off rfl rfl rfl rfl) rfl rfl hs hB (fun a w hs hB => ?_)
 refine l_fit (v := .bool true) (fit_on rfl rfl rfl (ok_pick_t rfl rfl rfl)) rfl rfl hs hB (fun a w hs hB => ?_)
 refine l_fit (v := .bool true) (fit_free rfl (ok_pick_t rfl rfl rfl)) rfl rfl hs hB (fun a w hs hB => ?_)
 refine l_fit (v := .bool true) (fit_free rfl (ok_assign rfl rfl)) rfl rfl hs hB (fun a w hs hB => ?_)
 refine l_nil ?_
 replace hs := hs.sub (l := [(6, .bool true)]) (⟨rfl, trivial⟩)
 refine wp_ret ?_
 exact c_ret rfl hs rfl ⟨rfl, hB.below⟩

theorem f23e (K : Nat) (w0 : World) (g18 g17 g16 : Nat) (Q0 Q1 U0 U1 A0 A1 : Int) (hA : F.wireloomlaw02_add.f K U0 U1 Q0 Q1 = some (A0, A1, 0)) :
  ∀ a w, Sl 222 [(7, .bool true), (16, pt g16 0), (17, pt g17 0), (18, pt g18 0)] a → Bl w0 [(g18, .cells #[.int .i64 A0, .int .i64 A1, .int .i64 0] 31 (0, 0)), (g17, .cells #[.int .i64 U0, .int .i64 U1, .int .i64 0] 31 (0, 0)), (g16, .cells #[.int .i64 Q0, .int .i64 Q1, .int .i64 0] 31 (0, 0))] w → (restOf Tryd.f5 23).wp Tryd.prog (bodyPost Tryd.prog Tryd.f5 fun e w' => e = .returned (.bool true) ∧ Below w0.heap.size w0 w') a w := by
 intro a w hs hB
 conv => arg 2; whnf
 refine c_list ?_
 refine l_fit (v := .agg #[.int .i64 0, .int .i64 0, .int .i64 2]) (fit_free rfl (ok_build31_1 rfl rfl)) rfl rfl hs hB (fun a w hs hB => ?_)
 refine l_alloc31 rfl rfl rfl rfl hs hB (fun g19 a w hs hB => ?_)
 refine l_store31 (k := 0) (cs' := #[.int .i64 0, .int .i64 0, .int .i64 2]) rfl rfl rfl rfl rfl rfl rfl rfl hs hB (fun w hB => ?_)
 replace hB : Bl w0 [(g19, .cells #[.int .i64 0, .int .i64 0, .int .i64 2] 31 (0, 0)), (g18, .cells #[.int .i64 A0, .int .i64 A1, .int .i64 0] 31 (0, 0)), (g17, .cells #[.int .i64 U0, .int .i64 U1, .int .i64 0] 31 (0, 0)), (g16, .cells #[.int .i64 Q0, .int .i64 Q1, .int .i64 0] 31 (0, 0))] w := hB
 refine l_nil ?_
 replace hs := hs.sub (l := [(19, pt g19 0), (7, .bool true), (16, pt g16 0), (17, pt g17 0), (18, pt g18 0)]) (⟨rfl, rfl, rfl, rfl, rfl, trivial⟩)
 refine wp_seq ?_
 refine c_list ?_
 refine l_fit (v := pt g17 2) (fit_free rfl (ok_fieldAddr31_1 rfl rfl)) rfl rfl hs hB (fun a w hs hB => ?_)
 refine l_fit (v := .int .i64 0) (fit_free rfl (ok_load29 (k := 2) rfl rfl rfl rfl)) rfl rfl hs hB (fun a w hs hB => ?_)
 refine l_fit (v := .bool true) (fit_free rfl (ok_eq29 rfl rfl rfl (by decide))) rfl rfl hs hB (fun a w hs hB => ?_)
 refine l_fit (v := .bool true) (fit_free rfl (ok_move rfl rfl)) rfl rfl hs hB (fun a w hs hB => ?_)
 refine l_fit (v := pt g16 2) (fit_on rfl rfl rfl (ok_fieldAddr31_1 rfl rfl)) rfl rfl hs hB (fun a w hs hB => ?_)
 refine l_fit (v := .int .i64 0) (fit_on rfl rfl rfl (ok_load29 (k := 3) rfl rfl rfl rfl)) rfl rfl hs hB (fun a w hs hB => ?_)
 refine l_fit (v := .bool true) (fit_on rfl rfl rfl (ok_eq29 rfl rfl rfl (by decide))) rfl rfl hs hB (fun a w hs hB => ?_)
 refine l_fit (v := .bool true) (fit_free rfl (ok_pick_t rfl rfl rfl)) rfl rfl hs hB (fun a w hs hB => ?_)
 refine l_nil ?_
 replace hs := hs.sub (l := [(200, .bool true), (19, pt g19 0), (7, .bool true), (16, pt g16 0), (17, pt g17 0), (18, pt g18 0)]) (⟨rfl, rfl, rfl, rfl, rfl, rfl, trivial⟩)
 refine c_true hs rfl ?_
 refine wp_region_list ?_
 refine l_fit (v := pt g17 0) (fit_free rfl (ok_fieldAddr31_0 rfl rfl)) rfl rfl hs hB (fun a w hs hB => ?_)
 refine l_fit (v := .agg #[.int .i64 U0, .int .i64 U1]) (fit_free rfl (ok_load25 (k := 2) rfl rfl rfl rfl rfl)) rfl rfl hs hB (fun a w hs hB => ?_)
 refine l_fit (v := pt g16 0) (fit_free rfl (ok_fieldAddr31_0 rfl rfl)) rfl rfl hs hB (fun a w hs hB => ?_)
 refine l_fit (v := .agg #[.int .i64 Q0, .int .i64 Q1]) (fit_free rfl (ok_load25 (k := 3) rfl rfl rfl rfl rfl)) rfl rfl hs hB (fun a w hs hB => ?_)
 refine l_fit (v := .agg #[.int .i64 A0, .int .i64 A1, .int .i64 0]) (fit_free rfl (ok_call (args := #[.agg #[.int .i64 U0, .int .i64 U1], .agg #[.int .i64 Q0, .int .i64 Q1]]) rfl Tryd.func14 (by kernel_rfl) rfl rfl (viaB fun w => F.wireloomlaw02_add.calls K _ _ _ _ _ _ _ w hA))) rfl rfl hs hB (fun a w hs hB => ?_)
 refine l_store31 (k := 0) (cs' := #[.int .i64 A0, .int .i64 A1, .int .i64 0]) rfl rfl rfl rfl rfl rfl rfl rfl hs hB (fun w hB => ?_)
 replace hB : Bl w0 [(g19, .cells #[.int .i64 A0, .int .i64 A1, .int .i64 0] 31 (0, 0)), (g18, .cells #[.int .i64 A0, .int .i64 A1, .int .i64 0] 31 (0, 0)), (g17, .cells #[.int .i64 U0, .int .i64 U1, .int .i64 0] 31 (0, 0)), (g16, .cells #[.int .i64 Q0, .int .i64 Q1, .int .i64 0] 31 (0, 0))] w := hB
 refine l_end ?_
 refine then_n ?_
 replace hs := hs.sub (l := [(19, pt g19 0), (7, .bool true), (18, pt g18 0)]) (⟨rfl, rfl, rfl, trivial⟩)
 refine c_list ?_
 refine l_fit (v := .bool true) (fit_free rfl (ok_move rfl rfl)) rfl rfl hs hB (fun a w hs hB => ?_)
 refine l_fit (v := .bool true) (fit_free rfl (ok_move rfl rfl)) rfl rfl hs hB (fun a w hs hB => ?_)
 refine l_fit (v := pt g18 2) (fit_on rfl rfl rfl (ok_fieldAddr31_1 rfl rfl)) rfl rfl hs hB (fun a w hs hB => ?_)
 refine l_fit (v := .int .i64 0) (fit_on rfl rfl rfl (ok_load29 (k := 1) rfl rfl rfl rfl)) rfl rfl hs hB (fun a w hs hB => ?_)
 refine l_fit (v := .bool false) (fit_on rfl rfl rfl (ok_neq29 rfl rfl rfl (by decide))) rfl rfl hs hB (fun a w hs hB => ?_)
 refine l_fit (v := .bool false) (fit_on rfl rfl rfl (ok_move rfl rfl)) rfl rfl hs hB (fun a w hs hB => ?_)
 refine l_fit (v := pt g19 2) (fit_on rfl rfl rfl (ok_fieldAddr31_1 rfl rfl)) rfl rfl hs hB (fun a w hs hB => ?_)
 refine l_fit (v := .int .i64 0) (fit_on rfl rfl rfl (ok_load29 (k := 0) rfl rfl rfl rfl)) rfl rfl hs hB (fun a w hs hB => ?_)
 refine l_fit (v := .bool false) (fit_on rfl rfl rfl (ok_neq29 rfl rfl rfl (by decide))) rfl rfl hs hB (fun a w hs hB => ?_)
 refine l_fit (v := .bool false) (fit_on rfl rfl rfl (ok_pick_f rfl rfl rfl)) rfl rfl hs hB (fun a w hs hB => ?_)
 refine l_fit (v := .bool false) (fit_on rfl rfl rfl (ok_move rfl rfl)) rfl rfl hs hB (fun a w hs hB => ?_)
 refine l_fit (v := .agg #[.int .i64 A0, .int .i64 A1, .int .i64 0]) (fit_on rfl rfl rfl (ok_load31 (k := 1) rfl rfl rfl rfl rfl rfl)) rfl rfl hs hB (fun a w hs hB => ?_)
 refine l_fit (v := .agg #[.int .i64 A0, .int .i64 A1, .int .i64 0]) (fit_on rfl rfl rfl (ok_load31 (k := 0) rfl rfl rfl rfl rfl rfl)) rfl rfl hs hB (fun a w hs hB => ?_)
 refine l_fit (v := .bool true) (fit_on rfl rfl rfl (ok_eq31 rfl rfl rfl (by simp))) rfl rfl hs hB (fun a w hs hB => ?_)
 refine l_fit (v := .bool true) (fit_on rfl rfl rfl (ok_pick_f rfl rfl rfl)) rfl rfl hs hB (fun a w hs hB => ?_)
 refine l_fit (v := .bool true) (fit_free rfl (ok_pick_t rfl rfl rfl)) rfl rfl hs hB (fun a w hs hB => ?_)
 refine l_fit (v := .bool true) (fit_free rfl (ok_assign rfl rfl)) rfl rfl hs hB (fun a w hs hB => ?_)
 refine l_nil ?_
 replace hs := hs.sub (l := [(6, .bool true)]) (⟨rfl, trivial⟩)
 refine wp_ret ?_
 exact c_ret rfl hs rfl ⟨rfl, hB.below⟩

theorem f19n (K : Nat) (w0 : World) (g16 g13 g10 g8 : Nat) (aN aD cN cD Q0 Q1 Q2 U0 U1 U2 S0 S1 S2 : Int) (hU : F.wireloomlaw02_mul.f K aN aD cN cD = some (U0, U1, U2)) (hS : S2 ≠ 0) (H : ∀ (g18 g17 : Nat), ∀ a w, Sl 222 [(7, .bool true), (16, pt g16 0), (17, pt g17 0), (18, pt g18 0)] a → Bl w0 [(g18, .cells #[.int .i64 0, .int .i64 0, .int .i64 2] 31 (0, 0)), (g17, .cells #[.int .i64 U0, .int .i64 U1, .int .i64 U2] 31 (0, 0)), (g16, .cells #[.int .i64 Q0, .int .i64 Q1, .int .i64 Q2] 31 (0, 0))] w → (restOf Tryd.f5 23).wp Tryd.prog (bodyPost Tryd.prog Tryd.f5 fun e w' => e = .returned (.bool true) ∧ Below w0.heap.size w0 w') a w) :
  ∀ a w, Sl 222 [(7, .bool true), (8, pt g8 0), (10, pt g10 0), (13, pt g13 0), (16, pt g16 0)] a → Bl w0 [(g16, .cells #[.int .i64 Q0, .int .i64 Q1, .int .i64 Q2] 31 (0, 0)), (g13, .cells #[.int .i64 S0, .int .i64 S1, .int .i64 S2] 31 (0, 0)), (g10, .cells #[.int .i64 cN, .int .i64 cD] 25 (0, 0)), (g8, .cells #[.int .i64 aN, .int .i64 aD] 25 (0, 0))] w → (restOf Tryd.f5 19).wp Tryd.prog (bodyPost Tryd.prog Tryd.f5 fun e w' => e = .returned (.bool true) ∧ Below w0.heap.size w0 w') a w := by
 intro a w hs hB
 conv => arg 2; whnf
 refine c_list ?_
 refine l_fit (v := .agg #[.int .i64 aN, .int .i64 aD]) (fit_free rfl (ok_load25 (k := 3) rfl rfl rfl rfl rfl)) rfl rfl hs hB (fun a w hs hB => ?_)
 refine l_fit (v := .agg #[.int .i64 cN, .int .i64 cD]) (fit_free rfl (ok_load25 (k := 2) rfl rfl rfl rfl rfl)) rfl rfl hs hB (fun a w hs hB => ?_)
 refine l_fit (v := .agg #[.int .i64 U0, .int .i64 U1, .int .i64 U2]) (fit_free rfl (ok_call (args := #[.agg #[.int .i64 aN, .int .i64 aD], .agg #[.int .i64 cN, .int .i64 cD]]) rfl Tryd.func15 (by kernel_rfl) rfl rfl (viaB fun w => F.wireloomlaw02_mul.calls K _ _ _ _ _ _ _ w hU))) rfl rfl hs hB (fun a w hs hB => ?_)
 refine l_alloc31 rfl rfl rfl rfl hs hB (fun g17 a w hs hB => ?_)
 refine l_store31 (k := 0) (cs' := #[.int .i64 U0, .int .i64 U1, .int .i64 U2]) rfl rfl rfl rfl rfl rfl rfl rfl hs hB (fun w hB => ?_)
 replace hB : Bl w0 [(g17, .cells #[.int .i64 U0, .int .i64 U1, .int .i64 U2] 31 (0, 0)), (g16, .cells #[.int .i64 Q0, .int .i64 Q1, .int .i64 Q2] 31 (0, 0)), (g13, .cells #[.int .i64 S0, .int .i64 S1, .int .i64 S2] 31 (0, 0)), (g10, .cells #[.int .i64 cN, .int .i64 cD] 25 (0, 0)), (g8, .cells #[.int .i64 aN, .int .i64 aD] 25 (0, 0))] w := hB
 refine l_nil ?_
 replace hs := hs.sub (l := [(17, pt g17 0), (7, .bool true), (10, pt g10 0), (13, pt g13 0), (16, pt g16 0)]) (⟨rfl, rfl, rfl, rfl, rfl, trivial⟩)
 refine c_list ?_
 refine l_fit (v := .agg #[.int .i64 0, .int .i64 0, .int .i64 2]) (fit_free rfl (ok_build31_1 rfl rfl)) rfl rfl hs hB (fun a w hs hB => ?_)
 refine l_alloc31 rfl rfl rfl rfl hs hB (fun g18 a w hs hB => ?_)
 refine l_store31 (k := 0) (cs' := #[.int .i64 0, .int .i64 0, .int .i64 2]) rfl rfl rfl rfl rfl rfl rfl rfl hs hB (fun w hB => ?_)
 replace hB : Bl w0 [(g18, .cells #[.int .i64 0, .int .i64 0, .int .i64 2] 31 (0, 0)), (g17, .cells #[.int .i64 U0, .int .i64 U1, .int .i64 U2] 31 (0, 0)), (g16, .cells #[.int .i64 Q0, .int .i64 Q1, .int .i64 Q2] 31 (0, 0)), (g13, .cells #[.int .i64 S0, .int .i64 S1, .int .i64 S2] 31 (0, 0)), (g10, .cells #[.int .i64 cN, .int .i64 cD] 25 (0, 0)), (g8, .cells #[.int .i64 aN, .int .i64 aD] 25 (0, 0))] w := hB
 refine l_nil ?_
 replace hs := hs.sub (l := [(18, pt g18 0), (17, pt g17 0), (7, .bool true), (10, pt g10 0), (13, pt g13 0), (16, pt g16 0)]) (⟨rfl, rfl, rfl, rfl, rfl, rfl, trivial⟩)
 refine wp_seq ?_
 refine c_list ?_
 refine l_fit (v := pt g13 2) (fit_free rfl (ok_fieldAddr31_1 rfl rfl)) rfl rfl hs hB (fun a w hs hB => ?_)
 refine l_fit (v := .int .i64 S2) (fit_free rfl (ok_load29 (k := 3) rfl rfl rfl rfl)) rfl rfl hs hB (fun a w hs hB => ?_)
 refine l_fit (v := .bool false) (fit_free rfl (ok_eq29 rfl rfl rfl (decide_eq_false hS))) rfl rfl hs hB (fun a w hs hB => ?_)
 refine l_nil ?_
 replace hs := hs.sub (l := [(187, .bool false), (18, pt g18 0), (17, pt g17 0), (7, .bool true), (10, pt g10 0), (13, pt g13 0), (16, pt g16 0)]) (⟨rfl, rfl, rfl, rfl, rfl, rfl, rfl, trivial⟩)
 refine c_false hs rfl ?_
 refine wp_skip ?_
 refine then_n ?_
 replace hs := hs.sub (l := [(18, pt g18 0), (17, pt g17 0), (7, .bool true), (16, pt g16 0)]) (⟨rfl, rfl, rfl, rfl, trivial⟩)
 replace hs := hs.sub (l := [(7, .bool true), (16, pt g16 0), (17, pt g17 0), (18, pt g18 0)]) (⟨rfl, rfl, rfl, rfl, trivial⟩)
 replace hB : Bl w0 [(g18, .cells #[.int .i64 0, .int .i64 0, .int .i64 2] 31 (0, 0)), (g17, .cells #[.int .i64 U0, .int .i64 U1, .int .i64 U2] 31 (0, 0)), (g16, .cells #[.int .i64 Q0, .int .i64 Q1, .int .i64 Q2] 31 (0, 0))] w := hB.keep [true, true, true, false, false, false]
 exact H g18 g17  a w hs hB

theorem f19s (K : Nat) (w0 : World) (g16 g13 g10 g8 : Nat) (aN aD cN cD Q0 Q1 Q2 U0 U1 U2 S0 S1 L0 L1 L2 : Int) (hU : F.wireloomlaw02_mul.f K aN aD cN cD = some (U0, U1, U2)) (hL : F.wireloomlaw02_mul.f K S0 S1 cN cD = some (L0, L1, L2)) (H : ∀ (g18 g17 : Nat), ∀ a w, Sl 222 [(7, .bool true), (16, pt g16 0), (17, pt g17 0), (18, pt g18 0)] a → Bl w0 [(g18, .cells #[.int .i64 L0, .int .i64 L1, .int .i64 L2] 31 (0, 0)), (g17, .cells #[.int .i64 U0, .int .i64 U1, .int .i64 U2] 31 (0, 0)), (g16, .cells #[.int .i64 Q0, .int .i64 Q1, .int .i64 Q2] 31 (0, 0))] w → (restOf Tryd.f5 23).wp Tryd.prog (bodyPost Tryd.prog Tryd.f5 fun e w' => e = .returned (.bool true) ∧ Below w0.heap.size w0 w') a w) :
  ∀ a w, Sl 222 [(7, .bool true), (8, pt g8 0), (10, pt g10 0), (13, pt g13 0), (16, pt g16 0)] a → Bl w0 [(g16, .cells #[.int .i64 Q0, .int .i64 Q1, .int .i64 Q2] 31 (0, 0)), (g13, .cells #[.int .i64 S0, .int .i64 S1, .int .i64 0] 31 (0, 0)), (g10, .cells #[.int .i64 cN, .int .i64 cD] 25 (0, 0)), (g8, .cells #[.int .i64 aN, .int .i64 aD] 25 (0, 0))] w → (restOf Tryd.f5 19).wp Tryd.prog (bodyPost Tryd.prog Tryd.f5 fun e w' => e = .returned (.bool true) ∧ Below w0.heap.size w0 w') a w := by
 intro a w hs hB
 conv => arg 2; whnf
 refine c_list ?_
 refine l_fit (v := .agg #[.int .i64 aN, .int .i64 aD]) (fit_free rfl (ok_load25 (k := 3) rfl rfl rfl rfl rfl)) rfl rfl hs hB (fun a w hs hB => ?_)
 refine l_fit (v := .agg #[.int .i64 cN, .int .i64 cD]) (fit_free rfl (ok_load25 (k := 2) rfl rfl rfl rfl rfl)) rfl rfl hs hB (fun a w hs hB => ?_)
 refine l_fit (v := .agg #[.int .i64 U0, .int .i64 U1, .int .i64 U2]) (fit_free rfl (ok_call (args := #[.agg #[.int .i64 aN, .int .i64 aD], .agg #[.int .i64 cN, .int .i64 cD]]) rfl Tryd.func15 (by kernel_rfl) rfl rfl (viaB fun w => F.wireloomlaw02_mul.calls K _ _ _ _ _ _ _ w hU))) rfl rfl hs hB (fun a w hs hB => ?_)
 refine l_alloc31 rfl rfl rfl rfl hs hB (fun g17 a w hs hB => ?_)
 refine l_store31 (k := 0) (cs' := #[.int .i64 U0, .int .i64 U1, .int .i64 U2]) rfl rfl rfl rfl rfl rfl rfl rfl hs hB (fun w hB => ?_)
 replace hB : Bl w0 [(g17, .cells #[.int .i64 U0, .int .i64 U1, .int .i64 U2] 31 (0, 0)), (g16, .cells #[.int .i64 Q0, .int .i64 Q1, .int .i64 Q2] 31 (0, 0)), (g13, .cells #[.int .i64 S0, .int .i64 S1, .int .i64 0] 31 (0, 0)), (g10, .cells #[.int .i64 cN, .int .i64 cD] 25 (0, 0)), (g8, .cells #[.int .i64 aN, .int .i64 aD] 25 (0, 0))] w := hB
 refine l_nil ?_
 replace hs := hs.sub (l := [(17, pt g17 0), (7, .bool true), (10, pt g10 0), (13, pt g13 0), (16, pt g16 0)]) (⟨rfl, rfl, rfl, rfl, rfl, trivial⟩)
 refine c_list ?_
 refine l_fit (v := .agg #[.int .i64 0, .int .i64 0, .int .i64 2]) (fit_free rfl (ok_build31_1 rfl rfl)) rfl rfl hs hB (fun a w hs hB => ?_)
 refine l_alloc31 rfl rfl rfl rfl hs hB (fun g18 a w hs hB => ?_)
 refine l_store31 (k := 0) (cs' := #[.int .i64 0, .int .i64 0, .int .i64 2]) rfl rfl rfl rfl rfl rfl rfl rfl hs hB (fun w hB => ?_)
 replace hB : Bl w0 [(g18, .cells #[.int .i64 0, .int .i64 0, .int .i64 2] 31 (0, 0)), (g17, .cells #[.int .i64 U0, .int .i64 U1, .int .i64 U2] 31 (0, 0)), (g16, .cells #[.int .i64 Q0, .int .i64 Q1, .int .i64 Q2] 31 (0, 0)), (g13, .cells #[.int .i64 S0, .int .i64 S1, .int .i64 0] 31 (0, 0)), (g10, .cells #[.int .i64 cN, .int .i64 cD] 25 (0, 0)), (g8, .cells #[.int .i64 aN, .int .i64 aD] 25 (0, 0))] w := hB
 refine l_nil ?_
 replace hs := hs.sub (l := [(18, pt g18 0), (17, pt g17 0), (7, .bool true), (10, pt g10 0), (13, pt g13 0), (16, pt g16 0)]) (⟨rfl, rfl, rfl, rfl, rfl, rfl, trivial⟩)
 refine wp_seq ?_
 refine c_list ?_
 refine l_fit (v := pt g13 2) (fit_free rfl (ok_fieldAddr31_1 rfl rfl)) rfl rfl hs hB (fun a w hs hB => ?_)
 refine l_fit (v := .int .i64 0) (fit_free rfl (ok_load29 (k := 3) rfl rfl rfl rfl)) rfl rfl hs hB (fun a w hs hB => ?_)
 refine l_fit (v := .bool true) (fit_free rfl (ok_eq29 rfl rfl rfl (by decide))) rfl rfl hs hB (fun a w hs hB => ?_)
 refine l_nil ?_
 replace hs := hs.sub (l := [(187, .bool true), (18, pt g18 0), (17, pt g17 0), (7, .bool true), (10, pt g10 0), (13, pt g13 0), (16, pt g16 0)]) (⟨rfl, rfl, rfl, rfl, rfl, rfl, rfl, trivial⟩)
 refine c_true hs rfl ?_
 refine wp_region_list ?_
 refine l_fit (v := pt g13 0) (fit_free rfl (ok_fieldAddr31_0 rfl rfl)) rfl rfl hs hB (fun a w hs hB => ?_)
 refine l_fit (v := .agg #[.int .i64 S0, .int .i64 S1]) (fit_free rfl (ok_load25 (k := 3) rfl rfl rfl rfl rfl)) rfl rfl hs hB (fun a w hs hB => ?_)
 refine l_fit (v := .agg #[.int .i64 cN, .int .i64 cD]) (fit_free rfl (ok_load25 (k := 4) rfl rfl rfl rfl rfl)) rfl rfl hs hB (fun a w hs hB => ?_)
 refine l_fit (v := .agg #[.int .i64 L0, .int .i64 L1, .int .i64 L2]) (fit_free rfl (ok_call (args := #[.agg #[.int .i64 S0, .int .i64 S1], .agg #[.int .i64 cN, .int .i64 cD]]) rfl Tryd.func15 (by kernel_rfl) rfl rfl (viaB fun w => F.wireloomlaw02_mul.calls K _ _ _ _ _ _ _ w hL))) rfl rfl hs hB (fun a w hs hB => ?_)
 refine l_store31 (k := 0) (cs' := #[.int .i64 L0, .int .i64 L1, .int .i64 L2]) rfl rfl rfl rfl rfl rfl rfl rfl hs hB (fun w hB => ?_)
 replace hB : Bl w0 [(g18, .cells #[.int .i64 L0, .int .i64 L1, .int .i64 L2] 31 (0, 0)), (g17, .cells #[.int .i64 U0, .int .i64 U1, .int .i64 U2] 31 (0, 0)), (g16, .cells #[.int .i64 Q0, .int .i64 Q1, .int .i64 Q2] 31 (0, 0)), (g13, .cells #[.int .i64 S0, .int .i64 S1, .int .i64 0] 31 (0, 0)), (g10, .cells #[.int .i64 cN, .int .i64 cD] 25 (0, 0)), (g8, .cells #[.int .i64 aN, .int .i64 aD] 25 (0, 0))] w := hB
 refine l_end ?_
 refine then_n ?_
 replace hs := hs.sub (l := [(18, pt g18 0), (17, pt g17 0), (7, .bool true), (16, pt g16 0)]) (⟨rfl, rfl, rfl, rfl, trivial⟩)
 replace hs := hs.sub (l := [(7, .bool true), (16, pt g16 0), (17, pt g17 0), (18, pt g18 0)]) (⟨rfl, rfl, rfl, rfl, trivial⟩)
 replace hB : Bl w0 [(g18, .cells #[.int .i64 L0, .int .i64 L1, .int .i64 L2] 31 (0, 0)), (g17, .cells #[.int .i64 U0, .int .i64 U1, .int .i64 U2] 31 (0, 0)), (g16, .cells #[.int .i64 Q0, .int .i64 Q1, .int .i64 Q2] 31 (0, 0))] w := hB.keep [true, true, true, false, false, false]
 exact H g18 g17  a w hs hB

theorem f15p (K : Nat) (w0 : World) (g13 g10 g9 g8 : Nat) (aN aD bN bD cN cD S0 S1 S2 P0 P1 Q0 Q1 P2 Q2 : Int) (hP : F.wireloomlaw02_mul.f K aN aD bN bD = some (P0, P1, P2)) (hQ : F.wireloomlaw02_mul.f K bN bD cN cD = some (Q0, Q1, Q2)) (hp : P2 ≠ 0) (H : ∀ (g16 : Nat), ∀ a w, Sl 222 [(7, .bool true), (8, pt g8 0), (10, pt g10 0), (13, pt g13 0), (16, pt g16 0)] a → Bl w0 [(g16, .cells #[.int .i64 Q0, .int .i64 Q1, .int .i64 Q2] 31 (0, 0)), (g13, .cells #[.int .i64 S0, .int .i64 S1, .int .i64 S2] 31 (0, 0)), (g10, .cells #[.int .i64 cN, .int .i64 cD] 25 (0, 0)), (g8, .cells #[.int .i64 aN, .int .i64 aD] 25 (0, 0))] w → (restOf Tryd.f5 19).wp Tryd.prog (bodyPost Tryd.prog Tryd.f5 fun e w' => e = .returned (.bool true) ∧ Below w0.heap.size w0 w') a w) :
  ∀ a w, Sl 222 [(7, .bool true), (8, pt g8 0), (9, pt g9 0), (10, pt g10 0), (13, pt g13 0)] a → Bl w0 [(g13, .cells #[.int .i64 S0, .int .i64 S1, .int .i64 S2] 31 (0, 0)), (g10, .cells #[.int .i64 cN, .int .i64 cD] 25 (0, 0)), (g9, .cells #[.int .i64 bN, .int .i64 bD] 25 (0, 0)), (g8, .cells #[.int .i64 aN, .int .i64 aD] 25 (0, 0))] w → (restOf Tryd.f5 15).wp Tryd.prog (bodyPost Tryd.prog Tryd.f5 fun e w' => e = .returned (.bool true) ∧ Below w0.heap.size w0 w') a w := by
 intro a w hs hB
 conv => arg 2; whnf
 refine c_list ?_
 refine l_fit (v := .agg #[.int .i64 aN, .int .i64 aD]) (fit_free rfl (ok_load25 (k := 3) rfl rfl rfl rfl rfl)) rfl rfl hs hB (fun a w hs hB => ?_)
 refine l_fit (v := .agg #[.int .i64 bN, .int .i64 bD]) (fit_free rfl (ok_load25 (k := 2) rfl rfl rfl rfl rfl)) rfl rfl hs hB (fun a w hs hB => ?_)
 refine l_fit (v := .agg #[.int .i64 P0, .int .i64 P1, .int .i64 P2]) (fit_free rfl (ok_call (args := #[.agg #[.int .i64 aN, .int .i64 aD], .agg #[.int .i64 bN, .int .i64 bD]]) rfl Tryd.func15 (by kernel_rfl) rfl rfl (viaB fun w => F.wireloomlaw02_mul.calls K _ _ _ _ _ _ _ w hP))) rfl rfl hs hB (fun a w hs hB => ?_)
 refine l_alloc31 rfl rfl rfl rfl hs hB (fun g15 a w hs hB => ?_)
 refine l_store31 (k := 0) (cs' := #[.int .i64 P0, .int .i64 P1, .int .i64 P2]) rfl rfl rfl rfl rfl rfl rfl rfl hs hB (fun w hB => ?_)
 replace hB : Bl w0 [(g15, .cells #[.int .i64 P0, .int .i64 P1, .int .i64 P2] 31 (0, 0)), (g13, .cells #[.int .i64 S0, .int .i64 S1, .int .i64 S2] 31 (0, 0)), (g10, .cells #[.int .i64 cN, .int .i64 cD] 25 (0, 0)), (g9, .cells #[.int .i64 bN, .int .i64 bD] 25 (0, 0)), (g8, .cells #[.int .i64 aN, .int .i64 aD] 25 (0, 0))] w := hB
 refine l_nil ?_
 replace hs := hs.sub (l := [(15, pt g15 0), (7, .bool true), (8, pt g8 0), (9, pt g9 0), (10, pt g10 0), (13, pt g13 0)]) (⟨rfl, rfl, rfl, rfl, rfl, rfl, trivial⟩)
 refine c_list ?_
 refine l_fit (v := .agg #[.int .i64 bN, .int .i64 bD]) (fit_free rfl (ok_load25 (k := 3) rfl rfl rfl rfl rfl)) rfl rfl hs hB (fun a w hs hB => ?_)
 refine l_fit (v := .agg #[.int .i64 cN, .int .i64 cD]) (fit_free rfl (ok_load25 (k := 2) rfl rfl rfl rfl rfl)) rfl rfl hs hB (fun a w hs hB => ?_)
 refine l_fit (v := .agg #[.int .i64 Q0, .int .i64 Q1, .int .i64 Q2]) (fit_free rfl (ok_call (args := #[.agg #[.int .i64 bN, .int .i64 bD], .agg #[.int .i64 cN, .int .i64 cD]]) rfl Tryd.func15 (by kernel_rfl) rfl rfl (viaB fun w => F.wireloomlaw02_mul.calls K _ _ _ _ _ _ _ w hQ))) rfl rfl hs hB (fun a w hs hB => ?_)
 refine l_alloc31 rfl rfl rfl rfl hs hB (fun g16 a w hs hB => ?_)
 refine l_store31 (k := 0) (cs' := #[.int .i64 Q0, .int .i64 Q1, .int .i64 Q2]) rfl rfl rfl rfl rfl rfl rfl rfl hs hB (fun w hB => ?_)
 replace hB : Bl w0 [(g16, .cells #[.int .i64 Q0, .int .i64 Q1, .int .i64 Q2] 31 (0, 0)), (g15, .cells #[.int .i64 P0, .int .i64 P1, .int .i64 P2] 31 (0, 0)), (g13, .cells #[.int .i64 S0, .int .i64 S1, .int .i64 S2] 31 (0, 0)), (g10, .cells #[.int .i64 cN, .int .i64 cD] 25 (0, 0)), (g9, .cells #[.int .i64 bN, .int .i64 bD] 25 (0, 0)), (g8, .cells #[.int .i64 aN, .int .i64 aD] 25 (0, 0))] w := hB
 refine l_nil ?_
 replace hs := hs.sub (l := [(16, pt g16 0), (15, pt g15 0), (7, .bool true), (8, pt g8 0), (9, pt g9 0), (10, pt g10 0), (13, pt g13 0)]) (⟨rfl, rfl, rfl, rfl, rfl, rfl, rfl, trivial⟩)
 refine wp_seq ?_
 refine wp_seq ?_
 replace hs := hs.sub (l := [(16, pt g16 0), (15, pt g15 0), (7, .bool true), (8, pt g8 0), (9, pt g9 0), (10, pt g10 0), (13, pt g13 0)]) (⟨rfl, rfl, rfl, rfl, rfl, rfl, rfl, trivial⟩)
 refine conf_region (n := 222) (sl := [(16, pt g16 0), (15, pt g15 0), (7, .bool true), (8, pt g8 0), (9, pt g9 0), (10, pt g10 0), (13, pt g13 0)]) (vs := [pt g15 2, .int .i64 P2, .bool false, .bool false, undef, undef, undef, .bool false, .bool false, undef, undef, undef, undef, undef, undef, undef, undef, undef, undef, .bool false, .bool false, pt g15 2, .int .i64 P2, .bool false, .bool false, undef, undef, undef, .bool false, .bool false, undef, undef, undef, undef, undef, undef, undef, undef, undef, .bool false, .bool false]) (B := Bl w0 [(g16, .cells #[.int .i64 Q0, .int .i64 Q1, .int .i64 Q2] 31 (0, 0)), (g15, .cells #[.int .i64 P0, .int .i64 P1, .int .i64 P2] 31 (0, 0)), (g13, .cells #[.int .i64 S0, .int .i64 S1, .int .i64 S2] 31 (0, 0)), (g10, .cells #[.int .i64 cN, .int .i64 cD] 25 (0, 0)), (g9, .cells #[.int .i64 bN, .int .i64 bD] 25 (0, 0)), (g8, .cells #[.int .i64 aN, .int .i64 aD] 25 (0, 0))]) (by kernel_rfl) [16, 15, 7, 8, 9, 10, 13] rfl (by kernel_rfl) rfl (AllFitL.all ⟨fit_free rfl (ok_fieldAddr31_1 rfl rfl),
   fit_free rfl (ok_load29 (k := 1) rfl rfl rfl rfl),
   fit_free rfl (ok_eq29 rfl rfl rfl (decide_eq_false hp)),
   fit_free rfl (ok_move rfl rfl),
   fit_off rfl rfl rfl rfl,
   fit_off rfl rfl rfl rfl,
   fit_off rfl rfl rfl rfl,
   fit_free rfl (ok_pick_f rfl rfl rfl),
   fit_free rfl (ok_move rfl rfl),
   fit_off rfl rfl rfl rfl,
   fit_off rfl rfl rfl rfl,
   fit_off rfl rfl rfl rfl,
   fit_off rfl rfl rfl rfl,
   fit_off rfl rfl rfl rfl,
   fit_off rfl rfl rfl rfl,
   fit_off rfl rfl rfl rfl,
   fit_off rfl rfl rfl rfl,
   fit_off rfl rfl rfl rfl,
   fit_off rfl rfl rfl rfl,
   fit_free rfl (ok_pick_f rfl rfl rfl),
   fit_free rfl (ok_move rfl rfl),
   fit_on rfl rfl rfl (ok_fieldAddr31_1 rfl rfl),
   fit_on rfl rfl rfl (ok_load29 (k := 1) rfl rfl rfl rfl),
   fit_on rfl rfl rfl (ok_eq29 rfl rfl rfl (decide_eq_false hp)),
   fit_on rfl rfl rfl (ok_move rfl rfl),
   fit_off rfl rfl rfl rfl,
   fit_off rfl rfl rfl rfl,
   fit_off rfl rfl rfl rfl,
   fit_on rfl rfl rfl (ok_pick_f rfl rfl rfl),
   fit_on rfl rfl rfl (ok_move rfl rfl),
   fit_off rfl rfl rfl rfl,
   fit_off rfl rfl rfl rfl,
   fit_off rfl rfl rfl rfl,
   fit_off rfl rfl rfl rfl,
   fit_off rfl rfl rfl rfl,
   fit_off rfl rfl rfl rfl,
   fit_off rfl rfl rfl rfl,
   fit_off rfl rfl rfl rfl,
   fit_off rfl rfl rfl rfl,
   fit_on rfl rfl rfl (ok_pick_f rfl rfl rfl),
   fit_free rfl (ok_pick_f rfl rfl rfl),
   trivial⟩) hs hB.drew (fun a w hs hB => ?_)
 replace hs := hs.sub (l := [(180, .bool false), (16, pt g16 0), (7, .bool true), (8, pt g8 0), (10, pt g10 0), (13, pt g13 0)]) (⟨rfl, rfl, rfl, rfl, rfl, rfl, trivial⟩)
 refine then_n ?_
 replace hs := hs.sub (l := [(180, .bool false), (16, pt g16 0), (7, .bool true), (8, pt g8 0), (10, pt g10 0), (13, pt g13 0)]) (⟨rfl, rfl, rfl, rfl, rfl, rfl, trivial⟩)
 refine c_false hs rfl ?_
 refine wp_skip ?_
 refine then_n ?_
 replace hs := hs.sub (l := [(16, pt g16 0), (7, .bool true), (8, pt g8 0), (10, pt g10 0), (13, pt g13 0)]) (⟨rfl, rfl, rfl, rfl, rfl, trivial⟩)
 replace hs := hs.sub (l := [(7, .bool true), (8, pt g8 0), (10, pt g10 0), (13, pt g13 0), (16, pt g16 0)]) (⟨rfl, rfl, rfl, rfl, rfl, trivial⟩)
 replace hB : Bl w0 [(g16, .cells #[.int .i64 Q0, .int .i64 Q1, .int .i64 Q2] 31 (0, 0)), (g13, .cells #[.int .i64 S0, .int .i64 S1, .int .i64 S2] 31 (0, 0)), (g10, .cells #[.int .i64 cN, .int .i64 cD] 25 (0, 0)), (g8, .cells #[.int .i64 aN, .int .i64 aD] 25 (0, 0))] w := hB.keep [true, false, true, true, false, true]
 exact H g16  a w hs hB

theorem f15zn (K : Nat) (w0 : World) (g13 g10 g9 g8 : Nat) (aN aD bN bD cN cD S0 S1 S2 P0 P1 Q0 Q1 Q2 : Int) (hP : F.wireloomlaw02_mul.f K aN aD bN bD = some (P0, P1, 0)) (hQ : F.wireloomlaw02_mul.f K bN bD cN cD = some (Q0, Q1, Q2)) (hq : Q2 ≠ 0) (hb : bN = 0) (H : ∀ (g16 : Nat), ∀ a w, Sl 222 [(7, .bool true), (8, pt g8 0), (10, pt g10 0), (13, pt g13 0), (16, pt g16 0)] a → Bl w0 [(g16, .cells #[.int .i64 Q0, .int .i64 Q1, .int .i64 Q2] 31 (0, 0)), (g13, .cells #[.int .i64 S0, .int .i64 S1, .int .i64 S2] 31 (0, 0)), (g10, .cells #[.int .i64 cN, .int .i64 cD] 25 (0, 0)), (g8, .cells #[.int .i64 aN, .int .i64 aD] 25 (0, 0))] w → (restOf Tryd.f5 19).wp Tryd.prog (bodyPost Tryd.prog Tryd.f5 fun e w' => e = .returned (.bool true) ∧ Below w0.heap.size w0 w') a w) :
  ∀ a w, Sl 222 [(7, .bool true), (8, pt g8 0), (9, pt g9 0), (10, pt g10 0), (13, pt g13 0)] a → Bl w0 [(g13, .cells #[.int .i64 S0, .int .i64 S1, .int .i64 S2] 31 (0, 0)), (g10, .cells #[.int .i64 cN, .int .i64 cD] 25 (0, 0)), (g9, .cells #[.int .i64 bN, .int .i64 bD] 25 (0, 0)), (g8, .cells #[.int .i64 aN, .int .i64 aD] 25 (0, 0))] w → (restOf Tryd.f5 15).wp Tryd.prog (bodyPost Tryd.prog Tryd.f5 fun e w' => e = .returned (.bool true) ∧ Below w0.heap.size w0 w') a w := by
 intro a w hs hB
 conv => arg 2; whnf
 refine c_list ?_
 refine l_fit (v := .agg #[.int .i64 aN, .int .i64 aD]) (fit_free rfl (ok_load25 (k := 3) rfl rfl rfl rfl rfl)) rfl rfl hs hB (fun a w hs hB => ?_)
 refine l_fit (v := .agg #[.int .i64 bN, .int .i64 bD]) (fit_free rfl (ok_load25 (k := 2) rfl rfl rfl rfl rfl)) rfl rfl hs hB (fun a w hs hB => ?_)
 refine l_fit (v := .agg #[.int .i64 P0, .int .i64 P1, .int .i64 0]) (fit_free rfl (ok_call (args := #[.agg #[.int .i64 aN, .int .i64 aD], .agg #[.int .i64 bN, .int .i64 bD]]) rfl Tryd.func15 (by kernel_rfl) rfl rfl (viaB fun w => F.wireloomlaw02_mul.calls K _ _ _ _ _ _ _ w hP))) rfl rfl hs hB (fun a w hs hB => ?_)
 refine l_alloc31 rfl rfl rfl rfl hs hB (fun g15 a w hs hB => ?_)
 refine l_store31 (k := 0) (cs' := #[.int .i64 P0, .int .i64 P1, .int .i64 0]) rfl rfl rfl rfl rfl rfl rfl rfl hs hB (fun w hB => ?_)
 replace hB : Bl w0 [(g15, .cells #[.int .i64 P0, .int .i64 P1, .int .i64 0] 31 (0, 0)), (g13, .cells #[.int .i64 S0, .int .i64 S1, .int .i64 S2] 31 (0, 0)), (g10, .cells #[.int .i64 cN, .int .i64 cD] 25 (0, 0)), (g9, .cells #[.int .i64 bN, .int .i64 bD] 25 (0, 0)), (g8, .cells #[.int .i64 aN, .int .i64 aD] 25 (0, 0))] w := hB
 refine l_nil ?_
 replace hs := hs.sub (l := [(15, pt g15 0), (7, .bool true), (8, pt g8 0), (9, pt g9 0), (10, pt g10 0), (13, pt g13 0)]) (⟨rfl, rfl, rfl, rfl, rfl, rfl, trivial⟩)
 refine c_list ?_
 refine l_fit (v := .agg #[.int .i64 bN, .int .i64 bD]) (fit_free rfl (ok_load25 (k := 3) rfl rfl rfl rfl rfl)) rfl rfl hs hB (fun a w hs hB => ?_)
 refine l_fit (v := .agg #[.int .i64 cN, .int .i64 cD]) (fit_free rfl (ok_load25 (k := 2) rfl rfl rfl rfl rfl)) rfl rfl hs hB (fun a w hs hB => ?_)
 refine l_fit (v := .agg #[.int .i64 Q0, .int .i64 Q1, .int .i64 Q2]) (fit_free rfl (ok_call (args := #[.agg #[.int .i64 bN, .int .i64 bD], .agg #[.int .i64 cN, .int .i64 cD]]) rfl Tryd.func15 (by kernel_rfl) rfl rfl (viaB fun w => F.wireloomlaw02_mul.calls K _ _ _ _ _ _ _ w hQ))) rfl rfl hs hB (fun a w hs hB => ?_)
 refine l_alloc31 rfl rfl rfl rfl hs hB (fun g16 a w hs hB => ?_)
 refine l_store31 (k := 0) (cs' := #[.int .i64 Q0, .int .i64 Q1, .int .i64 Q2]) rfl rfl rfl rfl rfl rfl rfl rfl hs hB (fun w hB => ?_)
 replace hB : Bl w0 [(g16, .cells #[.int .i64 Q0, .int .i64 Q1, .int .i64 Q2] 31 (0, 0)), (g15, .cells #[.int .i64 P0, .int .i64 P1, .int .i64 0] 31 (0, 0)), (g13, .cells #[.int .i64 S0, .int .i64 S1, .int .i64 S2] 31 (0, 0)), (g10, .cells #[.int .i64 cN, .int .i64 cD] 25 (0, 0)), (g9, .cells #[.int .i64 bN, .int .i64 bD] 25 (0, 0)), (g8, .cells #[.int .i64 aN, .int .i64 aD] 25 (0, 0))] w := hB
 refine l_nil ?_
 replace hs := hs.sub (l := [(16, pt g16 0), (15, pt g15 0), (7, .bool true), (8, pt g8 0), (9, pt g9 0), (10, pt g10 0), (13, pt g13 0)]) (⟨rfl, rfl, rfl, rfl, rfl, rfl, rfl, trivial⟩)
 refine wp_seq ?_
 refine wp_seq ?_
 replace hs := hs.sub (l := [(16, pt g16 0), (15, pt g15 0), (7, .bool true), (8, pt g8 0), (9, pt g9 0), (10, pt g10 0), (13, pt g13 0)]) (⟨rfl, rfl, rfl, rfl, rfl, rfl, rfl, trivial⟩)
 refine conf_region (n := 222) (sl := [(16, pt g16 0), (15, pt g15 0), (7, .bool true), (8, pt g8 0), (9, pt g9 0), (10, pt g10 0), (13, pt g13 0)]) (vs := [pt g15 2, .int .i64 0, .bool true, .bool true, pt g9 0, .int .i64 bN, .bool false, .bool false, .bool false, undef, undef, undef, undef, undef, undef, undef, undef, undef, undef, .bool false, .bool false, pt g15 2, .int .i64 0, .bool true, .bool true, pt g16 2, .int .i64 Q2, .bool false, .bool false, .bool false, undef, undef, undef, undef, undef, undef, undef, undef, undef, .bool false, .bool false]) (B := Bl w0 [(g16, .cells #[.int .i64 Q0, .int .i64 Q1, .int .i64 Q2] 31 (0, 0)), (g15, .cells #[.int .i64 P0, .int .i64 P1, .int .i64 0] 31 (0, 0)), (g13, .cells #[.int .i64 S0, .int .i64 S1, .int .i64 S2] 31 (0, 0)), (g10, .cells #[.int .i64 cN, .int .i64 cD] 25 (0, 0)), (g9, .cells #[.int .i64 bN, .int .i64 bD] 25 (0, 0)), (g8, .cells #[.int .i64 aN, .int .i64 aD] 25 (0, 0))]) (by kernel_rfl) [16, 15, 7, 8, 9, 10, 13] rfl (by kernel_rfl) rfl (AllFitL.all ⟨fit_free rfl (ok_fieldAddr31_1 rfl rfl),
   fit_free rfl (ok_load29 (k := 1) rfl rfl rfl rfl),
   fit_free rfl (ok_eq29 rfl rfl rfl (by decide)),
   fit_free rfl (ok_move rfl rfl),
   fit_on rfl rfl rfl (ok_fieldAddr25_0 rfl rfl),
   fit_on rfl rfl rfl (ok_load3 (k := 4) rfl rfl rfl rfl),
   fit_on rfl rfl rfl (ok_neq3 rfl rfl rfl (by simp [hb])),
   fit_free rfl (ok_pick_t rfl rfl rfl),
   fit_free rfl (ok_move rfl rfl),
   fit_off rfl rfl rfl rfl,
   fit_off rfl rfl rfl rfl,
   fit_off rfl rfl rfl rfl,
   fit_off rfl rfl rfl rfl,
   fit_off rfl rfl rfl rfl,
   fit_off rfl rfl rfl rfl,
   fit_off rfl rfl rfl rfl,
   fit_off rfl rfl rfl rfl,
   fit_off rfl rfl rfl rfl,
   fit_off rfl rfl rfl rfl,
   fit_free rfl (ok_pick_f rfl rfl rfl),
   fit_free rfl (ok_move rfl rfl),
   fit_on rfl rfl rfl (ok_fieldAddr31_1 rfl rfl),
   fit_on rfl rfl rfl (ok_load29 (k := 1) rfl rfl rfl rfl),
   fit_on rfl rfl rfl (ok_eq29 rfl rfl rfl (by decide)),
   fit_on rfl rfl rfl (ok_move rfl rfl),
   fit_on rfl rfl rfl (ok_fieldAddr31_1 rfl rfl),
   fit_on rfl rfl rfl (ok_load29 (k := 0) rfl rfl rfl rfl),
   fit_on rfl rfl rfl (ok_eq29 rfl rfl rfl (decide_eq_false hq)),
   fit_on rfl rfl rfl (ok_pick_t rfl rfl rfl),
   fit_on rfl rfl rfl (ok_move rfl rfl),
   fit_off rfl rfl rfl rfl,
   fit_off rfl rfl rfl rfl,
   fit_off rfl rfl rfl rfl,
   fit_off rfl rfl rfl rfl,
   fit_off rfl rfl rfl rfl,
   fit_off rfl rfl rfl rfl,
   fit_off rfl rfl rfl rfl,
   fit_off rfl rfl rfl rfl,
   fit_off rfl rfl rfl rfl,
   fit_on rfl rfl rfl (ok_pick_f rfl rfl rfl),
   fit_free rfl (ok_pick_f rfl rfl rfl),
   trivial⟩) hs hB.drew (fun a w hs hB => ?_)
 replace hs := hs.sub (l := [(180, .bool false), (16, pt g16 0), (7, .bool true), (8, pt g8 0), (10, pt g10 0), (13, pt g13 0)]) (⟨rfl, rfl, rfl, rfl, rfl, rfl, trivial⟩)
 refine then_n ?_
 replace hs := hs.sub (l := [(180, .bool false), (16, pt g16 0), (7, .bool true), (8, pt g8 0), (10, pt g10 0), (13, pt g13 0)]) (⟨rfl, rfl, rfl, rfl, rfl, rfl, trivial⟩)
 refine c_false hs rfl ?_
 refine wp_skip ?_
 refine then_n ?_
 replace hs := hs.sub (l := [(16, pt g16 0), (7, .bool true), (8, pt g8 0), (10, pt g10 0), (13, pt g13 0)]) (⟨rfl, rfl, rfl, rfl, rfl, trivial⟩)
 replace hs := hs.sub (l := [(7, .bool true), (8, pt g8 0), (10, pt g10 0), (13, pt g13 0), (16, pt g16 0)]) (⟨rfl, rfl, rfl, rfl, rfl, trivial⟩)
 replace hB : Bl w0 [(g16, .cells #[.int .i64 Q0, .int .i64 Q1, .int .i64 Q2] 31 (0, 0)), (g13, .cells #[.int .i64 S0, .int .i64 S1, .int .i64 S2] 31 (0, 0)), (g10, .cells #[.int .i64 cN, .int .i64 cD] 25 (0, 0)), (g8, .cells #[.int .i64 aN, .int .i64 aD] 25 (0, 0))] w := hB.keep [true, false, true, true, false, true]
 exact H g16  a w hs hB

theorem f15zq (K : Nat) (w0 : World) (g13 g10 g9 g8 : Nat) (aN aD bN bD cN cD S0 S1 S2 P0 P1 Q0 Q1 X0 X1 X2 : Int) (hP : F.wireloomlaw02_mul.f K aN aD bN bD = some (P0, P1, 0)) (hQ : F.wireloomlaw02_mul.f K bN bD cN cD = some (Q0, Q1, 0)) (hX : F.wireloomlaw02_mul.f K P0 P1 cN cD = some (X0, X1, X2)) (hY : F.wireloomlaw02_mul.f K aN aD Q0 Q1 = some (X0, X1, X2)) (hb : bN = 0) (H : ∀ (g16 : Nat), ∀ a w, Sl 222 [(7, .bool true), (8, pt g8 0), (10, pt g10 0), (13, pt g13 0), (16, pt g16 0)] a → Bl w0 [(g16, .cells #[.int .i64 Q0, .int .i64 Q1, .int .i64 0] 31 (0, 0)), (g13, .cells #[.int .i64 S0, .int .i64 S1, .int .i64 S2] 31 (0, 0)), (g10, .cells #[.int .i64 cN, .int .i64 cD] 25 (0, 0)), (g8, .cells #[.int .i64 aN, .int .i64 aD] 25 (0, 0))] w → (restOf Tryd.f5 19).wp Tryd.prog (bodyPost Tryd.prog Tryd.f5 fun e w' => e = .returned (.bool true) ∧ Below w0.heap.size w0 w') a w) :
  ∀ a w, Sl 222 [(7, .bool true), (8, pt g8 0), (9, pt g9 0), (10, pt g10 0), (13, pt g13 0)] a → Bl w0 [(g13, .cells #[.int .i64 S0, .int .i64 S1, .int .i64 S2] 31 (0, 0)), (g10, .cells #[.int .i64 cN, .int .i64 cD] 25 (0, 0)), (g9, .cells #[.int .i64 bN, .int .i64 bD] 25 (0, 0)), (g8, .cells #[.int .i64 aN, .int .i64 aD] 25 (0, 0))] w → (restOf Tryd.f5 15).wp Tryd.prog (bodyPost Tryd.prog Tryd.f5 fun e w' => e = .returned (.bool true) ∧ Below w0.heap.size w0 w') a w := by
 intro a w hs hB
 conv => arg 2; whnf
 refine c_list ?_
 refine l_fit (v := .agg #[.int .i64 aN, .int .i64 aD]) (fit_free rfl (ok_load25 (k := 3) rfl rfl rfl rfl rfl)) rfl rfl hs hB (fun a w hs hB => ?_)
 refine l_fit (v := .agg #[.int .i64 bN, .int .i64 bD]) (fit_free rfl (ok_load25 (k := 2) rfl rfl rfl rfl rfl)) rfl rfl hs hB (fun a w hs hB => ?_)
 refine l_fit (v := .agg #[.int .i64 P0, .int .i64 P1, .int .i64 0]) (fit_free rfl (ok_call (args := #[.agg #[.int .i64 aN, .int .i64 aD], .agg #[.int .i64 bN, .int .i64 bD]]) rfl Tryd.func15 (by kernel_rfl) rfl rfl (viaB fun w => F.wireloomlaw02_mul.calls K _ _ _ _ _ _ _ w hP))) rfl rfl hs hB (fun a w hs hB => ?_)
 refine l_alloc31 rfl rfl rfl rfl hs hB (fun g15 a w hs hB => ?_)
 refine l_store31 (k := 0) (cs' := #[.int .i64 P0, .int .i64 P1, .int .i64 0]) rfl rfl rfl rfl rfl rfl rfl rfl hs hB (fun w hB => ?_)
 replace hB : Bl w0 [(g15, .cells #[.int .i64 P0, .int .i64 P1, .int .i64 0] 31 (0, 0)), (g13, .cells #[.int .i64 S0, .int .i64 S1, .int .i64 S2] 31 (0, 0)), (g10, .cells #[.int .i64 cN, .int .i64 cD] 25 (0, 0)), (g9, .cells #[.int .i64 bN, .int .i64 bD] 25 (0, 0)), (g8, .cells #[.int .i64 aN, .int .i64 aD] 25 (0, 0))] w := hB
 refine l_nil ?_
 replace hs := hs.sub (l := [(15, pt g15 0), (7, .bool true), (8, pt g8 0), (9, pt g9 0), (10, pt g10 0), (13, pt g13 0)]) (⟨rfl, rfl, rfl, rfl, rfl, rfl, trivial⟩)
 refine c_list ?_
 refine l_fit (v := .agg #[.int .i64 bN, .int .i64 bD]) (fit_free rfl (ok_load25 (k := 3) rfl rfl rfl rfl rfl)) rfl rfl hs hB (fun a w hs hB => ?_)
 refine l_fit (v := .agg #[.int .i64 cN, .int .i64 cD]) (fit_free rfl (ok_load25 (k := 2) rfl rfl rfl rfl rfl)) rfl rfl hs hB (fun a w hs hB => ?_)
 refine l_fit (v := .agg #[.int .i64 Q0, .int .i64 Q1, .int .i64 0]) (fit_free rfl (ok_call (args := #[.agg #[.int .i64 bN, .int .i64 bD], .agg #[.int .i64 cN, .int .i64 cD]]) rfl Tryd.func15 (by kernel_rfl) rfl rfl (viaB fun w => F.wireloomlaw02_mul.calls K _ _ _ _ _ _ _ w hQ))) rfl rfl hs hB (fun a w hs hB => ?_)
 refine l_alloc31 rfl rfl rfl rfl hs hB (fun g16 a w hs hB => ?_)
 refine l_store31 (k := 0) (cs' := #[.int .i64 Q0, .int .i64 Q1, .int .i64 0]) rfl rfl rfl rfl rfl rfl rfl rfl hs hB (fun w hB => ?_)
 replace hB : Bl w0 [(g16, .cells #[.int .i64 Q0, .int .i64 Q1, .int .i64 0] 31 (0, 0)), (g15, .cells #[.int .i64 P0, .int .i64 P1, .int .i64 0] 31 (0, 0)), (g13, .cells #[.int .i64 S0, .int .i64 S1, .int .i64 S2] 31 (0, 0)), (g10, .cells #[.int .i64 cN, .int .i64 cD] 25 (0, 0)), (g9, .cells #[.int .i64 bN, .int .i64 bD] 25 (0, 0)), (g8, .cells #[.int .i64 aN, .int .i64 aD] 25 (0, 0))] w := hB
 refine l_nil ?_
 replace hs := hs.sub (l := [(16, pt g16 0), (15, pt g15 0), (7, .bool true), (8, pt g8 0), (9, pt g9 0), (10, pt g10 0), (13, pt g13 0)]) (⟨rfl, rfl, rfl, rfl, rfl, rfl, rfl, trivial⟩)
 refine wp_seq ?_
 refine wp_seq ?_
 replace hs := hs.sub (l := [(16, pt g16 0), (15, pt g15 0), (7, .bool true), (8, pt g8 0), (9, pt g9 0), (10, pt g10 0), (13, pt g13 0)]) (⟨rfl, rfl, rfl, rfl, rfl, rfl, rfl, trivial⟩)
 refine conf_region (n := 222) (sl := [(16, pt g16 0), (15, pt g15 0), (7, .bool true), (8, pt g8 0), (9, pt g9 0), (10, pt g10 0), (13, pt g13 0)]) (vs := [pt g15 2, .int .i64 0, .bool true, .bool true, pt g9 0, .int .i64 bN, .bool false, .bool false, .bool false, undef, undef, undef, undef, undef, undef, undef, undef, undef, undef, .bool false, .bool false, pt g15 2, .int .i64 0, .bool true, .bool true, pt g16 2, .int .i64 0, .bool true, .bool true, .bool true, pt g15 0, .agg #[.int .i64 P0, .int .i64 P1], .agg #[.int .i64 cN, .int .i64 cD], .agg #[.int .i64 X0, .int .i64 X1, .int .i64 X2], .agg #[.int .i64 aN, .int .i64 aD], pt g16 0, .agg #[.int .i64 Q0, .int .i64 Q1], .agg #[.int .i64 X0, .int .i64 X1, .int .i64 X2], .bool false, .bool false, .bool false]) (B := Bl w0 [(g16, .cells #[.int .i64 Q0, .int .i64 Q1, .int .i64 0] 31 (0, 0)), (g15, .cells #[.int .i64 P0, .int .i64 P1, .int .i64 0] 31 (0, 0)), (g13, .cells #[.int .i64 S0, .int .i64 S1, .int .i64 S2] 31 (0, 0)), (g10, .cells #[.int .i64 cN, .int .i64 cD] 25 (0, 0)), (g9, .cells #[.int .i64 bN, .int .i64 bD] 25 (0, 0)), (g8, .cells #[.int .i64 aN, .int .i64 aD] 25 (0, 0))]) (by kernel_rfl) [16, 15, 7, 8, 9, 10, 13] rfl (by kernel_rfl) rfl (AllFitL.all ⟨fit_free rfl (ok_fieldAddr31_1 rfl rfl),
   fit_free rfl (ok_load29 (k := 1) rfl rfl rfl rfl),
   fit_free rfl (ok_eq29 rfl rfl rfl (by decide)),
   fit_free rfl (ok_move rfl rfl),
   fit_on rfl rfl rfl (ok_fieldAddr25_0 rfl rfl),
   fit_on rfl rfl rfl (ok_load3 (k := 4) rfl rfl rfl rfl),
   fit_on rfl rfl rfl (ok_neq3 rfl rfl rfl (by simp [hb])),
   fit_free rfl (ok_pick_t rfl rfl rfl),
   fit_free rfl (ok_move rfl rfl),
   fit_off rfl rfl rfl rfl,
   fit_off rfl rfl rfl rfl,
   fit_off rfl rfl rfl rfl,
   fit_off rfl rfl rfl rfl,
   fit_off rfl rfl rfl rfl,
   fit_off rfl rfl rfl rfl,
   fit_off rfl rfl rfl rfl,
   fit_off rfl rfl rfl rfl,
   fit_off rfl rfl rfl rfl,
   fit_off rfl rfl rfl rfl,
   fit_free rfl (ok_pick_f rfl rfl rfl),
   fit_free rfl (ok_move rfl rfl),
   fit_on rfl rfl rfl (ok_fieldAddr31_1 rfl rfl),
   fit_on rfl rfl rfl (ok_load29 (k := 1) rfl rfl rfl rfl),
   fit_on rfl rfl rfl (ok_eq29 rfl rfl rfl (by decide)),
   fit_on rfl rfl rfl (ok_move rfl rfl),
   fit_on rfl rfl rfl (ok_fieldAddr31_1 rfl rfl),
   fit_on rfl rfl rfl (ok_load29 (k := 0) rfl rfl rfl rfl),
   fit_on rfl rfl rfl (ok_eq29 rfl rfl rfl (by decide)),
   fit_on rfl rfl rfl (ok_pick_t rfl rfl rfl),
   fit_on rfl rfl rfl (ok_move rfl rfl),
   fit_on rfl rfl rfl (ok_fieldAddr31_0 rfl rfl),
   fit_on rfl rfl rfl (ok_load25 (k := 1) rfl rfl rfl rfl rfl),
   fit_on rfl rfl rfl (ok_load25 (k := 3) rfl rfl rfl rfl rfl),
   fit_on rfl rfl rfl (ok_call (args := #[.agg #[.int .i64 P0, .int .i64 P1], .agg #[.int .i64 cN, .int .i64 cD]]) rfl Tryd.func15 (by kernel_rfl) rfl rfl (viaB fun w => F.wireloomlaw02_mul.calls K _ _ _ _ _ _ _ w hX)),
   fit_on rfl rfl rfl (ok_load25 (k := 5) rfl rfl rfl rfl rfl),
   fit_on rfl rfl rfl (ok_fieldAddr31_0 rfl rfl),
   fit_on rfl rfl rfl (ok_load25 (k := 0) rfl rfl rfl rfl rfl),
   fit_on rfl rfl rfl (ok_call (args := #[.agg #[.int .i64 aN, .int .i64 aD], .agg #[.int .i64 Q0, .int .i64 Q1]]) rfl Tryd.func15 (by kernel_rfl) rfl rfl (viaB fun w => F.wireloomlaw02_mul.calls K _ _ _ _ _ _ _ w hY)),
   fit_on rfl rfl rfl (ok_neq31 rfl rfl rfl (by simp)),
   fit_on rfl rfl rfl (ok_pick_t rfl rfl rfl),
   fit_free rfl (ok_pick_f rfl rfl rfl),
   trivial⟩) hs hB.drew (fun a w hs hB => ?_)
 replace hs := hs.sub (l := [(180, .bool false), (16, pt g16 0), (7, .bool true), (8, pt g8 0), (10, pt g10 0), (13, pt g13 0)]) (⟨rfl, rfl, rfl, rfl, rfl, rfl, trivial⟩)
 refine then_n ?_
 replace hs := hs.sub (l := [(180, .bool false), (16, pt g16 0), (7, .bool true), (8, pt g8 0), (10, pt g10 0), (13, pt g13 0)]) (⟨rfl, rfl, rfl, rfl, rfl, rfl, trivial⟩)
 refine c_false hs rfl ?_
 refine wp_skip ?_
 refine then_n ?_
 replace hs := hs.sub (l := [(16, pt g16 0), (7, .bool true), (8, pt g8 0), (10, pt g10 0), (13, pt g13 0)]) (⟨rfl, rfl, rfl, rfl, rfl, trivial⟩)
 replace hs := hs.sub (l := [(7, .bool true), (8, pt g8 0), (10, pt g10 0), (13, pt g13 0), (16, pt g16 0)]) (⟨rfl, rfl, rfl, rfl, rfl, trivial⟩)
 replace hB : Bl w0 [(g16, .cells #[.int .i64 Q0, .int .i64 Q1, .int .i64 0] 31 (0, 0)), (g13, .cells #[.int .i64 S0, .int .i64 S1, .int .i64 S2] 31 (0, 0)), (g10, .cells #[.int .i64 cN, .int .i64 cD] 25 (0, 0)), (g8, .cells #[.int .i64 aN, .int .i64 aD] 25 (0, 0))] w := hB.keep [true, false, true, true, false, true]
 exact H g16  a w hs hB

theorem f15bn (K : Nat) (w0 : World) (g13 g10 g9 g8 : Nat) (aN aD bN bD cN cD S0 S1 S2 P0 P1 Q0 Q1 Q2 : Int) (hP : F.wireloomlaw02_mul.f K aN aD bN bD = some (P0, P1, 0)) (hQ : F.wireloomlaw02_mul.f K bN bD cN cD = some (Q0, Q1, Q2)) (hq : Q2 ≠ 0) (hb : bN ≠ 0) (hV : F.wireloomlaw02_div.f K P0 P1 bN bD = some (aN, aD, 0)) (H : ∀ (g16 : Nat), ∀ a w, Sl 222 [(7, .bool true), (8, pt g8 0), (10, pt g10 0), (13, pt g13 0), (16, pt g16 0)] a → Bl w0 [(g16, .cells #[.int .i64 Q0, .int .i64 Q1, .int .i64 Q2] 31 (0, 0)), (g13, .cells #[.int .i64 S0, .int .i64 S1, .int .i64 S2] 31 (0, 0)), (g10, .cells #[.int .i64 cN, .int .i64 cD] 25 (0, 0)), (g8, .cells #[.int .i64 aN, .int .i64 aD] 25 (0, 0))] w → (restOf Tryd.f5 19).wp Tryd.prog (bodyPost Tryd.prog Tryd.f5 fun e w' => e = .returned (.bool true) ∧ Below w0.heap.size w0 w') a w) :
  ∀ a w, Sl 222 [(7, .bool true), (8, pt g8 0), (9, pt g9 0), (10, pt g10 0), (13, pt g13 0)] a → Bl w0 [(g13, .cells #[.int .i64 S0, .int .i64 S1, .int .i64 S2] 31 (0, 0)), (g10, .cells #[.int .i64 cN, .int .i64 cD] 25 (0, 0)), (g9, .cells #[.int .i64 bN, .int .i64 bD] 25 (0, 0)), (g8, .cells #[.int .i64 aN, .int .i64 aD] 25 (0, 0))] w → (restOf Tryd.f5 15).wp Tryd.prog (bodyPost Tryd.prog Tryd.f5 fun e w' => e = .returned (.bool true) ∧ Below w0.heap.size w0 w') a w := by
 intro a w hs hB
 conv => arg 2; whnf
 refine c_list ?_
 refine l_fit (v := .agg #[.int .i64 aN, .int .i64 aD]) (fit_free rfl (ok_load25 (k := 3) rfl rfl rfl rfl rfl)) rfl rfl hs hB (fun a w hs hB => ?_)
 refine l_fit (v := .agg #[.int .i64 bN, .int .i64 bD]) (fit_free rfl (ok_load25 (k := 2) rfl rfl rfl rfl rfl)) rfl rfl hs hB (fun a w hs hB => ?_)
 refine l_fit (v := .agg #[.int .i64 P0, .int .i64 P1, .int .i64 0]) (fit_free rfl (ok_call (args := #[.agg #[.int .i64 aN, .int .i64 aD], .agg #[.int .i64 bN, .int .i64 bD]]) rfl Tryd.func15 (by kernel_rfl) rfl rfl (viaB fun w => F.wireloomlaw02_mul.calls K _ _ _ _ _ _ _ w hP))) rfl rfl hs hB (fun a w hs hB => ?_)
 refine l_alloc31 rfl rfl rfl rfl hs hB (fun g15 a w hs hB => ?_)
 refine l_store31 (k := 0) (cs' := #[.int .i64 P0, .int .i64 P1, .int .i64 0]) rfl rfl rfl rfl rfl rfl rfl rfl hs hB (fun w hB => ?_)
 replace hB : Bl w0 [(g15, .cells #[.int .i64 P0, .int .i64 P1, .int .i64 0] 31 (0, 0)), (g13, .cells #[.int .i64 S0, .int .i64 S1, .int .i64 S2] 31 (0, 0)), (g10, .cells #[.int .i64 cN, .int .i64 cD] 25 (0, 0)), (g9, .cells #[.int .i64 bN, .int .i64 bD] 25 (0, 0)), (g8, .cells #[.int .i64 aN, .int .i64 aD] 25 (0, 0))] w := hB
 refine l_nil ?_
 replace hs := hs.sub (l := [(15, pt g15 0), (7, .bool true), (8, pt g8 0), (9, pt g9 0), (10, pt g10 0), (13, pt g13 0)]) (⟨rfl, rfl, rfl, rfl, rfl, rfl, trivial⟩)
 refine c_list ?_
 refine l_fit (v := .agg #[.int .i64 bN, .int .i64 bD]) (fit_free rfl (ok_load25 (k := 3) rfl rfl rfl rfl rfl)) rfl rfl hs hB (fun a w hs hB => ?_)
 refine l_fit (v := .agg #[.int .i64 cN, .int .i64 cD]) (fit_free rfl (ok_load25 (k := 2) rfl rfl rfl rfl rfl)) rfl rfl hs hB (fun a w hs hB => ?_)
 refine l_fit (v := .agg #[.int .i64 Q0, .int .i64 Q1, .int .i64 Q2]) (fit_free rfl (ok_call (args := #[.agg #[.int .i64 bN, .int .i64 bD], .agg #[.int .i64 cN, .int .i64 cD]]) rfl Tryd.func15 (by kernel_rfl) rfl rfl (viaB fun w => F.wireloomlaw02_mul.calls K _ _ _ _ _ _ _ w hQ))) rfl rfl hs hB (fun a w hs hB => ?_)
 refine l_alloc31 rfl rfl rfl rfl hs hB (fun g16 a w hs hB => ?_)
 refine l_store31 (k := 0) (cs' := #[.int .i64 Q0, .int .i64 Q1, .int .i64 Q2]) rfl rfl rfl rfl rfl rfl rfl rfl hs hB (fun w hB => ?_)
 replace hB : Bl w0 [(g16, .cells #[.int .i64 Q0, .int .i64 Q1, .int .i64 Q2] 31 (0, 0)), (g15, .cells #[.int .i64 P0, .int .i64 P1, .int .i64 0] 31 (0, 0)), (g13, .cells #[.int .i64 S0, .int .i64 S1, .int .i64 S2] 31 (0, 0)), (g10, .cells #[.int .i64 cN, .int .i64 cD] 25 (0, 0)), (g9, .cells #[.int .i64 bN, .int .i64 bD] 25 (0, 0)), (g8, .cells #[.int .i64 aN, .int .i64 aD] 25 (0, 0))] w := hB
 refine l_nil ?_
 replace hs := hs.sub (l := [(16, pt g16 0), (15, pt g15 0), (7, .bool true), (8, pt g8 0), (9, pt g9 0), (10, pt g10 0), (13, pt g13 0)]) (⟨rfl, rfl, rfl, rfl, rfl, rfl, rfl, trivial⟩)
 refine wp_seq ?_
 refine wp_seq ?_
 replace hs := hs.sub (l := [(16, pt g16 0), (15, pt g15 0), (7, .bool true), (8, pt g8 0), (9, pt g9 0), (10, pt g10 0), (13, pt g13 0)]) (⟨rfl, rfl, rfl, rfl, rfl, rfl, rfl, trivial⟩)
 refine conf_region (n := 222) (sl := [(16, pt g16 0), (15, pt g15 0), (7, .bool true), (8, pt g8 0), (9, pt g9 0), (10, pt g10 0), (13, pt g13 0)]) (vs := [pt g15 2, .int .i64 0, .bool true, .bool true, pt g9 0, .int .i64 bN, .bool true, .bool true, .bool true, pt g15 0, .agg #[.int .i64 P0, .int .i64 P1], .agg #[.int .i64 bN, .int .i64 bD], .agg #[.int .i64 aN, .int .i64 aD, .int .i64 0], pt g8 0, .int .i64 aN, pt g8 1, .int .i64 aD, .agg #[.int .i64 aN, .int .i64 aD, .int .i64 0], .bool false, .bool false, .bool false, pt g15 2, .int .i64 0, .bool true, .bool true, pt g16 2, .int .i64 Q2, .bool false, .bool false, .bool false, undef, undef, undef, undef, undef, undef, undef, undef, undef, .bool false, .bool false]) (B := Bl w0 [(g16, .cells #[.int .i64 Q0, .int .i64 Q1, .int .i64 Q2] 31 (0, 0)), (g15, .cells #[.int .i64 P0, .int .i64 P1, .int .i64 0] 31 (0, 0)), (g13, .cells #[.int .i64 S0, .int .i64 S1, .int .i64 S2] 31 (0, 0)), (g10, .cells #[.int .i64 cN, .int .i64 cD] 25 (0, 0)), (g9, .cells #[.int .i64 bN, .int .i64 bD] 25 (0, 0)), (g8, .cells #[.int .i64 aN, .int .i64 aD] 25 (0, 0))]) (by kernel_rfl) [16, 15, 7, 8, 9, 10, 13] rfl (by kernel_rfl) rfl (AllFitL.all ⟨fit_free rfl (ok_fieldAddr31_1 rfl rfl),
   fit_free rfl (ok_load29 (k := 1) rfl rfl rfl rfl),
   fit_free rfl (ok_eq29 rfl rfl rfl (by decide)),
   fit_free rfl (ok_move rfl rfl),
   fit_on rfl rfl rfl (ok_fieldAddr25_0 rfl rfl),
   fit_on rfl rfl rfl (ok_load3 (k := 4) rfl rfl rfl rfl),
   fit_on rfl rfl rfl (ok_neq3 rfl rfl rfl (decide_eq_true hb)),
   fit_free rfl (ok_pick_t rfl rfl rfl),
   fit_free rfl (ok_move rfl rfl),
   fit_on rfl rfl rfl (ok_fieldAddr31_0 rfl rfl),
   fit_on rfl rfl rfl (ok_load25 (k := 1) rfl rfl rfl rfl rfl),
   fit_on rfl rfl rfl (ok_load25 (k := 4) rfl rfl rfl rfl rfl),
   fit_on rfl rfl rfl (ok_call (args := #[.agg #[.int .i64 P0, .int .i64 P1], .agg #[.int .i64 bN, .int .i64 bD]]) rfl Tryd.func22 (by kernel_rfl) rfl rfl (viaB fun w => F.wireloomlaw02_div.calls K _ _ _ _ _ _ _ w hV)),
   fit_on rfl rfl rfl (ok_fieldAddr25_0 rfl rfl),
   fit_on rfl rfl rfl (ok_load3 (k := 5) rfl rfl rfl rfl),
   fit_on rfl rfl rfl (ok_fieldAddr25_1 rfl rfl),
   fit_on rfl rfl rfl (ok_load3 (k := 5) rfl rfl rfl rfl),
   fit_on rfl rfl rfl (ok_call (args := #[.int .i64 aN, .int .i64 aD]) rfl Tryd.func16 (by kernel_rfl) rfl rfl (viaB fun w => F.wireloomlaw02_is.calls _ _ _ _ _ w rfl)),
   fit_on rfl rfl rfl (ok_neq31 rfl rfl rfl (by simp)),
   fit_free rfl (ok_pick_t rfl rfl rfl),
   fit_free rfl (ok_move rfl rfl),
   fit_on rfl rfl rfl (ok_fieldAddr31_1 rfl rfl),
   fit_on rfl rfl rfl (ok_load29 (k := 1) rfl rfl rfl rfl),
   fit_on rfl rfl rfl (ok_eq29 rfl rfl rfl (by decide)),
   fit_on rfl rfl rfl (ok_move rfl rfl),
   fit_on rfl rfl rfl (ok_fieldAddr31_1 rfl rfl),
   fit_on rfl rfl rfl (ok_load29 (k := 0) rfl rfl rfl rfl),
   fit_on rfl rfl rfl (ok_eq29 rfl rfl rfl (decide_eq_false hq)),
   fit_on rfl rfl rfl (ok_pick_t rfl rfl rfl),
   fit_on rfl rfl rfl (ok_move rfl rfl),
   fit_off rfl rfl rfl rfl,
   fit_off rfl rfl rfl rfl,
   fit_off rfl rfl rfl rfl,
   fit_off rfl rfl rfl rfl,
   fit_off rfl rfl rfl rfl,
   fit_off rfl rfl rfl rfl,
   fit_off rfl rfl rfl rfl,
   fit_off rfl rfl rfl rfl,
   fit_off rfl rfl rfl rfl,
   fit_on rfl rfl rfl (ok_pick_f rfl rfl rfl),
   fit_free rfl (ok_pick_f rfl rfl rfl),
   trivial⟩) hs hB.drew (fun a w hs hB => ?_)
 replace hs := hs.sub (l := [(180, .bool false), (16, pt g16 0), (7, .bool true), (8, pt g8 0), (10, pt g10 0), (13, pt g13 0)]) (⟨rfl, rfl, rfl, rfl, rfl, rfl, trivial⟩)
 refine then_n ?_
 replace hs := hs.sub (l := [(180, .bool false), (16, pt g16 0), (7, .bool true), (8, pt g8 0), (10, pt g10 0), (13, pt g13 0)]) (⟨rfl, rfl, rfl, rfl, rfl, rfl, trivial⟩)
 refine c_false hs rfl ?_
 refine wp_skip ?_
 refine then_n ?_
 replace hs := hs.sub (l := [(16, pt g16 0), (7, .bool true), (8, pt g8 0), (10, pt g10 0), (13, pt g13 0)]) (⟨rfl, rfl, rfl, rfl, rfl, trivial⟩)
 replace hs := hs.sub (l := [(7, .bool true), (8, pt g8 0), (10, pt g10 0), (13, pt g13 0), (16, pt g16 0)]) (⟨rfl, rfl, rfl, rfl, rfl, trivial⟩)
 replace hB : Bl w0 [(g16, .cells #[.int .i64 Q0, .int .i64 Q1, .int .i64 Q2] 31 (0, 0)), (g13, .cells #[.int .i64 S0, .int .i64 S1, .int .i64 S2] 31 (0, 0)), (g10, .cells #[.int .i64 cN, .int .i64 cD] 25 (0, 0)), (g8, .cells #[.int .i64 aN, .int .i64 aD] 25 (0, 0))] w := hB.keep [true, false, true, true, false, true]
 exact H g16  a w hs hB

theorem f15bq (K : Nat) (w0 : World) (g13 g10 g9 g8 : Nat) (aN aD bN bD cN cD S0 S1 S2 P0 P1 Q0 Q1 X0 X1 X2 : Int) (hP : F.wireloomlaw02_mul.f K aN aD bN bD = some (P0, P1, 0)) (hQ : F.wireloomlaw02_mul.f K bN bD cN cD = some (Q0, Q1, 0)) (hX : F.wireloomlaw02_mul.f K P0 P1 cN cD = some (X0, X1, X2)) (hY : F.wireloomlaw02_mul.f K aN aD Q0 Q1 = some (X0, X1, X2)) (hb : bN ≠ 0) (hV : F.wireloomlaw02_div.f K P0 P1 bN bD = some (aN, aD, 0)) (H : ∀ (g16 : Nat), ∀ a w, Sl 222 [(7, .bool true), (8, pt g8 0), (10, pt g10 0), (13, pt g13 0), (16, pt g16 0)] a → Bl w0 [(g16, .cells #[.int .i64 Q0, .int .i64 Q1, .int .i64 0] 31 (0, 0)), (g13, .cells #[.int .i64 S0, .int .i64 S1, .int .i64 S2] 31 (0, 0)), (g10, .cells #[.int .i64 cN, .int .i64 cD] 25 (0, 0)), (g8, .cells #[.int .i64 aN, .int .i64 aD] 25 (0, 0))] w → (restOf Tryd.f5 19).wp Tryd.prog (bodyPost Tryd.prog Tryd.f5 fun e w' => e = .returned (.bool true) ∧ Below w0.heap.size w0 w') a w) :
  ∀ a w, Sl 222 [(7, .bool true), (8, pt g8 0), (9, pt g9 0), (10, pt g10 0), (13, pt g13 0)] a → Bl w0 [(g13, .cells #[.int .i64 S0, .int .i64 S1, .int .i64 S2] 31 (0, 0)), (g10, .cells #[.int .i64 cN, .int .i64 cD] 25 (0, 0)), (g9, .cells #[.int .i64 bN, .int .i64 bD] 25 (0, 0)), (g8, .cells #[.int .i64 aN, .int .i64 aD] 25 (0, 0))] w → (restOf Tryd.f5 15).wp Tryd.prog (bodyPost Tryd.prog Tryd.f5 fun e w' => e = .returned (.bool true) ∧ Below w0.heap.size w0 w') a w := by
 intro a w hs hB
 conv => arg 2; whnf
 refine c_list ?_
 refine l_fit (v := .agg #[.int .i64 aN, .int .i64 aD]) (fit_free rfl (ok_load25 (k := 3) rfl rfl rfl rfl rfl)) rfl rfl hs hB (fun a w hs hB => ?_)
 refine l_fit (v := .agg #[.int .i64 bN, .int .i64 bD]) (fit_free rfl (ok_load25 (k := 2) rfl rfl rfl rfl rfl)) rfl rfl hs hB (fun a w hs hB => ?_)
 refine l_fit (v := .agg #[.int .i64 P0, .int .i64 P1, .int .i64 0]) (fit_free rfl (ok_call (args := #[.agg #[.int .i64 aN, .int .i64 aD], .agg #[.int .i64 bN, .int .i64 bD]]) rfl Tryd.func15 (by kernel_rfl) rfl rfl (viaB fun w => F.wireloomlaw02_mul.calls K _ _ _ _ _ _ _ w hP))) rfl rfl hs hB (fun a w hs hB => ?_)
 refine l_alloc31 rfl rfl rfl rfl hs hB (fun g15 a w hs hB => ?_)
 refine l_store31 (k := 0) (cs' := #[.int .i64 P0, .int .i64 P1, .int .i64 0]) rfl rfl rfl rfl rfl rfl rfl rfl hs hB (fun w hB => ?_)
 replace hB : Bl w0 [(g15, .cells #[.int .i64 P0, .int .i64 P1, .int .i64 0] 31 (0, 0)), (g13, .cells #[.int .i64 S0, .int .i64 S1, .int .i64 S2] 31 (0, 0)), (g10, .cells #[.int .i64 cN, .int .i64 cD] 25 (0, 0)), (g9, .cells #[.int .i64 bN, .int .i64 bD] 25 (0, 0)), (g8, .cells #[.int .i64 aN, .int .i64 aD] 25 (0, 0))] w := hB
 refine l_nil ?_
 replace hs := hs.sub (l := [(15, pt g15 0), (7, .bool true), (8, pt g8 0), (9, pt g9 0), (10, pt g10 0), (13, pt g13 0)]) (⟨rfl, rfl, rfl, rfl, rfl, rfl, trivial⟩)
 refine c_list ?_
 refine l_fit (v := .agg #[.int .i64 bN, .int .i64 bD]) (fit_free rfl (ok_load25 (k := 3) rfl rfl rfl rfl rfl)) rfl rfl hs hB (fun a w hs hB => ?_)
 refine l_fit (v := .agg #[.int .i64 cN, .int .i64 cD]) (fit_free rfl (ok_load25 (k := 2) rfl rfl rfl rfl rfl)) rfl rfl hs hB (fun a w hs hB => ?_)
 refine l_fit (v := .agg #[.int .i64 Q0, .int .i64 Q1, .int .i64 0]) (fit_free rfl (ok_call (args := #[.agg #[.int .i64 bN, .int .i64 bD], .agg #[.int .i64 cN, .int .i64 cD]]) rfl Tryd.func15 (by kernel_rfl) rfl rfl (viaB fun w => F.wireloomlaw02_mul.calls K _ _ _ _ _ _ _ w hQ))) rfl rfl hs hB (fun a w hs hB => ?_)
 refine l_alloc31 rfl rfl rfl rfl hs hB (fun g16 a w hs hB => ?_)
 refine l_store31 (k := 0) (cs' := #[.int .i64 Q0, .int .i64 Q1, .int .i64 0]) rfl rfl rfl rfl rfl rfl rfl rfl hs hB (fun w hB => ?_)
 replace hB : Bl w0 [(g16, .cells #[.int .i64 Q0, .int .i64 Q1, .int .i64 0] 31 (0, 0)), (g15, .cells #[.int .i64 P0, .int .i64 P1, .int .i64 0] 31 (0, 0)), (g13, .cells #[.int .i64 S0, .int .i64 S1, .int .i64 S2] 31 (0, 0)), (g10, .cells #[.int .i64 cN, .int .i64 cD] 25 (0, 0)), (g9, .cells #[.int .i64 bN, .int .i64 bD] 25 (0, 0)), (g8, .cells #[.int .i64 aN, .int .i64 aD] 25 (0, 0))] w := hB
 refine l_nil ?_
 replace hs := hs.sub (l := [(16, pt g16 0), (15, pt g15 0), (7, .bool true), (8, pt g8 0), (9, pt g9 0), (10, pt g10 0), (13, pt g13 0)]) (⟨rfl, rfl, rfl, rfl, rfl, rfl, rfl, trivial⟩)
 refine wp_seq ?_
 refine wp_seq ?_
 replace hs := hs.sub (l := [(16, pt g16 0), (15, pt g15 0), (7, .bool true), (8, pt g8 0), (9, pt g9 0), (10, pt g10 0), (13, pt g13 0)]) (⟨rfl, rfl, rfl, rfl, rfl, rfl, rfl, trivial⟩)
 refine conf_region (n := 222) (sl := [(16, pt g16 0), (15, pt g15 0), (7, .bool true), (8, pt g8 0), (9, pt g9 0), (10, pt g10 0), (13, pt g13 0)]) (vs := [pt g15 2, .int .i64 0, .bool true, .bool true, pt g9 0, .int .i64 bN, .bool true, .bool true, .bool true, pt g15 0, .agg #[.int .i64 P0, .int .i64 P1], .agg #[.int .i64 bN, .int .i64 bD], .agg #[.int .i64 aN, .int .i64 aD, .int .i64 0], pt g8 0, .int .i64 aN, pt g8 1, .int .i64 aD, .agg #[.int .i64 aN, .int .i64 aD, .int .i64 0], .bool false, .bool false, .bool false, pt g15 2, .int .i64 0, .bool true, .bool true, pt g16 2, .int .i64 0, .bool true, .bool true, .bool true, pt g15 0, .agg #[.int .i64 P0, .int .i64 P1], .agg #[.int .i64 cN, .int .i64 cD], .agg #[.int .i64 X0, .int .i64 X1, .int .i64 X2], .agg #[.int .i64 aN, .int .i64 aD], pt g16 0, .agg #[.int .i64 Q0, .int .i64 Q1], .agg #[.int .i64 X0, .int .i64 X1, .int .i64 X2], .bool false, .bool false, .bool false]) (B := Bl w0 [(g16, .cells #[.int .i64 Q0, .int .i64 Q1, .int .i64 0] 31 (0, 0)), (g15, .cells #[.int .i64 P0, .int .i64 P1, .int .i64 0] 31 (0, 0)), (g13, .cells #[.int .i64 S0, .int .i64 S1, .int .i64 S2] 31 (0, 0)), (g10, .cells #[.int .i64 cN, .int .i64 cD] 25 (0, 0)), (g9, .cells #[.int .i64 bN, .int .i64 bD] 25 (0, 0)), (g8, .cells #[.int .i64 aN, .int .i64 aD] 25 (0, 0))]) (by kernel_rfl) [16, 15, 7, 8, 9, 10, 13] rfl (by kernel_rfl) rfl (AllFitL.all ⟨fit_free rfl (ok_fieldAddr31_1 rfl rfl),
   fit_free rfl (ok_load29 (k := 1) rfl rfl rfl rfl),
   fit_free rfl (ok_eq29 rfl rfl rfl (by decide)),
   fit_free rfl (ok_move rfl rfl),
   fit_on rfl rfl rfl (ok_fieldAddr25_0 rfl rfl),
   fit_on rfl rfl rfl (ok_load3 (k := 4) rfl rfl rfl rfl),
   fit_on rfl rfl rfl (ok_neq3 rfl rfl rfl (decide_eq_true hb)),
   fit_free rfl (ok_pick_t rfl rfl rfl),
   fit_free rfl (ok_move rfl rfl),
   fit_on rfl rfl rfl (ok_fieldAddr31_0 rfl rfl),
   fit_on rfl rfl rfl (ok_load25 (k := 1) rfl rfl rfl rfl rfl),
   fit_on rfl rfl rfl (ok_load25 (k := 4) rfl rfl rfl rfl rfl),
   fit_on rfl rfl rfl (ok_call (args := #[.agg #[.int .i64 P0, .int .i64 P1], .agg #[.int .i64 bN, .int .i64 bD]]) rfl Tryd.func22 (by kernel_rfl) rfl rfl (viaB fun w => F.wireloomlaw02_div.calls K _ _ _ _ _ _ _ w hV)),
   fit_on rfl rfl rfl (ok_fieldAddr25_0 rfl rfl),
   fit_on rfl rfl rfl (ok_load3 (k := 5) rfl rfl rfl rfl),
   fit_on rfl rfl rfl (ok_fieldAddr25_1 rfl rfl),
   fit_on rfl rfl rfl (ok_load3 (k := 5) rfl rfl rfl rfl),
   fit_on rfl rfl rfl (ok_call (args := #[.int .i64 aN, .int .i64 aD]) rfl Tryd.func16 (by kernel_rfl) rfl rfl (viaB fun w => F.wireloomlaw02_is.calls _ _ _ _ _ w rfl)),
   fit_on rfl rfl rfl (ok_neq31 rfl rfl rfl (by simp)),
   fit_free rfl (ok_pick_t rfl rfl rfl),
   fit_free rfl (ok_move rfl rfl),
   fit_on rfl rfl rfl (ok_fieldAddr31_1 rfl rfl),
   fit_on rfl rfl rfl (ok_load29 (k := 1) rfl rfl rfl rfl),
   fit_on rfl rfl rfl (ok_eq29 rfl rfl rfl (by decide)),
   fit_on rfl rfl rfl (ok_move rfl rfl),
   fit_on rfl rfl rfl (ok_fieldAddr31_1 rfl rfl),
   fit_on rfl rfl rfl (ok_load29 (k := 0) rfl rfl rfl rfl),
   fit_on rfl rfl rfl (ok_eq29 rfl rfl rfl (by decide)),
   fit_on rfl rfl rfl (ok_pick_t rfl rfl rfl),
   fit_on rfl rfl rfl (ok_move rfl rfl),
   fit_on rfl rfl rfl (ok_fieldAddr31_0 rfl rfl),
   fit_on rfl rfl rfl (ok_load25 (k := 1) rfl rfl rfl rfl rfl),
   fit_on rfl rfl rfl (ok_load25 (k := 3) rfl rfl rfl rfl rfl),
   fit_on rfl rfl rfl (ok_call (args := #[.agg #[.int .i64 P0, .int .i64 P1], .agg #[.int .i64 cN, .int .i64 cD]]) rfl Tryd.func15 (by kernel_rfl) rfl rfl (viaB fun w => F.wireloomlaw02_mul.calls K _ _ _ _ _ _ _ w hX)),
   fit_on rfl rfl rfl (ok_load25 (k := 5) rfl rfl rfl rfl rfl),
   fit_on rfl rfl rfl (ok_fieldAddr31_0 rfl rfl),
   fit_on rfl rfl rfl (ok_load25 (k := 0) rfl rfl rfl rfl rfl),
   fit_on rfl rfl rfl (ok_call (args := #[.agg #[.int .i64 aN, .int .i64 aD], .agg #[.int .i64 Q0, .int .i64 Q1]]) rfl Tryd.func15 (by kernel_rfl) rfl rfl (viaB fun w => F.wireloomlaw02_mul.calls K _ _ _ _ _ _ _ w hY)),
   fit_on rfl rfl rfl (ok_neq31 rfl rfl rfl (by simp)),
   fit_on rfl rfl rfl (ok_pick_t rfl rfl rfl),
   fit_free rfl (ok_pick_f rfl rfl rfl),
   trivial⟩) hs hB.drew (fun a w hs hB => ?_)
 replace hs := hs.sub (l := [(180, .bool false), (16, pt g16 0), (7, .bool true), (8, pt g8 0), (10, pt g10 0), (13, pt g13 0)]) (⟨rfl, rfl, rfl, rfl, rfl, rfl, trivial⟩)
 refine then_n ?_
 replace hs := hs.sub (l := [(180, .bool false), (16, pt g16 0), (7, .bool true), (8, pt g8 0), (10, pt g10 0), (13, pt g13 0)]) (⟨rfl, rfl, rfl, rfl, rfl, rfl, trivial⟩)
 refine c_false hs rfl ?_
 refine wp_skip ?_
 refine then_n ?_
 replace hs := hs.sub (l := [(16, pt g16 0), (7, .bool true), (8, pt g8 0), (10, pt g10 0), (13, pt g13 0)]) (⟨rfl, rfl, rfl, rfl, rfl, trivial⟩)
 replace hs := hs.sub (l := [(7, .bool true), (8, pt g8 0), (10, pt g10 0), (13, pt g13 0), (16, pt g16 0)]) (⟨rfl, rfl, rfl, rfl, rfl, trivial⟩)
 replace hB : Bl w0 [(g16, .cells #[.int .i64 Q0, .int .i64 Q1, .int .i64 0] 31 (0, 0)), (g13, .cells #[.int .i64 S0, .int .i64 S1, .int .i64 S2] 31 (0, 0)), (g10, .cells #[.int .i64 cN, .int .i64 cD] 25 (0, 0)), (g8, .cells #[.int .i64 aN, .int .i64 aD] 25 (0, 0))] w := hB.keep [true, false, true, true, false, true]
 exact H g16  a w hs hB

theorem f11n (K : Nat) (w0 : World) (g10 g9 g8 : Nat) (aN aD bN bD cN cD S0 S1 T0 T1 S2 T2 : Int) (hS : F.wireloomlaw02_add.f K aN aD bN bD = some (S0, S1, S2)) (hT : F.wireloomlaw02_add.f K bN bD cN cD = some (T0, T1, T2)) (hs0 : S2 ≠ 0) (H : ∀ (g13 : Nat), ∀ a w, Sl 222 [(7, .bool true), (8, pt g8 0), (9, pt g9 0), (10, pt g10 0), (13, pt g13 0)] a → Bl w0 [(g13, .cells #[.int .i64 S0, .int .i64 S1, .int .i64 S2] 31 (0, 0)), (g10, .cells #[.int .i64 cN, .int .i64 cD] 25 (0, 0)), (g9, .cells #[.int .i64 bN, .int .i64 bD] 25 (0, 0)), (g8, .cells #[.int .i64 aN, .int .i64 aD] 25 (0, 0))] w → (restOf Tryd.f5 15).wp Tryd.prog (bodyPost Tryd.prog Tryd.f5 fun e w' => e = .returned (.bool true) ∧ Below w0.heap.size w0 w') a w) :
  ∀ a w, Sl 222 [(7, .bool true), (8, pt g8 0), (9, pt g9 0), (10, pt g10 0)] a → Bl w0 [(g10, .cells #[.int .i64 cN, .int .i64 cD] 25 (0, 0)), (g9, .cells #[.int .i64 bN, .int .i64 bD] 25 (0, 0)), (g8, .cells #[.int .i64 aN, .int .i64 aD] 25 (0, 0))] w → (restOf Tryd.f5 11).wp Tryd.prog (bodyPost Tryd.prog Tryd.f5 fun e w' => e = .returned (.bool true) ∧ Below w0.heap.size w0 w') a w := by
 intro a w hs hB
 conv => arg 2; whnf
 refine c_list ?_
 refine l_fit (v := .agg #[.int .i64 aN, .int .i64 aD]) (fit_free rfl (ok_load25 (k := 2) rfl rfl rfl rfl rfl)) rfl rfl hs hB (fun a w hs hB => ?_)
 refine l_fit (v := .agg #[.int .i64 bN, .int .i64 bD]) (fit_free rfl (ok_load25 (k := 1) rfl rfl rfl rfl rfl)) rfl rfl hs hB (fun a w hs hB => ?_)
 refine l_fit (v := .agg #[.int .i64 S0, .int .i64 S1, .int .i64 S2]) (fit_free rfl (ok_call (args := #[.agg #[.int .i64 aN, .int .i64 aD], .agg #[.int .i64 bN, .int .i64 bD]]) rfl Tryd.func14 (by kernel_rfl) rfl rfl (viaB fun w => F.wireloomlaw02_add.calls K _ _ _ _ _ _ _ w hS))) rfl rfl hs hB (fun a w hs hB => ?_)
 refine l_alloc31 rfl rfl rfl rfl hs hB (fun g13 a w hs hB => ?_)
 refine l_store31 (k := 0) (cs' := #[.int .i64 S0, .int .i64 S1, .int .i64 S2]) rfl rfl rfl rfl rfl rfl rfl rfl hs hB (fun w hB => ?_)
 replace hB : Bl w0 [(g13, .cells #[.int .i64 S0, .int .i64 S1, .int .i64 S2] 31 (0, 0)), (g10, .cells #[.int .i64 cN, .int .i64 cD] 25 (0, 0)), (g9, .cells #[.int .i64 bN, .int .i64 bD] 25 (0, 0)), (g8, .cells #[.int .i64 aN, .int .i64 aD] 25 (0, 0))] w := hB
 refine l_nil ?_
 replace hs := hs.sub (l := [(13, pt g13 0), (7, .bool true), (8, pt g8 0), (9, pt g9 0), (10, pt g10 0)]) (⟨rfl, rfl, rfl, rfl, rfl, trivial⟩)
 refine c_list ?_
 refine l_fit (v := .agg #[.int .i64 bN, .int .i64 bD]) (fit_free rfl (ok_load25 (k := 2) rfl rfl rfl rfl rfl)) rfl rfl hs hB (fun a w hs hB => ?_)
 refine l_fit (v := .agg #[.int .i64 cN, .int .i64 cD]) (fit_free rfl (ok_load25 (k := 1) rfl rfl rfl rfl rfl)) rfl rfl hs hB (fun a w hs hB => ?_)
 refine l_fit (v := .agg #[.int .i64 T0, .int .i64 T1, .int .i64 T2]) (fit_free rfl (ok_call (args := #[.agg #[.int .i64 bN, .int .i64 bD], .agg #[.int .i64 cN, .int .i64 cD]]) rfl Tryd.func14 (by kernel_rfl) rfl rfl (viaB fun w => F.wireloomlaw02_add.calls K _ _ _ _ _ _ _ w hT))) rfl rfl hs hB (fun a w hs hB => ?_)
 refine l_alloc31 rfl rfl rfl rfl hs hB (fun g14 a w hs hB => ?_)
 refine l_store31 (k := 0) (cs' := #[.int .i64 T0, .int .i64 T1, .int .i64 T2]) rfl rfl rfl rfl rfl rfl rfl rfl hs hB (fun w hB => ?_)
 replace hB : Bl w0 [(g14, .cells #[.int .i64 T0, .int .i64 T1, .int .i64 T2] 31 (0, 0)), (g13, .cells #[.int .i64 S0, .int .i64 S1, .int .i64 S2] 31 (0, 0)), (g10, .cells #[.int .i64 cN, .int .i64 cD] 25 (0, 0)), (g9, .cells #[.int .i64 bN, .int .i64 bD] 25 (0, 0)), (g8, .cells #[.int .i64 aN, .int .i64 aD] 25 (0, 0))] w := hB
 refine l_nil ?_
 replace hs := hs.sub (l := [(14, pt g14 0), (13, pt g13 0), (7, .bool true), (8, pt g8 0), (9, pt g9 0), (10, pt g10 0)]) (⟨rfl, rfl, rfl, rfl, rfl, rfl, trivial⟩)
 refine wp_seq ?_
 refine wp_seq ?_
 replace hs := hs.sub (l := [(14, pt g14 0), (13, pt g13 0), (7, .bool true), (8, pt g8 0), (9, pt g9 0), (10, pt g10 0)]) (⟨rfl, rfl, rfl, rfl, rfl, rfl, trivial⟩)
 refine conf_region (n := 222) (sl := [(14, pt g14 0), (13, pt g13 0), (7, .bool true), (8, pt g8 0), (9, pt g9 0), (10, pt g10 0)]) (vs := [pt g13 2, .int .i64 S2, .bool false, .bool false, undef, undef, undef, undef, undef, undef, undef, undef, undef, undef, .bool false, .bool false, pt g13 2, .int .i64 S2, .bool false, .bool false, undef, undef, undef, .bool false, .bool false, undef, undef, undef, undef, undef, undef, undef, undef, undef, .bool false, .bool false]) (B := Bl w0 [(g14, .cells #[.int .i64 T0, .int .i64 T1, .int .i64 T2] 31 (0, 0)), (g13, .cells #[.int .i64 S0, .int .i64 S1, .int .i64 S2] 31 (0, 0)), (g10, .cells #[.int .i64 cN, .int .i64 cD] 25 (0, 0)), (g9, .cells #[.int .i64 bN, .int .i64 bD] 25 (0, 0)), (g8, .cells #[.int .i64 aN, .int .i64 aD] 25 (0, 0))]) (by kernel_rfl) [14, 13, 7, 8, 9, 10] rfl (by kernel_rfl) rfl (AllFitL.all ⟨fit_free rfl (ok_fieldAddr31_1 rfl rfl),
   fit_free rfl (ok_load29 (k := 1) rfl rfl rfl rfl),
   fit_free rfl (ok_eq29 rfl rfl rfl (decide_eq_false hs0)),
   fit_free rfl (ok_move rfl rfl),
   fit_off rfl rfl rfl rfl,
   fit_off rfl rfl rfl rfl,
   fit_off rfl rfl rfl rfl,
   fit_off rfl rfl rfl rfl,
   fit_off rfl rfl rfl rfl,
   fit_off rfl rfl rfl rfl,
   fit_off rfl rfl rfl rfl,
   fit_off rfl rfl rfl rfl,
   fit_off rfl rfl rfl rfl,
   fit_off rfl rfl rfl rfl,
   fit_free rfl (ok_pick_f rfl rfl rfl),
   fit_free rfl (ok_move rfl rfl),
   fit_on rfl rfl rfl (ok_fieldAddr31_1 rfl rfl),
   fit_on rfl rfl rfl (ok_load29 (k := 1) rfl rfl rfl rfl),
   fit_on rfl rfl rfl (ok_eq29 rfl rfl rfl (decide_eq_false hs0)),
   fit_on rfl rfl rfl (ok_move rfl rfl),
   fit_off rfl rfl rfl rfl,
   fit_off rfl rfl rfl rfl,
   fit_off rfl rfl rfl rfl,
   fit_on rfl rfl rfl (ok_pick_f rfl rfl rfl),
   fit_on rfl rfl rfl (ok_move rfl rfl),
   fit_off rfl rfl rfl rfl,
   fit_off rfl rfl rfl rfl,
   fit_off rfl rfl rfl rfl,
   fit_off rfl rfl rfl rfl,
   fit_off rfl rfl rfl rfl,
   fit_off rfl rfl rfl rfl,
   fit_off rfl rfl rfl rfl,
   fit_off rfl rfl rfl rfl,
   fit_off rfl rfl rfl rfl,
   fit_on rfl rfl rfl (ok_pick_f rfl rfl rfl),
   fit_free rfl (ok_pick_f rfl rfl rfl),
   trivial⟩) hs hB.drew (fun a w hs hB => ?_)
 replace hs := hs.sub (l := [(133, .bool false), (13, pt g13 0), (7, .bool true), (8, pt g8 0), (9, pt g9 0), (10, pt g10 0)]) (⟨rfl, rfl, rfl, rfl, rfl, rfl, trivial⟩)
 refine then_n ?_
 replace hs := hs.sub (l := [(133, .bool false), (13, pt g13 0), (7, .bool true), (8, pt g8 0), (9, pt g9 0), (10, pt g10 0)]) (⟨rfl, rfl, rfl, rfl, rfl, rfl, trivial⟩)
 refine c_false hs rfl ?_
 refine wp_skip ?_
 refine then_n ?_
 replace hs := hs.sub (l := [(13, pt g13 0), (7, .bool true), (8, pt g8 0), (9, pt g9 0), (10, pt g10 0)]) (⟨rfl, rfl, rfl, rfl, rfl, trivial⟩)
 replace hs := hs.sub (l := [(7, .bool true), (8, pt g8 0), (9, pt g9 0), (10, pt g10 0), (13, pt g13 0)]) (⟨rfl, rfl, rfl, rfl, rfl, trivial⟩)
 replace hB : Bl w0 [(g13, .cells #[.int .i64 S0, .int .i64 S1, .int .i64 S2] 31 (0, 0)), (g10, .cells #[.int .i64 cN, .int .i64 cD] 25 (0, 0)), (g9, .cells #[.int .i64 bN, .int .i64 bD] 25 (0, 0)), (g8, .cells #[.int .i64 aN, .int .i64 aD] 25 (0, 0))] w := hB.keep [false, true, true, true, true]
 exact H g13  a w hs hB

theorem f11t (K : Nat) (w0 : World) (g10 g9 g8 : Nat) (aN aD bN bD cN cD S0 S1 T0 T1 T2 : Int) (hS : F.wireloomlaw02_add.f K aN aD bN bD = some (S0, S1, 0)) (hT : F.wireloomlaw02_add.f K bN bD cN cD = some (T0, T1, T2)) (hW : F.wireloomlaw02_sub.f K S0 S1 bN bD = some (aN, aD, 0)) (ht : T2 ≠ 0) (H : ∀ (g13 : Nat), ∀ a w, Sl 222 [(7, .bool true), (8, pt g8 0), (9, pt g9 0), (10, pt g10 0), (13, pt g13 0)] a → Bl w0 [(g13, .cells #[.int .i64 S0, .int .i64 S1, .int .i64 0] 31 (0, 0)), (g10, .cells #[.int .i64 cN, .int .i64 cD] 25 (0, 0)), (g9, .cells #[.int .i64 bN, .int .i64 bD] 25 (0, 0)), (g8, .cells #[.int .i64 aN, .int .i64 aD] 25 (0, 0))] w → (restOf Tryd.f5 15).wp Tryd.prog (bodyPost Tryd.prog Tryd.f5 fun e w' => e = .returned (.bool true) ∧ Below w0.heap.size w0 w') a w) :
  ∀ a w, Sl 222 [(7, .bool true), (8, pt g8 0), (9, pt g9 0), (10, pt g10 0)] a → Bl w0 [(g10, .cells #[.int .i64 cN, .int .i64 cD] 25 (0, 0)), (g9, .cells #[.int .i64 bN, .int .i64 bD] 25 (0, 0)), (g8, .cells #[.int .i64 aN, .int .i64 aD] 25 (0, 0))] w → (restOf Tryd.f5 11).wp Tryd.prog (bodyPost Tryd.prog Tryd.f5 fun e w' => e = .returned (.bool true) ∧ Below w0.heap.size w0 w') a w := by
 intro a w hs hB
 conv => arg 2; whnf
 refine c_list ?_
 refine l_fit (v := .agg #[.int .i64 aN, .int .i64 aD]) (fit_free rfl (ok_load25 (k := 2) rfl rfl rfl rfl rfl)) rfl rfl hs hB (fun a w hs hB => ?_)
 refine l_fit (v := .agg #[.int .i64 bN, .int .i64 bD]) (fit_free rfl (ok_load25 (k := 1) rfl rfl rfl rfl rfl)) rfl rfl hs hB (fun a w hs hB => ?_)
 refine l_fit (v := .agg #[.int .i64 S0, .int .i64 S1, .int .i64 0]) (fit_free rfl (ok_call (args := #[.agg #[.int .i64 aN, .int .i64 aD], .agg #[.int .i64 bN, .int .i64 bD]]) rfl Tryd.func14 (by kernel_rfl) rfl rfl (viaB fun w => F.wireloomlaw02_add.calls K _ _ _ _ _ _ _ w hS))) rfl rfl hs hB (fun a w hs hB => ?_)
 refine l_alloc31 rfl rfl rfl rfl hs hB (fun g13 a w hs hB => ?_)
 refine l_store31 (k := 0) (cs' := #[.int .i64 S0, .int .i64 S1, .int .i64 0]) rfl rfl rfl rfl rfl rfl rfl rfl hs hB (fun w hB => ?_)
 replace hB : Bl w0 [(g13, .cells #[.int .i64 S0, .int .i64 S1, .int .i64 0] 31 (0, 0)), (g10, .cells #[.int .i64 cN, .int .i64 cD] 25 (0, 0)), (g9, .cells #[.int .i64 bN, .int .i64 bD] 25 (0, 0)), (g8, .cells #[.int .i64 aN, .int .i64 aD] 25 (0, 0))] w := hB
 refine l_nil ?_
 replace hs := hs.sub (l := [(13, pt g13 0), (7, .bool true), (8, pt g8 0), (9, pt g9 0), (10, pt g10 0)]) (⟨rfl, rfl, rfl, rfl, rfl, trivial⟩)
 refine c_list ?_
 refine l_fit (v := .agg #[.int .i64 bN, .int .i64 bD]) (fit_free rfl (ok_load25 (k := 2) rfl rfl rfl rfl rfl)) rfl rfl hs hB (fun a w hs hB => ?_)
 refine l_fit (v := .agg #[.int .i64 cN, .int .i64 cD]) (fit_free rfl (ok_load25 (k := 1) rfl rfl rfl rfl rfl)) rfl rfl hs hB (fun a w hs hB => ?_)
 refine l_fit (v := .agg #[.int .i64 T0, .int .i64 T1, .int .i64 T2]) (fit_free rfl (ok_call (args := #[.agg #[.int .i64 bN, .int .i64 bD], .agg #[.int .i64 cN, .int .i64 cD]]) rfl Tryd.func14 (by kernel_rfl) rfl rfl (viaB fun w => F.wireloomlaw02_add.calls K _ _ _ _ _ _ _ w hT))) rfl rfl hs hB (fun a w hs hB => ?_)
 refine l_alloc31 rfl rfl rfl rfl hs hB (fun g14 a w hs hB => ?_)
 refine l_store31 (k := 0) (cs' := #[.int .i64 T0, .int .i64 T1, .int .i64 T2]) rfl rfl rfl rfl rfl rfl rfl rfl hs hB (fun w hB => ?_)
 replace hB : Bl w0 [(g14, .cells #[.int .i64 T0, .int .i64 T1, .int .i64 T2] 31 (0, 0)), (g13, .cells #[.int .i64 S0, .int .i64 S1, .int .i64 0] 31 (0, 0)), (g10, .cells #[.int .i64 cN, .int .i64 cD] 25 (0, 0)), (g9, .cells #[.int .i64 bN, .int .i64 bD] 25 (0, 0)), (g8, .cells #[.int .i64 aN, .int .i64 aD] 25 (0, 0))] w := hB
 refine l_nil ?_
 replace hs := hs.sub (l := [(14, pt g14 0), (13, pt g13 0), (7, .bool true), (8, pt g8 0), (9, pt g9 0), (10, pt g10 0)]) (⟨rfl, rfl, rfl, rfl, rfl, rfl, trivial⟩)
 refine wp_seq ?_
 refine wp_seq ?_
 replace hs := hs.sub (l := [(14, pt g14 0), (13, pt g13 0), (7, .bool true), (8, pt g8 0), (9, pt g9 0), (10, pt g10 0)]) (⟨rfl, rfl, rfl, rfl, rfl, rfl, trivial⟩)
 refine conf_region (n := 222) (sl := [(14, pt g14 0), (13, pt g13 0), (7, .bool true), (8, pt g8 0), (9, pt g9 0), (10, pt g10 0)]) (vs := [pt g13 2, .int .i64 0, .bool true, .bool true, pt g13 0, .agg #[.int .i64 S0, .int .i64 S1], .agg #[.int .i64 bN, .int .i64 bD], .agg #[.int .i64 aN, .int .i64 aD, .int .i64 0], pt g8 0, .int .i64 aN, pt g8 1, .int .i64 aD, .agg #[.int .i64 aN, .int .i64 aD, .int .i64 0], .bool false, .bool false, .bool false, pt g13 2, .int .i64 0, .bool true, .bool true, pt g14 2, .int .i64 T2, .bool false, .bool false, .bool false, undef, undef, undef, undef, undef, undef, undef, undef, undef, .bool false, .bool false]) (B := Bl w0 [(g14, .cells #[.int .i64 T0, .int .i64 T1, .int .i64 T2] 31 (0, 0)), (g13, .cells #[.int .i64 S0, .int .i64 S1, .int .i64 0] 31 (0, 0)), (g10, .cells #[.int .i64 cN, .int .i64 cD] 25 (0, 0)), (g9, .cells #[.int .i64 bN, .int .i64 bD] 25 (0, 0)), (g8, .cells #[.int .i64 aN, .int .i64 aD] 25 (0, 0))]) (by kernel_rfl) [14, 13, 7, 8, 9, 10] rfl (by kernel_rfl) rfl (AllFitL.all ⟨fit_free rfl (ok_fieldAddr31_1 rfl rfl),
   fit_free rfl (ok_load29 (k := 1) rfl rfl rfl rfl),
   fit_free rfl (ok_eq29 rfl rfl rfl (by decide)),
   fit_free rfl (ok_move rfl rfl),
   fit_on rfl rfl rfl (ok_fieldAddr31_0 rfl rfl),
   fit_on rfl rfl rfl (ok_load25 (k := 1) rfl rfl rfl rfl rfl),
   fit_on rfl rfl rfl (ok_load25 (k := 3) rfl rfl rfl rfl rfl),
   fit_on rfl rfl rfl (ok_call (args := #[.agg #[.int .i64 S0, .int .i64 S1], .agg #[.int .i64 bN, .int .i64 bD]]) rfl Tryd.func21 (by kernel_rfl) rfl rfl (viaB fun w => F.wireloomlaw02_sub.calls K _ _ _ _ _ _ _ w hW)),
   fit_on rfl rfl rfl (ok_fieldAddr25_0 rfl rfl),
   fit_on rfl rfl rfl (ok_load3 (k := 4) rfl rfl rfl rfl),
   fit_on rfl rfl rfl (ok_fieldAddr25_1 rfl rfl),
   fit_on rfl rfl rfl (ok_load3 (k := 4) rfl rfl rfl rfl),
   fit_on rfl rfl rfl (ok_call (args := #[.int .i64 aN, .int .i64 aD]) rfl Tryd.func16 (by kernel_rfl) rfl rfl (viaB fun w => F.wireloomlaw02_is.calls _ _ _ _ _ w rfl)),
   fit_on rfl rfl rfl (ok_neq31 rfl rfl rfl (by simp)),
   fit_free rfl (ok_pick_t rfl rfl rfl),
   fit_free rfl (ok_move rfl rfl),
   fit_on rfl rfl rfl (ok_fieldAddr31_1 rfl rfl),
   fit_on rfl rfl rfl (ok_load29 (k := 1) rfl rfl rfl rfl),
   fit_on rfl rfl rfl (ok_eq29 rfl rfl rfl (by decide)),
   fit_on rfl rfl rfl (ok_move rfl rfl),
   fit_on rfl rfl rfl (ok_fieldAddr31_1 rfl rfl),
   fit_on rfl rfl rfl (ok_load29 (k := 0) rfl rfl rfl rfl),
   fit_on rfl rfl rfl (ok_eq29 rfl rfl rfl (decide_eq_false ht)),
   fit_on rfl rfl rfl (ok_pick_t rfl rfl rfl),
   fit_on rfl rfl rfl (ok_move rfl rfl),
   fit_off rfl rfl rfl rfl,
   fit_off rfl rfl rfl rfl,
   fit_off rfl rfl rfl rfl,
   fit_off rfl rfl rfl rfl,
   fit_off rfl rfl rfl rfl,
   fit_off rfl rfl rfl rfl,
   fit_off rfl rfl rfl rfl,
   fit_off rfl rfl rfl rfl,
   fit_off rfl rfl rfl rfl,
   fit_on rfl rfl rfl (ok_pick_f rfl rfl rfl),
   fit_free rfl (ok_pick_f rfl rfl rfl),
   trivial⟩) hs hB.drew (fun a w hs hB => ?_)
 replace hs := hs.sub (l := [(133, .bool false), (13, pt g13 0), (7, .bool true), (8, pt g8 0), (9, pt g9 0), (10, pt g10 0)]) (⟨rfl, rfl, rfl, rfl, rfl, rfl, trivial⟩)
 refine then_n ?_
 replace hs := hs.sub (l := [(133, .bool false), (13, pt g13 0), (7, .bool true), (8, pt g8 0), (9, pt g9 0), (10, pt g10 0)]) (⟨rfl, rfl, rfl, rfl, rfl, rfl, trivial⟩)
 refine c_false hs rfl ?_
 refine wp_skip ?_
 refine then_n ?_
 replace hs := hs.sub (l := [(13, pt g13 0), (7, .bool true), (8, pt g8 0), (9, pt g9 0), (10, pt g10 0)]) (⟨rfl, rfl, rfl, rfl, rfl, trivial⟩)
 replace hs := hs.sub (l := [(7, .bool true), (8, pt g8 0), (9, pt g9 0), (10, pt g10 0), (13, pt g13 0)]) (⟨rfl, rfl, rfl, rfl, rfl, trivial⟩)
 replace hB : Bl w0 [(g13, .cells #[.int .i64 S0, .int .i64 S1, .int .i64 0] 31 (0, 0)), (g10, .cells #[.int .i64 cN, .int .i64 cD] 25 (0, 0)), (g9, .cells #[.int .i64 bN, .int .i64 bD] 25 (0, 0)), (g8, .cells #[.int .i64 aN, .int .i64 aD] 25 (0, 0))] w := hB.keep [false, true, true, true, true]
 exact H g13  a w hs hB

theorem f11a (K : Nat) (w0 : World) (g10 g9 g8 : Nat) (aN aD bN bD cN cD S0 S1 T0 T1 X0 X1 X2 : Int) (hS : F.wireloomlaw02_add.f K aN aD bN bD = some (S0, S1, 0)) (hT : F.wireloomlaw02_add.f K bN bD cN cD = some (T0, T1, 0)) (hW : F.wireloomlaw02_sub.f K S0 S1 bN bD = some (aN, aD, 0)) (hX : F.wireloomlaw02_add.f K S0 S1 cN cD = some (X0, X1, X2)) (hY : F.wireloomlaw02_add.f K aN aD T0 T1 = some (X0, X1, X2)) (H : ∀ (g13 : Nat), ∀ a w, Sl 222 [(7, .bool true), (8, pt g8 0), (9, pt g9 0), (10, pt g10 0), (13, pt g13 0)] a → Bl w0 [(g13, .cells #[.int .i64 S0, .int .i64 S1, .int .i64 0] 31 (0, 0)), (g10, .cells #[.int .i64 cN, .int .i64 cD] 25 (0, 0)), (g9, .cells #[.int .i64 bN, .int .i64 bD] 25 (0, 0)), (g8, .cells #[.int .i64 aN, .int .i64 aD] 25 (0, 0))] w → (restOf Tryd.f5 15).wp Tryd.prog (bodyPost Tryd.prog Tryd.f5 fun e w' => e = .returned (.bool true) ∧ Below w0.heap.size w0 w') a w) :
  ∀ a w, Sl 222 [(7, .bool true), (8, pt g8 0), (9, pt g9 0), (10, pt g10 0)] a → Bl w0 [(g10, .cells #[.int .i64 cN, .int .i64 cD] 25 (0, 0)), (g9, .cells #[.int .i64 bN, .int .i64 bD] 25 (0, 0)), (g8, .cells #[.int .i64 aN, .int .i64 aD] 25 (0, 0))] w → (restOf Tryd.f5 11).wp Tryd.prog (bodyPost Tryd.prog Tryd.f5 fun e w' => e = .returned (.bool true) ∧ Below w0.heap.size w0 w') a w := by
 intro a w hs hB
 conv => arg 2; whnf
 refine c_list ?_
 refine l_fit (v := .agg #[.int .i64 aN, .int .i64 aD]) (fit_free rfl (ok_load25 (k := 2) rfl rfl rfl rfl rfl)) rfl rfl hs hB (fun a w hs hB => ?_)
 refine l_fit (v := .agg #[.int .i64 bN, .int .i64 bD]) (fit_free rfl (ok_load25 (k := 1) rfl rfl rfl rfl rfl)) rfl rfl hs hB (fun a w hs hB => ?_)
 refine l_fit (v := .agg #[.int .i64 S0, .int .i64 S1, .int .i64 0]) (fit_free rfl (ok_call (args := #[.agg #[.int .i64 aN, .int .i64 aD], .agg #[.int .i64 bN, .int .i64 bD]]) rfl Tryd.func14 (by kernel_rfl) rfl rfl (viaB fun w => F.wireloomlaw02_add.calls K _ _ _ _ _ _ _ w hS))) rfl rfl hs hB (fun a w hs hB => ?_)
 refine l_alloc31 rfl rfl rfl rfl hs hB (fun g13 a w hs hB => ?_)
 refine l_store31 (k := 0) (cs' := #[.int .i64 S0, .int .i64 S1, .int .i64 0]) rfl rfl rfl rfl rfl rfl rfl rfl hs hB (fun w hB => ?_)
 replace hB : Bl w0 [(g13, .cells #[.int .i64 S0, .int .i64 S1, .int .i64 0] 31 (0, 0)), (g10, .cells #[.int .i64 cN, .int .i64 cD] 25 (0, 0)), (g9, .cells #[.int .i64 bN, .int .i64 bD] 25 (0, 0)), (g8, .cells #[.int .i64 aN, .int .i64 aD] 25 (0, 0))] w := hB
 refine l_nil ?_
 replace hs := hs.sub (l := [(13, pt g13 0), (7, .bool true), (8, pt g8 0), (9, pt g9 0), (10, pt g10 0)]) (⟨rfl, rfl, rfl, rfl, rfl, trivial⟩)
 refine c_list ?_
 refine l_fit (v := .agg #[.int .i64 bN, .int .i64 bD]) (fit_free rfl (ok_load25 (k := 2) rfl rfl rfl rfl rfl)) rfl rfl hs hB (fun a w hs hB => ?_)
 refine l_fit (v := .agg #[.int .i64 cN, .int .i64 cD]) (fit_free rfl (ok_load25 (k := 1) rfl rfl rfl rfl rfl)) rfl rfl hs hB (fun a w hs hB => ?_)
 refine l_fit (v := .agg #[.int .i64 T0, .int .i64 T1, .int .i64 0]) (fit_free rfl (ok_call (args := #[.agg #[.int .i64 bN, .int .i64 bD], .agg #[.int .i64 cN, .int .i64 cD]]) rfl Tryd.func14 (by kernel_rfl) rfl rfl (viaB fun w => F.wireloomlaw02_add.calls K _ _ _ _ _ _ _ w hT))) rfl rfl hs hB (fun a w hs hB => ?_)
 refine l_alloc31 rfl rfl rfl rfl hs hB (fun g14 a w hs hB => ?_)
 refine l_store31 (k := 0) (cs' := #[.int .i64 T0, .int .i64 T1, .int .i64 0]) rfl rfl rfl rfl rfl rfl rfl rfl hs hB (fun w hB => ?_)
 replace hB : Bl w0 [(g14, .cells #[.int .i64 T0, .int .i64 T1, .int .i64 0] 31 (0, 0)), (g13, .cells #[.int .i64 S0, .int .i64 S1, .int .i64 0] 31 (0, 0)), (g10, .cells #[.int .i64 cN, .int .i64 cD] 25 (0, 0)), (g9, .cells #[.int .i64 bN, .int .i64 bD] 25 (0, 0)), (g8, .cells #[.int .i64 aN, .int .i64 aD] 25 (0, 0))] w := hB
 refine l_nil ?_
 replace hs := hs.sub (l := [(14, pt g14 0), (13, pt g13 0), (7, .bool true), (8, pt g8 0), (9, pt g9 0), (10, pt g10 0)]) (⟨rfl, rfl, rfl, rfl, rfl, rfl, trivial⟩)
 refine wp_seq ?_
 refine wp_seq ?_
 replace hs := hs.sub (l := [(14, pt g14 0), (13, pt g13 0), (7, .bool true), (8, pt g8 0), (9, pt g9 0), (10, pt g10 0)]) (⟨rfl, rfl, rfl, rfl, rfl, rfl, trivial⟩)
 refine conf_region (n := 222) (sl := [(14, pt g14 0), (13, pt g13 0), (7, .bool true), (8, pt g8 0), (9, pt g9 0), (10, pt g10 0)]) (vs := [pt g13 2, .int .i64 0, .bool true, .bool true, pt g13 0, .agg #[.int .i64 S0, .int .i64 S1], .agg #[.int .i64 bN, .int .i64 bD], .agg #[.int .i64 aN, .int .i64 aD, .int .i64 0], pt g8 0, .int .i64 aN, pt g8 1, .int .i64 aD, .agg #[.int .i64 aN, .int .i64 aD, .int .i64 0], .bool false, .bool false, .bool false, pt g13 2, .int .i64 0, .bool true, .bool true, pt g14 2, .int .i64 0, .bool true, .bool true, .bool true, pt g13 0, .agg #[.int .i64 S0, .int .i64 S1], .agg #[.int .i64 cN, .int .i64 cD], .agg #[.int .i64 X0, .int .i64 X1, .int .i64 X2], .agg #[.int .i64 aN, .int .i64 aD], pt g14 0, .agg #[.int .i64 T0, .int .i64 T1], .agg #[.int .i64 X0, .int .i64 X1, .int .i64 X2], .bool false, .bool false, .bool false]) (B := Bl w0 [(g14, .cells #[.int .i64 T0, .int .i64 T1, .int .i64 0] 31 (0, 0)), (g13, .cells #[.int .i64 S0, .int .i64 S1, .int .i64 0] 31 (0, 0)), (g10, .cells #[.int .i64 cN, .int .i64 cD] 25 (0, 0)), (g9, .cells #[.int .i64 bN, .int .i64 bD] 25 (0, 0)), (g8, .cells #[.int .i64 aN, .int .i64 aD] 25 (0, 0))]) (by kernel_rfl) [14, 13, 7, 8, 9, 10] rfl (by kernel_rfl) rfl (AllFitL.all ⟨fit_free rfl (ok_fieldAddr31_1 rfl rfl),
   fit_free rfl (ok_load29 (k := 1) rfl rfl rfl rfl),
   fit_free rfl (ok_eq29 rfl rfl rfl (by decide)),
   fit_free rfl (ok_move rfl rfl),
   fit_on rfl rfl rfl (ok_fieldAddr31_0 rfl rfl),
   fit_on rfl rfl rfl (ok_load25 (k := 1) rfl rfl rfl rfl rfl),
   fit_on rfl rfl rfl (ok_load25 (k := 3) rfl rfl rfl rfl rfl),
   fit_on rfl rfl rfl (ok_call (args := #[.agg #[.int .i64 S0, .int .i64 S1], .agg #[.int .i64 bN, .int .i64 bD]]) rfl Tryd.func21 (by kernel_rfl) rfl rfl (viaB fun w => F.wireloomlaw02_sub.calls K _ _ _ _ _ _ _ w hW)),
   fit_on rfl rfl rfl (ok_fieldAddr25_0 rfl rfl),
   fit_on rfl rfl rfl (ok_load3 (k := 4) rfl rfl rfl rfl),
   fit_on rfl rfl rfl (ok_fieldAddr25_1 rfl rfl),
   fit_on rfl rfl rfl (ok_load3 (k := 4) rfl rfl rfl rfl),
   fit_on rfl rfl rfl (ok_call (args := #[.int .i64 aN, .int .i64 aD]) rfl Tryd.func16 (by kernel_rfl) rfl rfl (viaB fun w => F.wireloomlaw02_is.calls _ _ _ _ _ w rfl)),
   fit_on rfl rfl rfl (ok_neq31 rfl rfl rfl (by simp)),
   fit_free rfl (ok_pick_t rfl rfl rfl),
   fit_free rfl (ok_move rfl rfl),
   fit_on rfl rfl rfl (ok_fieldAddr31_1 rfl rfl),
   fit_on rfl rfl rfl (ok_load29 (k := 1) rfl rfl rfl rfl),
   fit_on rfl rfl rfl (ok_eq29 rfl rfl rfl (by decide)),
   fit_on rfl rfl rfl (ok_move rfl rfl),
   fit_on rfl rfl rfl (ok_fieldAddr31_1 rfl rfl),
   fit_on rfl rfl rfl (ok_load29 (k := 0) rfl rfl rfl rfl),
   fit_on rfl rfl rfl (ok_eq29 rfl rfl rfl (by decide)),
   fit_on rfl rfl rfl (ok_pick_t rfl rfl rfl),
   fit_on rfl rfl rfl (ok_move rfl rfl),
   fit_on rfl rfl rfl (ok_fieldAddr31_0 rfl rfl),
   fit_on rfl rfl rfl (ok_load25 (k := 1) rfl rfl rfl rfl rfl),
   fit_on rfl rfl rfl (ok_load25 (k := 2) rfl rfl rfl rfl rfl),
   fit_on rfl rfl rfl (ok_call (args := #[.agg #[.int .i64 S0, .int .i64 S1], .agg #[.int .i64 cN, .int .i64 cD]]) rfl Tryd.func14 (by kernel_rfl) rfl rfl (viaB fun w => F.wireloomlaw02_add.calls K _ _ _ _ _ _ _ w hX)),
   fit_on rfl rfl rfl (ok_load25 (k := 4) rfl rfl rfl rfl rfl),
   fit_on rfl rfl rfl (ok_fieldAddr31_0 rfl rfl),
   fit_on rfl rfl rfl (ok_load25 (k := 0) rfl rfl rfl rfl rfl),
   fit_on rfl rfl rfl (ok_call (args := #[.agg #[.int .i64 aN, .int .i64 aD], .agg #[.int .i64 T0, .int .i64 T1]]) rfl Tryd.func14 (by kernel_rfl) rfl rfl (viaB fun w => F.wireloomlaw02_add.calls K _ _ _ _ _ _ _ w hY)),
   fit_on rfl rfl rfl (ok_neq31 rfl rfl rfl (by simp)),
   fit_on rfl rfl rfl (ok_pick_t rfl rfl rfl),
   fit_free rfl (ok_pick_f rfl rfl rfl),
   trivial⟩) hs hB.drew (fun a w hs hB => ?_)
 replace hs := hs.sub (l := [(133, .bool false), (13, pt g13 0), (7, .bool true), (8, pt g8 0), (9, pt g9 0), (10, pt g10 0)]) (⟨rfl, rfl, rfl, rfl, rfl, rfl, trivial⟩)
 refine then_n ?_
 replace hs := hs.sub (l := [(133, .bool false), (13, pt g13 0), (7, .bool true), (8, pt g8 0), (9, pt g9 0), (10, pt g10 0)]) (⟨rfl, rfl, rfl, rfl, rfl, rfl, trivial⟩)
 refine c_false hs rfl ?_
 refine wp_skip ?_
 refine then_n ?_
 replace hs := hs.sub (l := [(13, pt g13 0), (7, .bool true), (8, pt g8 0), (9, pt g9 0), (10, pt g10 0)]) (⟨rfl, rfl, rfl, rfl, rfl, trivial⟩)
 replace hs := hs.sub (l := [(7, .bool true), (8, pt g8 0), (9, pt g9 0), (10, pt g10 0), (13, pt g13 0)]) (⟨rfl, rfl, rfl, rfl, rfl, trivial⟩)
 replace hB : Bl w0 [(g13, .cells #[.int .i64 S0, .int .i64 S1, .int .i64 0] 31 (0, 0)), (g10, .cells #[.int .i64 cN, .int .i64 cD] 25 (0, 0)), (g9, .cells #[.int .i64 bN, .int .i64 bD] 25 (0, 0)), (g8, .cells #[.int .i64 aN, .int .i64 aD] 25 (0, 0))] w := hB.keep [false, true, true, true, true]
 exact H g13  a w hs hB

theorem f0 (K : Nat) (w0 : World) (hGL : F.GL w0) (x0 x1 y0 y1 z0 z1 aN aD bN bD cN cD R0 R1 R2 M0 M1 M2 : Int) (ma : F.wireloomref02_Made.f K x0 x1 = some (aN, aD)) (mb : F.wireloomref02_Made.f K y0 y1 = some (bN, bD)) (mc : F.wireloomref02_Made.f K z0 z1 = some (cN, cD)) (e1 : F.wireloomlaw02_add.f K aN aD bN bD = some (R0, R1, R2)) (e2 : F.wireloomlaw02_add.f K bN bD aN aD = some (R0, R1, R2)) (e3 : F.wireloomlaw02_mul.f K aN aD bN bD = some (M0, M1, M2)) (e4 : F.wireloomlaw02_mul.f K bN bD aN aD = some (M0, M1, M2)) (e5 : F.wireloomlaw02_add.f K aN aD 0 1 = some (aN, aD, 0)) (e6 : F.wireloomlaw02_mul.f K aN aD 1 1 = some (aN, aD, 0)) (e7 : F.wireloomlaw02_sub.f K aN aD aN aD = some (0, 1, 0)) (e8 : F.wireloomlaw02_mul.f K aN aD 0 1 = some (0, 1, 0)) (H : ∀ (g10 g9 g8 : Nat), ∀ a w, Sl 222 [(7, .bool true), (8, pt g8 0), (9, pt g9 0), (10, pt g10 0)] a → Bl w0 [(g10, .cells #[.int .i64 cN, .int .i64 cD] 25 (0, 0)), (g9, .cells #[.int .i64 bN, .int .i64 bD] 25 (0, 0)), (g8, .cells #[.int .i64 aN, .int .i64 aD] 25 (0, 0))] w → (restOf Tryd.f5 11).wp Tryd.prog (bodyPost Tryd.prog Tryd.f5 fun e w' => e = .returned (.bool true) ∧ Below w0.heap.size w0 w') a w) :
  Calls Tryd.prog 5 #[.agg #[.int .i64 x0, .int .i64 x1], .agg #[.int .i64 y0, .int .i64 y1], .agg #[.int .i64 z0, .int .i64 z1]] w0 fun e w' => e = .returned (.bool true) ∧ Below w0.heap.size w0 w' := by
 refine Cx.start (n := 222) Tryd.func5 rfl rfl rfl (fun a hs => ?_)
 have hB := Bl.start w0
 replace hs : Sl 222 [(0, .agg #[.int .i64 x0, .int .i64 x1]), (1, .agg #[.int .i64 y0, .int .i64 y1]), (2, .agg #[.int .i64 z0, .int .i64 z1])] a := hs
 refine c_list ?_
 refine l_box22 rfl rfl rfl rfl rfl hs hB (fun g3 a w hs hB => ?_)
 refine l_box22 rfl rfl rfl rfl rfl hs hB (fun g4 a w hs hB => ?_)
 refine l_box22 rfl rfl rfl rfl rfl hs hB (fun g5 a w hs hB => ?_)
 refine l_fit (v := .bool false) (fit_free rfl (ok_assign rfl rfl)) rfl rfl hs hB (fun a w hs hB => ?_)
 refine l_nil ?_
 replace hs := hs.sub (l := [(6, .bool false), (5, pt g5 0), (4, pt g4 0), (3, pt g3 0)]) (⟨rfl, rfl, rfl, rfl, trivial⟩)
 refine c_list ?_
 refine l_fit (v := .bool true) (fit_free rfl (ok_call (args := #[]) rfl Tryd.func9 (by kernel_rfl) rfl rfl (fun w hB => (F.wireloomlaw02_examples.calls K true w (F.GL.below hGL hB.below) rfl).mono fun e w' ⟨he, hb⟩ => ⟨he, hB.step hb⟩))) rfl rfl hs hB (fun a w hs hB => ?_)
 refine l_fit (v := .bool true) (fit_free rfl (ok_assign rfl rfl)) rfl rfl hs hB (fun a w hs hB => ?_)
 refine l_nil ?_
 replace hs := hs.sub (l := [(7, .bool true), (6, .bool false), (5, pt g5 0), (4, pt g4 0), (3, pt g3 0)]) (⟨rfl, rfl, rfl, rfl, rfl, trivial⟩)
 refine wp_seq ?_
 refine c_list ?_
 refine l_fit (v := .bool true) (fit_free rfl (ok_move rfl rfl)) rfl rfl hs hB (fun a w hs hB => ?_)
 refine l_fit (v := .bool false) (fit_free rfl (ok_not (b := true) rfl rfl)) rfl rfl hs hB (fun a w hs hB => ?_)
 refine l_nil ?_
 replace hs := hs.sub (l := [(22, .bool false), (7, .bool true), (6, .bool false), (5, pt g5 0), (4, pt g4 0), (3, pt g3 0)]) (⟨rfl, rfl, rfl, rfl, rfl, rfl, trivial⟩)
 refine c_false hs rfl ?_
 refine wp_skip ?_
 refine then_n ?_
 replace hs := hs.sub (l := [(7, .bool true), (6, .bool false), (5, pt g5 0), (4, pt g4 0), (3, pt g3 0)]) (⟨rfl, rfl, rfl, rfl, rfl, trivial⟩)
 refine c_list ?_
 refine l_fit (v := pt g3 0) (fit_free rfl (ok_indexAddr22 (j := 0) rfl rfl rfl (by decide))) rfl rfl hs hB (fun a w hs hB => ?_)
 refine l_fit (v := .int .i64 x0) (fit_free rfl (ok_load3 (k := 2) rfl rfl rfl rfl)) rfl rfl hs hB (fun a w hs hB => ?_)
 refine l_fit (v := pt g3 1) (fit_free rfl (ok_indexAddr22 (j := 1) rfl rfl rfl (by decide))) rfl rfl hs hB (fun a w hs hB => ?_)
 refine l_fit (v := .int .i64 x1) (fit_free rfl (ok_load3 (k := 2) rfl rfl rfl rfl)) rfl rfl hs hB (fun a w hs hB => ?_)
 refine l_fit (v := .agg #[.int .i64 aN, .int .i64 aD]) (fit_free rfl (ok_call (args := #[.int .i64 x0, .int .i64 x1]) rfl Tryd.func10 (by kernel_rfl) rfl rfl (viaB fun w => F.wireloomref02_Made.calls K _ _ _ _ w ma))) rfl rfl hs hB (fun a w hs hB => ?_)
 refine l_alloc25 rfl rfl rfl rfl hs hB (fun g8 a w hs hB => ?_)
 refine l_store25 (k := 0) (cs' := #[.int .i64 aN, .int .i64 aD]) rfl rfl rfl rfl rfl rfl rfl rfl hs hB (fun w hB => ?_)
 replace hB : Bl w0 [(g8, .cells #[.int .i64 aN, .int .i64 aD] 25 (0, 0)), (g5, .cells #[.int .i64 z0, .int .i64 z1] 22 (0, 0)), (g4, .cells #[.int .i64 y0, .int .i64 y1] 22 (0, 0)), (g3, .cells #[.int .i64 x0, .int .i64 x1] 22 (0, 0))] w := hB
 refine l_nil ?_
 replace hs := hs.sub (l := [(8, pt g8 0), (7, .bool true), (6, .bool false), (5, pt g5 0), (4, pt g4 0)]) (⟨rfl, rfl, rfl, rfl, rfl, trivial⟩)
 refine c_list ?_
 refine l_fit (v := pt g4 0) (fit_free rfl (ok_indexAddr22 (j := 0) rfl rfl rfl (by decide))) rfl rfl hs hB (fun a w hs hB => ?_)
 refine l_fit (v := .int .i64 y0) (fit_free rfl (ok_load3 (k := 2) rfl rfl rfl rfl)) rfl rfl hs hB (fun a w hs hB => ?_)
 refine l_fit (v := pt g4 1) (fit_free rfl (ok_indexAddr22 (j := 1) rfl rfl rfl (by decide))) rfl rfl hs hB (fun a w hs hB => ?_)
 refine l_fit (v := .int .i64 y1) (fit_free rfl (ok_load3 (k := 2) rfl rfl rfl rfl)) rfl rfl hs hB (fun a w hs hB => ?_)
 refine l_fit (v := .agg #[.int .i64 bN, .int .i64 bD]) (fit_free rfl (ok_call (args := #[.int .i64 y0, .int .i64 y1]) rfl Tryd.func10 (by kernel_rfl) rfl rfl (viaB fun w => F.wireloomref02_Made.calls K _ _ _ _ w mb))) rfl rfl hs hB (fun a w hs hB => ?_)
 refine l_alloc25 rfl rfl rfl rfl hs hB (fun g9 a w hs hB => ?_)
 refine l_store25 (k := 0) (cs' := #[.int .i64 bN, .int .i64 bD]) rfl rfl rfl rfl rfl rfl rfl rfl hs hB (fun w hB => ?_)
 replace hB : Bl w0 [(g9, .cells #[.int .i64 bN, .int .i64 bD] 25 (0, 0)), (g8, .cells #[.int .i64 aN, .int .i64 aD] 25 (0, 0)), (g5, .cells #[.int .i64 z0, .int .i64 z1] 22 (0, 0)), (g4, .cells #[.int .i64 y0, .int .i64 y1] 22 (0, 0)), (g3, .cells #[.int .i64 x0, .int .i64 x1] 22 (0, 0))] w := hB
 refine l_nil ?_
 replace hs := hs.sub (l := [(9, pt g9 0), (8, pt g8 0), (7, .bool true), (6, .bool false), (5, pt g5 0)]) (⟨rfl, rfl, rfl, rfl, rfl, trivial⟩)
 refine c_list ?_
 refine l_fit (v := pt g5 0) (fit_free rfl (ok_indexAddr22 (j := 0) rfl rfl rfl (by decide))) rfl rfl hs hB (fun a w hs hB => ?_)
 refine l_fit (v := .int .i64 z0) (fit_free rfl (ok_load3 (k := 2) rfl rfl rfl rfl)) rfl rfl hs hB (fun a w hs hB => ?_)
 refine l_fit (v := pt g5 1) (fit_free rfl (ok_indexAddr22 (j := 1) rfl rfl rfl (by decide))) rfl rfl hs hB (fun a w hs hB => ?_)
 refine l_fit (v := .int .i64 z1) (fit_free rfl (ok_load3 (k := 2) rfl rfl rfl rfl)) rfl rfl hs hB (fun a w hs hB => ?_)
 refine l_fit (v := .agg #[.int .i64 cN, .int .i64 cD]) (fit_free rfl (ok_call (args := #[.int .i64 z0, .int .i64 z1]) rfl Tryd.func10 (by kernel_rfl) rfl rfl (viaB fun w => F.wireloomref02_Made.calls K _ _ _ _ w mc))) rfl rfl hs hB (fun a w hs hB => ?_)
 refine l_alloc25 rfl rfl rfl rfl hs hB (fun g10 a w hs hB => ?_)
 refine l_store25 (k := 0) (cs' := #[.int .i64 cN, .int .i64 cD]) rfl rfl rfl rfl rfl rfl rfl rfl hs hB (fun w hB => ?_)
 replace hB : Bl w0 [(g10, .cells #[.int .i64 cN, .int .i64 cD] 25 (0, 0)), (g9, .cells #[.int .i64 bN, .int .i64 bD] 25 (0, 0)), (g8, .cells #[.int .i64 aN, .int .i64 aD] 25 (0, 0)), (g5, .cells #[.int .i64 z0, .int .i64 z1] 22 (0, 0)), (g4, .cells #[.int .i64 y0, .int .i64 y1] 22 (0, 0)), (g3, .cells #[.int .i64 x0, .int .i64 x1] 22 (0, 0))] w := hB
 refine l_nil ?_
 replace hs := hs.sub (l := [(10, pt g10 0), (9, pt g9 0), (8, pt g8 0), (7, .bool true), (6, .bool false)]) (⟨rfl, rfl, rfl, rfl, rfl, trivial⟩)
 refine c_list ?_
 refine l_fit (v := .agg #[.int .i64 0, .int .i64 1]) (fit_free rfl (ok_build25_1 rfl rfl)) rfl rfl hs hB (fun a w hs hB => ?_)
 refine l_alloc25 rfl rfl rfl rfl hs hB (fun g11 a w hs hB => ?_)
 refine l_store25 (k := 0) (cs' := #[.int .i64 0, .int .i64 1]) rfl rfl rfl rfl rfl rfl rfl rfl hs hB (fun w hB => ?_)
 replace hB : Bl w0 [(g11, .cells #[.int .i64 0, .int .i64 1] 25 (0, 0)), (g10, .cells #[.int .i64 cN, .int .i64 cD] 25 (0, 0)), (g9, .cells #[.int .i64 bN, .int .i64 bD] 25 (0, 0)), (g8, .cells #[.int .i64 aN, .int .i64 aD] 25 (0, 0)), (g5, .cells #[.int .i64 z0, .int .i64 z1] 22 (0, 0)), (g4, .cells #[.int .i64 y0, .int .i64 y1] 22 (0, 0)), (g3, .cells #[.int .i64 x0, .int .i64 x1] 22 (0, 0))] w := hB
 refine l_nil ?_
 replace hs := hs.sub (l := [(11, pt g11 0), (10, pt g10 0), (9, pt g9 0), (8, pt g8 0), (7, .bool true), (6, .bool false)]) (⟨rfl, rfl, rfl, rfl, rfl, rfl, trivial⟩)
 refine c_list ?_
 refine l_fit (v := .agg #[.int .i64 1, .int .i64 1]) (fit_free rfl (ok_build25 rfl rfl rfl)) rfl rfl hs hB (fun a w hs hB => ?_)
 refine l_alloc25 rfl rfl rfl rfl hs hB (fun g12 a w hs hB => ?_)
 refine l_store25 (k := 0) (cs' := #[.int .i64 1, .int .i64 1]) rfl rfl rfl rfl rfl rfl rfl rfl hs hB (fun w hB => ?_)
 replace hB : Bl w0 [(g12, .cells #[.int .i64 1, .int .i64 1] 25 (0, 0)), (g11, .cells #[.int .i64 0, .int .i64 1] 25 (0, 0)), (g10, .cells #[.int .i64 cN, .int .i64 cD] 25 (0, 0)), (g9, .cells #[.int .i64 bN, .int .i64 bD] 25 (0, 0)), (g8, .cells #[.int .i64 aN, .int .i64 aD] 25 (0, 0)), (g5, .cells #[.int .i64 z0, .int .i64 z1] 22 (0, 0)), (g4, .cells #[.int .i64 y0, .int .i64 y1] 22 (0, 0)), (g3, .cells #[.int .i64 x0, .int .i64 x1] 22 (0, 0))] w := hB
 refine l_nil ?_
 replace hs := hs.sub (l := [(12, pt g12 0), (11, pt g11 0), (10, pt g10 0), (9, pt g9 0), (8, pt g8 0), (7, .bool true), (6, .bool false)]) (⟨rfl, rfl, rfl, rfl, rfl, rfl, rfl, trivial⟩)
 refine wp_seq ?_
 refine wp_seq ?_
 replace hs := hs.sub (l := [(12, pt g12 0), (11, pt g11 0), (10, pt g10 0), (9, pt g9 0), (8, pt g8 0), (7, .bool true), (6, .bool false)]) (⟨rfl, rfl, rfl, rfl, rfl, rfl, rfl, trivial⟩)
 refine conf_region (n := 222) (sl := [(12, pt g12 0), (11, pt g11 0), (10, pt g10 0), (9, pt g9 0), (8, pt g8 0), (7, .bool true), (6, .bool false)]) (vs := [.agg #[.int .i64 aN, .int .i64 aD], .agg #[.int .i64 bN, .int .i64 bD], .agg #[.int .i64 R0, .int .i64 R1, .int .i64 R2], .agg #[.int .i64 bN, .int .i64 bD], .agg #[.int .i64 aN, .int .i64 aD], .agg #[.int .i64 R0, .int .i64 R1, .int .i64 R2], .bool false, .bool false, .agg #[.int .i64 aN, .int .i64 aD], .agg #[.int .i64 bN, .int .i64 bD], .agg #[.int .i64 M0, .int .i64 M1, .int .i64 M2], .agg #[.int .i64 bN, .int .i64 bD], .agg #[.int .i64 aN, .int .i64 aD], .agg #[.int .i64 M0, .int .i64 M1, .int .i64 M2], .bool false, .bool false, .bool false, .agg #[.int .i64 aN, .int .i64 aD], .agg #[.int .i64 0, .int .i64 1], .agg #[.int .i64 aN, .int .i64 aD, .int .i64 0], pt g8 0, .int .i64 aN, pt g8 1, .int .i64 aD, .agg #[.int .i64 aN, .int .i64 aD, .int .i64 0], .bool false, .bool false, .bool false, .agg #[.int .i64 aN, .int .i64 aD], .agg #[.int .i64 1, .int .i64 1], .agg #[.int .i64 aN, .int .i64 aD, .int .i64 0], pt g8 0, .int .i64 aN, pt g8 1, .int .i64 aD, .agg #[.int .i64 aN, .int .i64 aD, .int .i64 0], .bool false, .bool false, .bool false, .agg #[.int .i64 aN, .int .i64 aD], .agg #[.int .i64 aN, .int .i64 aD], .agg #[.int .i64 0, .int .i64 1, .int .i64 0], .agg #[.int .i64 0, .int .i64 1, .int .i64 0], .bool false, .bool false, .bool false, .agg #[.int .i64 aN, .int .i64 aD], .agg #[.int .i64 0, .int .i64 1], .agg #[.int .i64 0, .int .i64 1, .int .i64 0], .agg #[.int .i64 0, .int .i64 1, .int .i64 0], .bool false, .bool false]) (B := Bl w0 [(g12, .cells #[.int .i64 1, .int .i64 1] 25 (0, 0)), (g11, .cells #[.int .i64 0, .int .i64 1] 25 (0, 0)), (g10, .cells #[.int .i64 cN, .int .i64 cD] 25 (0, 0)), (g9, .cells #[.int .i64 bN, .int .i64 bD] 25 (0, 0)), (g8, .cells #[.int .i64 aN, .int .i64 aD] 25 (0, 0)), (g5, .cells #[.int .i64 z0, .int .i64 z1] 22 (0, 0)), (g4, .cells #[.int .i64 y0, .int .i64 y1] 22 (0, 0)), (g3, .cells #[.int .i64 x0, .int .i64 x1] 22 (0, 0))]) (by kernel_rfl) [12, 11, 10, 9, 8, 7, 6] rfl (by kernel_rfl) rfl (AllFitL.all ⟨fit_free rfl (ok_load25 (k := 4) rfl rfl rfl rfl rfl),
   fit_free rfl (ok_load25 (k := 3) rfl rfl rfl rfl rfl),
   fit_free rfl (ok_call (args := #[.agg #[.int .i64 aN, .int .i64 aD], .agg #[.int .i64 bN, .int .i64 bD]]) rfl Tryd.func14 (by kernel_rfl) rfl rfl (viaB fun w => F.wireloomlaw02_add.calls K _ _ _ _ _ _ _ w e1)),
   fit_free rfl (ok_load25 (k := 3) rfl rfl rfl rfl rfl),
   fit_free rfl (ok_load25 (k := 4) rfl rfl rfl rfl rfl),
   fit_free rfl (ok_call (args := #[.agg #[.int .i64 bN, .int .i64 bD], .agg #[.int .i64 aN, .int .i64 aD]]) rfl Tryd.func14 (by kernel_rfl) rfl rfl (viaB fun w => F.wireloomlaw02_add.calls K _ _ _ _ _ _ _ w e2)),
   fit_free rfl (ok_neq31 rfl rfl rfl (by simp)),
   fit_free rfl (ok_move rfl rfl),
   fit_on rfl rfl rfl (ok_load25 (k := 4) rfl rfl rfl rfl rfl),
   fit_on rfl rfl rfl (ok_load25 (k := 3) rfl rfl rfl rfl rfl),
   fit_on rfl rfl rfl (ok_call (args := #[.agg #[.int .i64 aN, .int .i64 aD], .agg #[.int .i64 bN, .int .i64 bD]]) rfl Tryd.func15 (by kernel_rfl) rfl rfl (viaB fun w => F.wireloomlaw02_mul.calls K _ _ _ _ _ _ _ w e3)),
   fit_on rfl rfl rfl (ok_load25 (k := 3) rfl rfl rfl rfl rfl),
   fit_on rfl rfl rfl (ok_load25 (k := 4) rfl rfl rfl rfl rfl),
   fit_on rfl rfl rfl (ok_call (args := #[.agg #[.int .i64 bN, .int .i64 bD], .agg #[.int .i64 aN, .int .i64 aD]]) rfl Tryd.func15 (by kernel_rfl) rfl rfl (viaB fun w => F.wireloomlaw02_mul.calls K _ _ _ _ _ _ _ w e4)),
   fit_on rfl rfl rfl (ok_neq31 rfl rfl rfl (by simp)),
   fit_free rfl (ok_pick_f rfl rfl rfl),
   fit_free rfl (ok_move rfl rfl),
   fit_on rfl rfl rfl (ok_load25 (k := 4) rfl rfl rfl rfl rfl),
   fit_on rfl rfl rfl (ok_load25 (k := 1) rfl rfl rfl rfl rfl),
   fit_on rfl rfl rfl (ok_call (args := #[.agg #[.int .i64 aN, .int .i64 aD], .agg #[.int .i64 0, .int .i64 1]]) rfl Tryd.func14 (by kernel_rfl) rfl rfl (viaB fun w => F.wireloomlaw02_add.calls K _ _ _ _ _ _ _ w e5)),
   fit_on rfl rfl rfl (ok_fieldAddr25_0 rfl rfl),
   fit_on rfl rfl rfl (ok_load3 (k := 4) rfl rfl rfl rfl),
   fit_on rfl rfl rfl (ok_fieldAddr25_1 rfl rfl),
   fit_on rfl rfl rfl (ok_load3 (k := 4) rfl rfl rfl rfl),
   fit_on rfl rfl rfl (ok_call (args := #[.int .i64 aN, .int .i64 aD]) rfl Tryd.func16 (by kernel_rfl) rfl rfl (viaB fun w => F.wireloomlaw02_is.calls _ _ _ _ _ w rfl)),
   fit_on rfl rfl rfl (ok_neq31 rfl rfl rfl (by simp)),
   fit_free rfl (ok_pick_f rfl rfl rfl),
   fit_free rfl (ok_move rfl rfl),
   fit_on rfl rfl rfl (ok_load25 (k := 4) rfl rfl rfl rfl rfl),
   fit_on rfl rfl rfl (ok_load25 (k := 0) rfl rfl rfl rfl rfl),
   fit_on rfl rfl rfl (ok_call (args := #[.agg #[.int .i64 aN, .int .i64 aD], .agg #[.int .i64 1, .int .i64 1]]) rfl Tryd.func15 (by kernel_rfl) rfl rfl (viaB fun w => F.wireloomlaw02_mul.calls K _ _ _ _ _ _ _ w e6)),
   fit_on rfl rfl rfl (ok_fieldAddr25_0 rfl rfl),
   fit_on rfl rfl rfl (ok_load3 (k := 4) rfl rfl rfl rfl),
   fit_on rfl rfl rfl (ok_fieldAddr25_1 rfl rfl),
   fit_on rfl rfl rfl (ok_load3 (k := 4) rfl rfl rfl rfl),
   fit_on rfl rfl rfl (ok_call (args := #[.int .i64 aN, .int .i64 aD]) rfl Tryd.func16 (by kernel_rfl) rfl rfl (viaB fun w => F.wireloomlaw02_is.calls _ _ _ _ _ w rfl)),
   fit_on rfl rfl rfl (ok_neq31 rfl rfl rfl (by simp)),
   fit_free rfl (ok_pick_f rfl rfl rfl),
   fit_free rfl (ok_move rfl rfl),
   fit_on rfl rfl rfl (ok_load25 (k := 4) rfl rfl rfl rfl rfl),
   fit_on rfl rfl rfl (ok_load25 (k := 4) rfl rfl rfl rfl rfl),
   fit_on rfl rfl rfl (ok_call (args := #[.agg #[.int .i64 aN, .int .i64 aD], .agg #[.int .i64 aN, .int .i64 aD]]) rfl Tryd.func21 (by kernel_rfl) rfl rfl (viaB fun w => F.wireloomlaw02_sub.calls K _ _ _ _ _ _ _ w e7)),
   fit_on rfl rfl rfl (ok_call (args := #[.int .i64 0, .int .i64 1]) rfl Tryd.func16 (by kernel_rfl) rfl rfl (viaB fun w => F.wireloomlaw02_is.calls _ _ _ _ _ w rfl)),
   fit_on rfl rfl rfl (ok_neq31 rfl rfl rfl (by simp)),
   fit_free rfl (ok_pick_f rfl rfl rfl),
   fit_free rfl (ok_move rfl rfl),
   fit_on rfl rfl rfl (ok_load25 (k := 4) rfl rfl rfl rfl rfl),
   fit_on rfl rfl rfl (ok_load25 (k := 1) rfl rfl rfl rfl rfl),
   fit_on rfl rfl rfl (ok_call (args := #[.agg #[.int .i64 aN, .int .i64 aD], .agg #[.int .i64 0, .int .i64 1]]) rfl Tryd.func15 (by kernel_rfl) rfl rfl (viaB fun w => F.wireloomlaw02_mul.calls K _ _ _ _ _ _ _ w e8)),
   fit_on rfl rfl rfl (ok_call (args := #[.int .i64 0, .int .i64 1]) rfl Tryd.func16 (by kernel_rfl) rfl rfl (viaB fun w => F.wireloomlaw02_is.calls _ _ _ _ _ w rfl)),
   fit_on rfl rfl rfl (ok_neq31 rfl rfl rfl (by simp)),
   fit_free rfl (ok_pick_f rfl rfl rfl),
   trivial⟩) hs hB.drew (fun a w hs hB => ?_)
 replace hs := hs.sub (l := [(91, .bool false), (10, pt g10 0), (9, pt g9 0), (8, pt g8 0), (7, .bool true), (6, .bool false)]) (⟨rfl, rfl, rfl, rfl, rfl, rfl, trivial⟩)
 refine then_n ?_
 replace hs := hs.sub (l := [(91, .bool false), (10, pt g10 0), (9, pt g9 0), (8, pt g8 0), (7, .bool true), (6, .bool false)]) (⟨rfl, rfl, rfl, rfl, rfl, rfl, trivial⟩)
 refine c_false hs rfl ?_
 refine wp_skip ?_
 refine then_n ?_
 replace hs := hs.sub (l := [(10, pt g10 0), (9, pt g9 0), (8, pt g8 0), (7, .bool true), (6, .bool false)]) (⟨rfl, rfl, rfl, rfl, rfl, trivial⟩)
 replace hs := hs.sub (l := [(7, .bool true), (8, pt g8 0), (9, pt g9 0), (10, pt g10 0)]) (⟨rfl, rfl, rfl, rfl, trivial⟩)
 replace hB : Bl w0 [(g10, .cells #[.int .i64 cN, .int .i64 cD] 25 (0, 0)), (g9, .cells #[.int .i64 bN, .int .i64 bD] 25 (0, 0)), (g8, .cells #[.int .i64 aN, .int .i64 aD] 25 (0, 0))] w := hB.keep [false, false, true, true, true, false, false, false]
 exact H g10 g9 g8  a w hs hB
end Go.Proofs.YtndfjpnpdnnpkaaDoor.Cx
