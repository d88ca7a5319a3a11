-- made by a program of this claim (wip/myprint.sh); Lean checks it
import Derived.Test.YtndfjpnpdnnpkaaDoorFx0
import Derived.Test.YtndfjpnpdnnpkaaDoorSt
import Derived.Test.YtndfjpnpdnnpkaaDoorFx2
import Derived.Test.YtndfjpnpdnnpkaaDoorFx3
import Derived.Test.YtndfjpnpdnnpkaaDoorFx4
import Derived.Test.YtndfjpnpdnnpkaaDoorFx5
import Derived.Test.YtndfjpnpdnnpkaaDoorFx6
import Derived.Test.YtndfjpnpdnnpkaaDoorFx7
import Derived.Test.YtndfjpnpdnnpkaaDoorFx8
import Derived.Test.YtndfjpnpdnnpkaaDoorGiven
namespace Go.Proofs.YtndfjpnpdnnpkaaDoor.F
open Go.RowKit Go.Proofs.YtndfjpnpdnnpkaaDoorW.PrintWords Go.Proofs.YtndfjpnpdnnpkaaDoorW.PrintLast Go.Proofs.YtndfjpnpdnnpkaaDoorW.PrintMore
attribute [local go_sem] max2_int min2_int max_two min_two max_three min_three max_four min_four   -- for this text's walks alone
set_option linter.unusedVariables false
set_option linter.unusedSimpArgs false

attribute [local go_sem high] eqA31
/-! ### wireloomlaw02_FractionRounds: function 3 -/
mutual
def wireloomlaw02_FractionRounds.j0 : Nat → Int → Bool → Int → Int → Bool → Int → Int → Option (Bool)
 | 0, _, _, _, _, _, _, _ => none
 | k + 1, x1, x5, x7, x8, x57, x375000, x375001 => if x57 = true then (some false) else ((wireloomlaw02_add.f k x375000 x375001 (wrap64 (x1)) 1).bind fun bt381 => (if bt381.2.2 = 0 then ((fraction_Floor.f bt381.1 bt381.2.1).bind fun t385 => (if t385 = (wrap64 (x7 + (wrap64 (x1)))) then ((fraction_Ceil.f bt381.1 bt381.2.1).bind fun t386 => (wireloomlaw02_FractionRounds.j1 k x5 (t386 != (wrap64 (x8 + (wrap64 (x1))))) x375000 x375001)) else (wireloomlaw02_FractionRounds.j1 k x5 true x375000 x375001))) else (wireloomlaw02_FractionRounds.j1 k x5 false x375000 x375001)))
def wireloomlaw02_FractionRounds.j1 : Nat → Bool → Bool → Int → Int → Option (Bool)
 | 0, _, _, _, _ => none
 | k + 1, x5, x85, x375000, x375001 => if x85 = true then (some false) else (if x5 = true then ((wireloomlaw02_mul.f k x375000 x375001 x375001 1).bind fun bt387 => ((wireloomlaw02_is.f x375000 1).bind fun bt390 => (some ((bt387.1 == bt390.1 && (bt387.2.1 == bt390.2.1)) && (bt387.2.2 == bt390.2.2))))) else (some false))
end
def wireloomlaw02_FractionRounds.f (k : Nat) (a0_0 : Int) (a0_1 : Int) (a1 : Int) : Option (Bool) := (wireloomlaw02_examples.f k).bind fun t371 => (if t371 = true then ((wireloomref02_Made.f k a0_0 a0_1).bind fun bt372 => ((fraction_Floor.f bt372.1 bt372.2).bind fun t375 => ((fraction_Ceil.f bt372.1 bt372.2).bind fun t376 => ((fraction_Cmp.f t375 1 bt372.1 bt372.2).bind fun t379 => (if t379 > 0 then (wireloomlaw02_FractionRounds.j0 k a1 t371 t375 t376 true bt372.1 bt372.2) else ((fraction_Cmp.f bt372.1 bt372.2 t376 1).bind fun t380 => (if t380 > 0 then (wireloomlaw02_FractionRounds.j0 k a1 t371 t375 t376 true bt372.1 bt372.2) else (if ((bt372.2 == 1) != (t376 == t375)) = true then (wireloomlaw02_FractionRounds.j0 k a1 t371 t375 t376 true bt372.1 bt372.2) else (if bt372.2 > 1 then (wireloomlaw02_FractionRounds.j0 k a1 t371 t375 t376 (t376 != (wrap64 (t375 + 1))) bt372.1 bt372.2) else (wireloomlaw02_FractionRounds.j0 k a1 t371 t375 t376 false bt372.1 bt372.2)))))))))) else (some false))
theorem wireloomlaw02_FractionRounds.mono_l : ∀ k, (∀ y0 y1 y2 y3 y4 y5 y6, LeO (wireloomlaw02_FractionRounds.j0 k y0 y1 y2 y3 y4 y5 y6) (wireloomlaw02_FractionRounds.j0 (k + 1) y0 y1 y2 y3 y4 y5 y6)) ∧ (∀ y0 y1 y2 y3, LeO (wireloomlaw02_FractionRounds.j1 k y0 y1 y2 y3) (wireloomlaw02_FractionRounds.j1 (k + 1) y0 y1 y2 y3))
 | 0 => ⟨fun _ _ _ _ _ _ _ r h => by simp [wireloomlaw02_FractionRounds.j0] at h, fun _ _ _ _ r h => by simp [wireloomlaw02_FractionRounds.j1] at h⟩
 | k + 1 => by
  obtain ⟨ih0, ih1⟩ := wireloomlaw02_FractionRounds.mono_l k
  refine ⟨?_, ?_⟩
  ·intro y0 y1 y2 y3 y4 y5 y6
   unfold wireloomlaw02_FractionRounds.j0
   repeat' first
   | (with_reducible exact ih0 _ _ _ _ _ _ _)
   | (with_reducible exact ih1 _ _ _ _)
   | (with_reducible exact wireloomlaw02_add.mono _ _ _ _ _)
   | (with_reducible exact wireloomlaw02_examples.mono _)
   | (with_reducible exact wireloomlaw02_mul.mono _ _ _ _ _)
   | (with_reducible exact wireloomref02_Made.mono _ _ _)
   | (with_reducible exact LeO.refl _)
   | (with_reducible exact LeO.none _)
   | (with_reducible refine LeO.ite ?_ ?_)
   | (with_reducible refine LeO.bind ?_ (fun _ => ?_))
   | exact ih0 _ _ _ _ _ _ _
   | exact ih1 _ _ _ _
   | exact wireloomlaw02_add.mono _ _ _ _ _
   | exact wireloomlaw02_examples.mono _
   | exact wireloomlaw02_mul.mono _ _ _ _ _
   | exact wireloomref02_Made.mono _ _ _
   | exact LeO.none _
   | refine LeO.ite ?_ ?_
   | refine LeO.bind ?_ (fun _ => ?_)
  ·intro y0 y1 y2 y3
   unfold wireloomlaw02_FractionRounds.j1
   repeat' first
   | (with_reducible exact ih0 _ _ _ _ _ _ _)
   | (with_reducible exact ih1 _ _ _ _)
   | (with_reducible exact wireloomlaw02_add.mono _ _ _ _ _)
   | (with_reducible exact wireloomlaw02_examples.mono _)
   | (with_reducible exact wireloomlaw02_mul.mono _ _ _ _ _)
   | (with_reducible exact wireloomref02_Made.mono _ _ _)
   | (with_reducible exact LeO.refl _)
   | (with_reducible exact LeO.none _)
   | (with_reducible refine LeO.ite ?_ ?_)
   | (with_reducible refine LeO.bind ?_ (fun _ => ?_))
   | exact ih0 _ _ _ _ _ _ _
   | exact ih1 _ _ _ _
   | exact wireloomlaw02_add.mono _ _ _ _ _
   | exact wireloomlaw02_examples.mono _
   | exact wireloomlaw02_mul.mono _ _ _ _ _
   | exact wireloomref02_Made.mono _ _ _
   | exact LeO.none _
   | refine LeO.ite ?_ ?_
   | refine LeO.bind ?_ (fun _ => ?_)
theorem wireloomlaw02_FractionRounds.mono : ∀ a0 a1 a2 k, LeO (wireloomlaw02_FractionRounds.f k a0 a1 a2) (wireloomlaw02_FractionRounds.f (k + 1) a0 a1 a2) := by
 intro a0 a1 a2 k
 obtain ⟨ih0, ih1⟩ := wireloomlaw02_FractionRounds.mono_l k
 unfold wireloomlaw02_FractionRounds.f
 repeat' first
   | (with_reducible exact ih0 _ _ _ _ _ _ _)
   | (with_reducible exact ih1 _ _ _ _)
   | (with_reducible exact wireloomlaw02_add.mono _ _ _ _ _)
   | (with_reducible exact wireloomlaw02_examples.mono _)
   | (with_reducible exact wireloomlaw02_mul.mono _ _ _ _ _)
   | (with_reducible exact wireloomref02_Made.mono _ _ _)
   | (with_reducible exact LeO.refl _)
   | (with_reducible exact LeO.none _)
   | (with_reducible refine LeO.ite ?_ ?_)
   | (with_reducible refine LeO.bind ?_ (fun _ => ?_))
   | exact ih0 _ _ _ _ _ _ _
   | exact ih1 _ _ _ _
   | exact wireloomlaw02_add.mono _ _ _ _ _
   | exact wireloomlaw02_examples.mono _
   | exact wireloomlaw02_mul.mono _ _ _ _ _
   | exact wireloomref02_Made.mono _ _ _
   | exact LeO.none _
   | refine LeO.ite ?_ ?_
   | refine LeO.bind ?_ (fun _ => ?_)
theorem wireloomlaw02_FractionRounds.dead_j0_true (k : Nat) (x1 : Int) (x5 : Bool) (x7 : Int) (x8 : Int) (x375000 : Int) (x375001 : Int) : ¬ wireloomlaw02_FractionRounds.j0 k x1 x5 x7 x8 true x375000 x375001 = some true := by
 cases k with
 | zero => simp [wireloomlaw02_FractionRounds.j0]
 | succ k => simp [wireloomlaw02_FractionRounds.j0]
theorem wireloomlaw02_FractionRounds.dead_j1_true (k : Nat) (x5 : Bool) (x375000 : Int) (x375001 : Int) : ¬ wireloomlaw02_FractionRounds.j1 k x5 true x375000 x375001 = some true := by
 cases k with
 | zero => simp [wireloomlaw02_FractionRounds.j1]
 | succ k => simp [wireloomlaw02_FractionRounds.j1]
def wireloomlaw02_FractionRounds.T14 : Bool × List (List Nat × List Nat) := (true, [([], []), ([0], [0]), ([1], [1]), ([1], [1]), ([3, 1], [1, 3]), ([4, 1], [1, 4]), ([2, 5, 1, 1], [1, 2, 5]), ([1], [1]), ([7, 1], [1, 7]), ([8, 6, 1], [1, 8]), ([6, 9, 1], [1, 6, 9]), ([1, 10], [1, 10]), ([11, 9, 0, 1, 2, 3, 4, 5, 6, 7, 8, 9, 10, 11], [11])])
def wireloomlaw02_FractionRounds.B14 : List Nat := [0, 1, 3, 3, 11, 27, 63, 3, 131, 511, 1023, 2047, 4095]
theorem wireloomlaw02_FractionRounds.tab14 : rtab .any (opsOf Tryd.f3 14) = wireloomlaw02_FractionRounds.T14 := by kernel_rfl
theorem wireloomlaw02_FractionRounds.bits14 : waitsOk wireloomlaw02_FractionRounds.T14.2 wireloomlaw02_FractionRounds.B14 = true := by kernel_rfl
set_option maxHeartbeats 8000000 in
set_option maxRecDepth 100000 in
theorem wireloomlaw02_FractionRounds.calls (k : Nat) (a0_0 : Int) (a0_1 : Int) (a1 : Int) (w : World) (hGL : GL w) (h : wireloomlaw02_FractionRounds.f k a0_0 a0_1 a1 = some true) :
  Calls Tryd.prog 3 #[.agg #[.int .i64 a0_0, .int .i64 a0_1], .int .i32 a1] w fun e w' => e = .returned (.bool true) ∧ Below w.heap.size w w' := by
 have hu22 := Tryd.underlying22
 have hu25 := Tryd.underlying25
 have hu31 := Tryd.underlying31
 have HB := Aside0.mk (Below.refl w.heap.size w)
 have H : ((wireloomlaw02_examples.f k).bind fun t371 => (if t371 = true then ((wireloomref02_Made.f k a0_0 a0_1).bind fun bt372 => ((fraction_Floor.f bt372.1 bt372.2).bind fun t375 => ((fraction_Ceil.f bt372.1 bt372.2).bind fun t376 => ((fraction_Cmp.f t375 1 bt372.1 bt372.2).bind fun t379 => (if t379 > 0 then (wireloomlaw02_FractionRounds.j0 k a1 t371 t375 t376 true bt372.1 bt372.2) else ((fraction_Cmp.f bt372.1 bt372.2 t376 1).bind fun t380 => (if t380 > 0 then (wireloomlaw02_FractionRounds.j0 k a1 t371 t375 t376 true bt372.1 bt372.2) else (if ((bt372.2 == 1) != (t376 == t375)) = true then (wireloomlaw02_FractionRounds.j0 k a1 t371 t375 t376 true bt372.1 bt372.2) else (if bt372.2 > 1 then (wireloomlaw02_FractionRounds.j0 k a1 t371 t375 t376 (t376 != (wrap64 (t375 + 1))) bt372.1 bt372.2) else (wireloomlaw02_FractionRounds.j0 k a1 t371 t375 t376 false bt372.1 bt372.2)))))))))) else (some false))) = some true := h
 clear h
 replace H := Option.bind_eq_some_iff.mp H
 obtain ⟨t371, A30, H⟩ := H
 replace H : (if t371 = true then ((wireloomref02_Made.f k a0_0 a0_1).bind fun bt372 => ((fraction_Floor.f bt372.1 bt372.2).bind fun t375 => ((fraction_Ceil.f bt372.1 bt372.2).bind fun t376 => ((fraction_Cmp.f t375 1 bt372.1 bt372.2).bind fun t379 => (if t379 > 0 then (wireloomlaw02_FractionRounds.j0 k a1 t371 t375 t376 true bt372.1 bt372.2) else ((fraction_Cmp.f bt372.1 bt372.2 t376 1).bind fun t380 => (if t380 > 0 then (wireloomlaw02_FractionRounds.j0 k a1 t371 t375 t376 true bt372.1 bt372.2) else (if ((bt372.2 == 1) != (t376 == t375)) = true then (wireloomlaw02_FractionRounds.j0 k a1 t371 t375 t376 true bt372.1 bt372.2) else (if bt372.2 > 1 then (wireloomlaw02_FractionRounds.j0 k a1 t371 t375 t376 (t376 != (wrap64 (t375 + 1))) bt372.1 bt372.2) else (wireloomlaw02_FractionRounds.j0 k a1 t371 t375 t376 false bt372.1 bt372.2)))))))))) else (some false)) = some true := H
 have A3 := Aside0.mk A30
 clear A30
 by_cases c4 : t371 = true
 ·subst c4
  have H1 : ((wireloomref02_Made.f k a0_0 a0_1).bind fun bt372 => ((fraction_Floor.f bt372.1 bt372.2).bind fun t375 => ((fraction_Ceil.f bt372.1 bt372.2).bind fun t376 => ((fraction_Cmp.f t375 1 bt372.1 bt372.2).bind fun t379 => (if t379 > 0 then (wireloomlaw02_FractionRounds.j0 k a1 true t375 t376 true bt372.1 bt372.2) else ((fraction_Cmp.f bt372.1 bt372.2 t376 1).bind fun t380 => (if t380 > 0 then (wireloomlaw02_FractionRounds.j0 k a1 true t375 t376 true bt372.1 bt372.2) else (if ((bt372.2 == 1) != (t376 == t375)) = true then (wireloomlaw02_FractionRounds.j0 k a1 true t375 t376 true bt372.1 bt372.2) else (if bt372.2 > 1 then (wireloomlaw02_FractionRounds.j0 k a1 true t375 t376 (t376 != (wrap64 (t375 + 1))) bt372.1 bt372.2) else (wireloomlaw02_FractionRounds.j0 k a1 true t375 t376 false bt372.1 bt372.2)))))))))) = some true := by rw [if_pos rfl] at H; exact H
  clear H
  have H := H1
  clear H1
  replace H := Option.bind_eq_some_iff.mp H
  obtain ⟨⟨t372, t373⟩, A50, H⟩ := H
  replace H : ((fraction_Floor.f t372 t373).bind fun t375 => ((fraction_Ceil.f t372 t373).bind fun t376 => ((fraction_Cmp.f t375 1 t372 t373).bind fun t379 => (if t379 > 0 then (wireloomlaw02_FractionRounds.j0 k a1 true t375 t376 true t372 t373) else ((fraction_Cmp.f t372 t373 t376 1).bind fun t380 => (if t380 > 0 then (wireloomlaw02_FractionRounds.j0 k a1 true t375 t376 true t372 t373) else (if ((t373 == 1) != (t376 == t375)) = true then (wireloomlaw02_FractionRounds.j0 k a1 true t375 t376 true t372 t373) else (if t373 > 1 then (wireloomlaw02_FractionRounds.j0 k a1 true t375 t376 (t376 != (wrap64 (t375 + 1))) t372 t373) else (wireloomlaw02_FractionRounds.j0 k a1 true t375 t376 false t372 t373))))))))) = some true := H
  have A5 := Aside0.mk A50
  clear A50
  replace H := Option.bind_eq_some_iff.mp H
  obtain ⟨t375, A60, H⟩ := H
  replace H : ((fraction_Ceil.f t372 t373).bind fun t376 => ((fraction_Cmp.f t375 1 t372 t373).bind fun t379 => (if t379 > 0 then (wireloomlaw02_FractionRounds.j0 k a1 true t375 t376 true t372 t373) else ((fraction_Cmp.f t372 t373 t376 1).bind fun t380 => (if t380 > 0 then (wireloomlaw02_FractionRounds.j0 k a1 true t375 t376 true t372 t373) else (if ((t373 == 1) != (t376 == t375)) = true then (wireloomlaw02_FractionRounds.j0 k a1 true t375 t376 true t372 t373) else (if t373 > 1 then (wireloomlaw02_FractionRounds.j0 k a1 true t375 t376 (t376 != (wrap64 (t375 + 1))) t372 t373) else (wireloomlaw02_FractionRounds.j0 k a1 true t375 t376 false t372 t373)))))))) = some true := H
  have A6 := Aside0.mk A60
  clear A60
  replace H := Option.bind_eq_some_iff.mp H
  obtain ⟨t376, A70, H⟩ := H
  replace H : ((fraction_Cmp.f t375 1 t372 t373).bind fun t379 => (if t379 > 0 then (wireloomlaw02_FractionRounds.j0 k a1 true t375 t376 true t372 t373) else ((fraction_Cmp.f t372 t373 t376 1).bind fun t380 => (if t380 > 0 then (wireloomlaw02_FractionRounds.j0 k a1 true t375 t376 true t372 t373) else (if ((t373 == 1) != (t376 == t375)) = true then (wireloomlaw02_FractionRounds.j0 k a1 true t375 t376 true t372 t373) else (if t373 > 1 then (wireloomlaw02_FractionRounds.j0 k a1 true t375 t376 (t376 != (wrap64 (t375 + 1))) t372 t373) else (wireloomlaw02_FractionRounds.j0 k a1 true t375 t376 false t372 t373))))))) = some true := H
  have A7 := Aside0.mk A70
  clear A70
  have HC8 := Aside0.mk H
  clear H
  go_enter Tryd.func3, Tryd.ntmps3
  go_upto_region 9 with (first | ((with_reducible refine gate_dst (N := 2) rfl ?_); refine box_event ?hg (N := 2) ?hd (cs := #[.int .i64 a0_0, .int .i64 a0_1]) (t := 22) ?hr ?_; (case hd => rfl); (case hg => rfl); (case hr => first | (go_simp; done) | (go_simp; rfl)); intro gb370 hg w9 hbox hb; have n0_ := Aside0.mk (below_step (by repeat (first | (with_reducible first | exact HB.out | apply below_alloc | apply pw_below_drewN | apply below_drew1) | exact HB.out)) hb); have n1_ := Aside0.mk (hbox); have n2_ := Aside0.mk ((by rw [hg]; exact (below_size (by repeat (first | (with_reducible first | exact HB.out | apply below_alloc | apply pw_below_drewN | apply below_drew1) | exact HB.out))) : w.heap.size ≤ gb370)); have n3_ := Aside0.mk ((by rw [hg]; exact (below_size (by repeat (first | (with_reducible first | exact HB.out | apply below_alloc | apply pw_below_drewN | apply below_drew1) | exact HB.out))) : w.heap.size ≤ gb370)); clear HB; have HB := n0_; have BK370 := n1_; have GW370 := n2_; have GE370 := n3_; clear n0_ n1_ n2_ n3_; clear hb hbox hg) | ((with_reducible refine gate_callee (f := 9) rfl ?_); refine goesL_ (some 12) rfl rfl Tryd.func9 (by kernel_rfl) rfl #[] rfl (by (try simp only [List.map_toArray, List.map_cons, List.map_nil]); first | done | rfl | (simp only [List.length_drop, List.length_take]; rfl)) ?_; (with_reducible refine (wireloomlaw02_examples.calls k  true _ ?side1 A3.out).mono ?_); (case side1 => exact GL.below hGL (by repeat (first | (with_reducible first | exact HB.out | apply below_alloc | apply pw_below_drewN | apply below_drew1 | refine below_set ?_ GE370.out) | exact HB.out))); rintro e w10 ⟨rfl, hb⟩; refine ⟨_, rfl, ?_⟩; have n0_ := Aside0.mk (blk_below (g := gb370) (o := .cells #[.int .i64 a0_0, .int .i64 a0_1] 22 (0, 0)) (by (with_reducible repeat (first | refine blk_drewN ?_ _ | refine blk_drew ?_ | refine blk_alloc ?_ _)); exact BK370.out) hb); have n1_ := Aside0.mk (below_step (by repeat (first | (with_reducible first | exact HB.out | apply below_alloc | apply pw_below_drewN | apply below_drew1 | refine below_set ?_ GE370.out) | exact HB.out)) hb); clear BK370; clear HB; have BK370 := n0_; have HB := n1_; clear n0_ n1_; (try clear hb); (try clear hb2); (try clear hk); (try clear hi); (try clear A3); have hcz11_0 : w10.cell? ⟨gb370, 0, none⟩ = some (.int .i64 a0_0) := (blk_cell BK370.out 0).trans rfl; have hcz11_1 : w10.cell? ⟨gb370, 1, none⟩ = some (.int .i64 a0_1) := (blk_cell BK370.out 1).trans rfl; have hfz11_0 := blk_frozen BK370.out 0; have hfz11_1 := blk_frozen BK370.out 1) | ((with_reducible refine gate_callee (f := 10) rfl ?_); refine goesL_ (some 19) rfl rfl Tryd.func10 (by kernel_rfl) rfl #[.int .i64 a0_0, .int .i64 a0_1] rfl (by (try simp only [List.map_toArray, List.map_cons, List.map_nil]); first | done | rfl | (simp only [List.length_drop, List.length_take]; rfl)) ?_; (with_reducible refine (wireloomref02_Made.calls k a0_0 a0_1 t372 t373 _ A5.out).mono ?_); rintro e w12 ⟨rfl, hb⟩; refine ⟨_, rfl, ?_⟩; have n0_ := Aside0.mk (blk_below (g := gb370) (o := .cells #[.int .i64 a0_0, .int .i64 a0_1] 22 (0, 0)) (by (with_reducible repeat (first | refine blk_drewN ?_ _ | refine blk_drew ?_ | refine blk_alloc ?_ _)); exact BK370.out) hb); have n1_ := Aside0.mk (below_step (by repeat (first | (with_reducible first | exact HB.out | apply below_alloc | apply pw_below_drewN | apply below_drew1 | refine below_set ?_ GE370.out) | exact HB.out)) hb); clear BK370; clear HB; have BK370 := n0_; have HB := n1_; clear n0_ n1_; (try clear hb); (try clear hb2); (try clear hk); (try clear hi); (try clear A5)) | ((with_reducible refine gate_dst (N := 6) rfl ?_); refine box_event ?hg (N := 6) ?hd (cs := #[.int .i64 0, .int .i64 0]) (t := 25) ?hr ?_; (case hd => rfl); (case hg => rfl); (case hr => first | (go_simp; done) | (go_simp; rfl)); intro gb374 hg w13 hbox hb; have n0_ := Aside0.mk (blk_below (g := gb370) (o := .cells #[.int .i64 a0_0, .int .i64 a0_1] 22 (0, 0)) (by (with_reducible repeat (first | refine blk_drewN ?_ _ | refine blk_drew ?_ | refine blk_alloc ?_ _)); exact BK370.out) hb); have n1_ := Aside0.mk (below_step (by repeat (first | (with_reducible first | exact HB.out | apply below_alloc | apply pw_below_drewN | apply below_drew1 | refine below_set ?_ GE370.out) | exact HB.out)) hb); have n2_ := Aside0.mk (hbox); have n3_ := Aside0.mk ((by rw [hg]; exact (below_size (by repeat (first | (with_reducible first | exact HB.out | apply below_alloc | apply pw_below_drewN | apply below_drew1 | refine below_set ?_ GE370.out) | exact HB.out))) : w.heap.size ≤ gb374)); have n4_ := Aside0.mk ((by rw [hg]; exact (below_size (by repeat (first | (with_reducible first | exact HB.out | apply below_alloc | apply pw_below_drewN | apply below_drew1 | refine below_set ?_ GE370.out) | exact HB.out))) : w.heap.size ≤ gb374)); have n5_ := Aside0.mk ((by rw [hg]; exact Nat.ne_of_lt (blk_lt (g := gb370) (o := .cells #[.int .i64 a0_0, .int .i64 a0_1] 22 (0, 0)) (by (with_reducible repeat (first | refine blk_drewN ?_ _ | refine blk_drew ?_ | refine blk_alloc ?_ _)); exact BK370.out)) : gb370 ≠ gb374)); have n6_ := Aside0.mk ((by rw [hg]; exact Nat.ne_of_gt (blk_lt (g := gb370) (o := .cells #[.int .i64 a0_0, .int .i64 a0_1] 22 (0, 0)) (by (with_reducible repeat (first | refine blk_drewN ?_ _ | refine blk_drew ?_ | refine blk_alloc ?_ _)); exact BK370.out)) : gb374 ≠ gb370)); clear BK370; clear HB; have BK370 := n0_; have HB := n1_; have BK374 := n2_; have GW374 := n3_; have GE374 := n4_; have NB370_374 := n5_; have NB374_370 := n6_; clear n0_ n1_ n2_ n3_ n4_ n5_ n6_; clear hb hbox hg; have hnb14 := NB374_370.out; have hnc14 := NB370_374.out; have hcz15_0 : w13.cell? ⟨gb374, 0, none⟩ = some (.int .i64 0) := (blk_cell BK374.out 0).trans rfl; have hcz15_1 : w13.cell? ⟨gb374, 1, none⟩ = some (.int .i64 0) := (blk_cell BK374.out 1).trans rfl; have hfz15_0 := blk_frozen BK374.out 0; have hfz15_1 := blk_frozen BK374.out 1) | ((with_reducible refine gate_callee (f := 11) rfl ?_); refine goesL_ (some 21) rfl rfl Tryd.func11 (by kernel_rfl) rfl #[.agg #[.int .i64 t372, .int .i64 t373]] rfl (by (try simp only [List.map_toArray, List.map_cons, List.map_nil]); first | done | rfl | (simp only [List.length_drop, List.length_take]; rfl)) ?_; (with_reducible refine (fraction_Floor.calls t372 t373 t375 _ A6.out).mono ?_); rintro e w16 ⟨rfl, hb⟩; refine ⟨_, rfl, ?_⟩; have n0_ := Aside0.mk (blk_below (g := gb370) (o := .cells #[.int .i64 a0_0, .int .i64 a0_1] 22 (0, 0)) (by repeat first | (with_reducible first | refine blk_drewN ?_ _ | refine blk_drew ?_ | refine blk_alloc ?_ _) | refine blk_far ?_ NB370_374.out _ | exact BK370.out) hb); have n1_ := Aside0.mk (blk_below (g := gb374) (o := .cells #[.int .i64 t372, .int .i64 t373] 25 (0, 0)) (by (with_reducible repeat (first | refine blk_drewN ?_ _ | refine blk_drew ?_ | refine blk_alloc ?_ _)); refine blk_put (cs := #[.int .i64 t372, .int .i64 0]) ?_ 1 _ rfl; (with_reducible repeat (first | refine blk_drewN ?_ _ | refine blk_drew ?_ | refine blk_alloc ?_ _)); refine blk_put (cs := #[.int .i64 0, .int .i64 0]) ?_ 0 _ rfl; (with_reducible repeat (first | refine blk_drewN ?_ _ | refine blk_drew ?_ | refine blk_alloc ?_ _)); exact BK374.out) hb); have n2_ := Aside0.mk (below_step (by repeat (first | (with_reducible first | exact HB.out | apply below_alloc | apply pw_below_drewN | apply below_drew1 | refine below_set ?_ GE370.out | refine below_set ?_ GE374.out) | exact HB.out)) hb); clear BK370; clear BK374; clear HB; have BK370 := n0_; have BK374 := n1_; have HB := n2_; clear n0_ n1_ n2_; (try clear hb); (try clear hb2); (try clear hk); (try clear hi); (try clear A6); have hcz17_0 : w16.cell? ⟨gb374, 0, none⟩ = some (.int .i64 t372) := (blk_cell BK374.out 0).trans rfl; have hcz17_1 : w16.cell? ⟨gb374, 1, none⟩ = some (.int .i64 t373) := (blk_cell BK374.out 1).trans rfl; have hfz17_0 := blk_frozen BK374.out 0; have hfz17_1 := blk_frozen BK374.out 1) | ((with_reducible refine gate_callee (f := 12) rfl ?_); refine goesL_ (some 23) rfl rfl Tryd.func12 (by kernel_rfl) rfl #[.agg #[.int .i64 t372, .int .i64 t373]] rfl (by (try simp only [List.map_toArray, List.map_cons, List.map_nil]); first | done | rfl | (simp only [List.length_drop, List.length_take]; rfl)) ?_; (with_reducible refine (fraction_Ceil.calls t372 t373 t376 _ A7.out).mono ?_); rintro e w18 ⟨rfl, hb⟩; refine ⟨_, rfl, ?_⟩; have n0_ := Aside0.mk (blk_below (g := gb370) (o := .cells #[.int .i64 a0_0, .int .i64 a0_1] 22 (0, 0)) (by (with_reducible repeat (first | refine blk_drewN ?_ _ | refine blk_drew ?_ | refine blk_alloc ?_ _)); exact BK370.out) hb); have n1_ := Aside0.mk (blk_below (g := gb374) (o := .cells #[.int .i64 t372, .int .i64 t373] 25 (0, 0)) (by (with_reducible repeat (first | refine blk_drewN ?_ _ | refine blk_drew ?_ | refine blk_alloc ?_ _)); exact BK374.out) hb); have n2_ := Aside0.mk (below_step (by repeat (first | (with_reducible first | exact HB.out | apply below_alloc | apply pw_below_drewN | apply below_drew1 | refine below_set ?_ GE370.out | refine below_set ?_ GE374.out) | exact HB.out)) hb); clear BK370; clear BK374; clear HB; have BK370 := n0_; have BK374 := n1_; have HB := n2_; clear n0_ n1_ n2_; (try clear hb); (try clear hb2); (try clear hk); (try clear hi); (try clear A7)) | ((with_reducible refine gate_dst (N := 9) rfl ?_); refine box_event ?hg (N := 9) ?hd (cs := #[.int .i64 0, .int .i64 0]) (t := 25) ?hr ?_; (case hd => rfl); (case hg => rfl); (case hr => first | (go_simp; done) | (go_simp; rfl)); intro gb377 hg w19 hbox hb; have n0_ := Aside0.mk (blk_below (g := gb370) (o := .cells #[.int .i64 a0_0, .int .i64 a0_1] 22 (0, 0)) (by (with_reducible repeat (first | refine blk_drewN ?_ _ | refine blk_drew ?_ | refine blk_alloc ?_ _)); exact BK370.out) hb); have n1_ := Aside0.mk (blk_below (g := gb374) (o := .cells #[.int .i64 t372, .int .i64 t373] 25 (0, 0)) (by (with_reducible repeat (first | refine blk_drewN ?_ _ | refine blk_drew ?_ | refine blk_alloc ?_ _)); exact BK374.out) hb); have n2_ := Aside0.mk (below_step (by repeat (first | (with_reducible first | exact HB.out | apply below_alloc | apply pw_below_drewN | apply below_drew1 | refine below_set ?_ GE370.out | refine below_set ?_ GE374.out) | exact HB.out)) hb); have n3_ := Aside0.mk (hbox); have n4_ := Aside0.mk ((by rw [hg]; exact (below_size (by repeat (first | (with_reducible first | exact HB.out | apply below_alloc | apply pw_below_drewN | apply below_drew1 | refine below_set ?_ GE370.out | refine below_set ?_ GE374.out) | exact HB.out))) : w.heap.size ≤ gb377)); have n5_ := Aside0.mk ((by rw [hg]; exact (below_size (by repeat (first | (with_reducible first | exact HB.out | apply below_alloc | apply pw_below_drewN | apply below_drew1 | refine below_set ?_ GE370.out | refine below_set ?_ GE374.out) | exact HB.out))) : w.heap.size ≤ gb377)); have n6_ := Aside0.mk ((by rw [hg]; exact Nat.ne_of_lt (blk_lt (g := gb370) (o := .cells #[.int .i64 a0_0, .int .i64 a0_1] 22 (0, 0)) (by (with_reducible repeat (first | refine blk_drewN ?_ _ | refine blk_drew ?_ | refine blk_alloc ?_ _)); exact BK370.out)) : gb370 ≠ gb377)); have n7_ := Aside0.mk ((by rw [hg]; exact Nat.ne_of_gt (blk_lt (g := gb370) (o := .cells #[.int .i64 a0_0, .int .i64 a0_1] 22 (0, 0)) (by (with_reducible repeat (first | refine blk_drewN ?_ _ | refine blk_drew ?_ | refine blk_alloc ?_ _)); exact BK370.out)) : gb377 ≠ gb370)); have n8_ := Aside0.mk ((by rw [hg]; exact Nat.ne_of_lt (blk_lt (g := gb374) (o := .cells #[.int .i64 t372, .int .i64 t373] 25 (0, 0)) (by (with_reducible repeat (first | refine blk_drewN ?_ _ | refine blk_drew ?_ | refine blk_alloc ?_ _)); exact BK374.out)) : gb374 ≠ gb377)); have n9_ := Aside0.mk ((by rw [hg]; exact Nat.ne_of_gt (blk_lt (g := gb374) (o := .cells #[.int .i64 t372, .int .i64 t373] 25 (0, 0)) (by (with_reducible repeat (first | refine blk_drewN ?_ _ | refine blk_drew ?_ | refine blk_alloc ?_ _)); exact BK374.out)) : gb377 ≠ gb374)); clear BK370; clear BK374; clear HB; have BK370 := n0_; have BK374 := n1_; have HB := n2_; have BK377 := n3_; have GW377 := n4_; have GE377 := n5_; have NB370_377 := n6_; have NB377_370 := n7_; have NB374_377 := n8_; have NB377_374 := n9_; clear n0_ n1_ n2_ n3_ n4_ n5_ n6_ n7_ n8_ n9_; clear hb hbox hg; have hnb20 := NB377_370.out; have hnc20 := NB370_377.out; have hnb21 := NB377_374.out; have hnc21 := NB374_377.out; have hcz22_0 : w19.cell? ⟨gb377, 0, none⟩ = some (.int .i64 0) := (blk_cell BK377.out 0).trans rfl; have hcz22_1 : w19.cell? ⟨gb377, 1, none⟩ = some (.int .i64 0) := (blk_cell BK377.out 1).trans rfl; have hfz22_0 := blk_frozen BK377.out 0; have hfz22_1 := blk_frozen BK377.out 1) | ((with_reducible refine gate_dst (N := 10) rfl ?_); refine box_event ?hg (N := 10) ?hd (cs := #[.int .i64 0, .int .i64 0]) (t := 25) ?hr ?_; (case hd => rfl); (case hg => rfl); (case hr => first | (go_simp; done) | (go_simp; rfl)); intro gb378 hg w23 hbox hb; have n0_ := Aside0.mk (blk_below (g := gb370) (o := .cells #[.int .i64 a0_0, .int .i64 a0_1] 22 (0, 0)) (by repeat first | (with_reducible first | refine blk_drewN ?_ _ | refine blk_drew ?_ | refine blk_alloc ?_ _) | refine blk_far ?_ NB370_377.out _ | exact BK370.out) hb); have n1_ := Aside0.mk (blk_below (g := gb374) (o := .cells #[.int .i64 t372, .int .i64 t373] 25 (0, 0)) (by repeat first | (with_reducible first | refine blk_drewN ?_ _ | refine blk_drew ?_ | refine blk_alloc ?_ _) | refine blk_far ?_ NB374_377.out _ | exact BK374.out) hb); have n2_ := Aside0.mk (blk_below (g := gb377) (o := .cells #[.int .i64 t375, .int .i64 1] 25 (0, 0)) (by (with_reducible repeat (first | refine blk_drewN ?_ _ | refine blk_drew ?_ | refine blk_alloc ?_ _)); refine blk_put (cs := #[.int .i64 t375, .int .i64 0]) ?_ 1 _ rfl; (with_reducible repeat (first | refine blk_drewN ?_ _ | refine blk_drew ?_ | refine blk_alloc ?_ _)); refine blk_put (cs := #[.int .i64 0, .int .i64 0]) ?_ 0 _ rfl; (with_reducible repeat (first | refine blk_drewN ?_ _ | refine blk_drew ?_ | refine blk_alloc ?_ _)); exact BK377.out) hb); have n3_ := Aside0.mk (below_step (by repeat (first | (with_reducible first | exact HB.out | apply below_alloc | apply pw_below_drewN | apply below_drew1 | refine below_set ?_ GE370.out | refine below_set ?_ GE374.out | refine below_set ?_ GE377.out) | exact HB.out)) hb); have n4_ := Aside0.mk (hbox); have n5_ := Aside0.mk ((by rw [hg]; exact (below_size (by repeat (first | (with_reducible first | exact HB.out | apply below_alloc | apply pw_below_drewN | apply below_drew1 | refine below_set ?_ GE370.out | refine below_set ?_ GE374.out | refine below_set ?_ GE377.out) | exact HB.out))) : w.heap.size ≤ gb378)); have n6_ := Aside0.mk ((by rw [hg]; exact (below_size (by repeat (first | (with_reducible first | exact HB.out | apply below_alloc | apply pw_below_drewN | apply below_drew1 | refine below_set ?_ GE370.out | refine below_set ?_ GE374.out | refine below_set ?_ GE377.out) | exact HB.out))) : w.heap.size ≤ gb378)); have n7_ := Aside0.mk ((by rw [hg]; exact Nat.ne_of_lt (blk_lt (g := gb370) (o := .cells #[.int .i64 a0_0, .int .i64 a0_1] 22 (0, 0)) (by repeat first | (with_reducible first | refine blk_drewN ?_ _ | refine blk_drew ?_ | refine blk_alloc ?_ _) | refine blk_far ?_ NB370_377.out _ | exact BK370.out)) : gb370 ≠ gb378)); have n8_ := Aside0.mk ((by rw [hg]; exact Nat.ne_of_gt (blk_lt (g := gb370) (o := .cells #[.int .i64 a0_0, .int .i64 a0_1] 22 (0, 0)) (by repeat first | (with_reducible first | refine blk_drewN ?_ _ | refine blk_drew ?_ | refine blk_alloc ?_ _) | refine blk_far ?_ NB370_377.out _ | exact BK370.out)) : gb378 ≠ gb370)); have n9_ := Aside0.mk ((by rw [hg]; exact Nat.ne_of_lt (blk_lt (g := gb374) (o := .cells #[.int .i64 t372, .int .i64 t373] 25 (0, 0)) (by repeat first | (with_reducible first | refine blk_drewN ?_ _ | refine blk_drew ?_ | refine blk_alloc ?_ _) | refine blk_far ?_ NB374_377.out _ | exact BK374.out)) : gb374 ≠ gb378)); have n10_ := Aside0.mk ((by rw [hg]; exact Nat.ne_of_gt (blk_lt (g := gb374) (o := .cells #[.int .i64 t372, .int .i64 t373] 25 (0, 0)) (by repeat first | (with_reducible first | refine blk_drewN ?_ _ | refine blk_drew ?_ | refine blk_alloc ?_ _) | refine blk_far ?_ NB374_377.out _ | exact BK374.out)) : gb378 ≠ gb374)); have n11_ := Aside0.mk ((by rw [hg]; exact Nat.ne_of_lt (blk_lt (g := gb377) (o := .cells #[.int .i64 t375, .int .i64 1] 25 (0, 0)) (by (with_reducible repeat (first | refine blk_drewN ?_ _ | refine blk_drew ?_ | refine blk_alloc ?_ _)); refine blk_put (cs := #[.int .i64 t375, .int .i64 0]) ?_ 1 _ rfl; (with_reducible repeat (first | refine blk_drewN ?_ _ | refine blk_drew ?_ | refine blk_alloc ?_ _)); refine blk_put (cs := #[.int .i64 0, .int .i64 0]) ?_ 0 _ rfl; (with_reducible repeat (first | refine blk_drewN ?_ _ | refine blk_drew ?_ | refine blk_alloc ?_ _)); exact BK377.out)) : gb377 ≠ gb378)); have n12_ := Aside0.mk ((by rw [hg]; exact Nat.ne_of_gt (blk_lt (g := gb377) (o := .cells #[.int .i64 t375, .int .i64 1] 25 (0, 0)) (by (with_reducible repeat (first | refine blk_drewN ?_ _ | refine blk_drew ?_ | refine blk_alloc ?_ _)); refine blk_put (cs := #[.int .i64 t375, .int .i64 0]) ?_ 1 _ rfl; (with_reducible repeat (first | refine blk_drewN ?_ _ | refine blk_drew ?_ | refine blk_alloc ?_ _)); refine blk_put (cs := #[.int .i64 0, .int .i64 0]) ?_ 0 _ rfl; (with_reducible repeat (first | refine blk_drewN ?_ _ | refine blk_drew ?_ | refine blk_alloc ?_ _)); exact BK377.out)) : gb378 ≠ gb377)); clear BK370; clear BK374; clear BK377; clear HB; have BK370 := n0_; have BK374 := n1_; have BK377 := n2_; have HB := n3_; have BK378 := n4_; have GW378 := n5_; have GE378 := n6_; have NB370_378 := n7_; have NB378_370 := n8_; have NB374_378 := n9_; have NB378_374 := n10_; have NB377_378 := n11_; have NB378_377 := n12_; clear n0_ n1_ n2_ n3_ n4_ n5_ n6_ n7_ n8_ n9_ n10_ n11_ n12_; clear hb hbox hg; have hnb24 := NB378_370.out; have hnc24 := NB370_378.out; have hnb25 := NB378_374.out; have hnc25 := NB374_378.out; have hnb26 := NB378_377.out; have hnc26 := NB377_378.out; have hcz27_0 : w23.cell? ⟨gb378, 0, none⟩ = some (.int .i64 0) := (blk_cell BK378.out 0).trans rfl; have hcz27_1 : w23.cell? ⟨gb378, 1, none⟩ = some (.int .i64 0) := (blk_cell BK378.out 1).trans rfl; have hfz27_0 := blk_frozen BK378.out 0; have hfz27_1 := blk_frozen BK378.out 1))
  (try simp only [Act.put, List.setIfInBounds_toArray, List.set_cons_zero, List.set_cons_succ])
  go_cut [57] (fun v57 wc => ∃ (kq : Nat) (x57_7 : Bool), v57 = .bool x57_7 ∧ Aside0 (wireloomlaw02_FractionRounds.j0 kq a1 true t375 t376 x57_7 t372 t373 = some true) ∧ Aside0 (kq ≤ k) ∧ Aside0 (wc.heap[gb370]? = some (.cells #[.int .i64 a0_0, .int .i64 a0_1] 22 (0, 0))) ∧ Aside0 (wc.heap[gb374]? = some (.cells #[.int .i64 t372, .int .i64 t373] 25 (0, 0))) ∧ Aside0 (wc.heap[gb377]? = some (.cells #[.int .i64 t375, .int .i64 1] 25 (0, 0))) ∧ Aside0 (wc.heap[gb378]? = some (.cells #[.int .i64 t376, .int .i64 1] 25 (0, 0))) ∧ Aside0 (Below w.heap.size w wc))
  case first =>
   have H := HC8.out
   clear HC8
   replace H := Option.bind_eq_some_iff.mp H
   obtain ⟨t379, A280, H⟩ := H
   replace H : (if t379 > 0 then (wireloomlaw02_FractionRounds.j0 k a1 true t375 t376 true t372 t373) else ((fraction_Cmp.f t372 t373 t376 1).bind fun t380 => (if t380 > 0 then (wireloomlaw02_FractionRounds.j0 k a1 true t375 t376 true t372 t373) else (if ((t373 == 1) != (t376 == t375)) = true then (wireloomlaw02_FractionRounds.j0 k a1 true t375 t376 true t372 t373) else (if t373 > 1 then (wireloomlaw02_FractionRounds.j0 k a1 true t375 t376 (t376 != (wrap64 (t375 + 1))) t372 t373) else (wireloomlaw02_FractionRounds.j0 k a1 true t375 t376 false t372 t373)))))) = some true := H
   have A28 := Aside0.mk A280
   clear A280
   by_cases c29 : t379 > 0
   ·rw [if_pos c29] at H
    exact absurd H (wireloomlaw02_FractionRounds.dead_j0_true _ _ _ _ _ _ _)
   ·rw [if_neg c29] at H
    have c29b0 : decide (0 < t379) = false := decide_eq_false c29
    clear c29
    (first | rw [c29b0] | (simp only [i64_w, i32_w]; rw [c29b0]) | skip)
    replace H := Option.bind_eq_some_iff.mp H
    obtain ⟨t380, A300, H⟩ := H
    replace H : (if t380 > 0 then (wireloomlaw02_FractionRounds.j0 k a1 true t375 t376 true t372 t373) else (if ((t373 == 1) != (t376 == t375)) = true then (wireloomlaw02_FractionRounds.j0 k a1 true t375 t376 true t372 t373) else (if t373 > 1 then (wireloomlaw02_FractionRounds.j0 k a1 true t375 t376 (t376 != (wrap64 (t375 + 1))) t372 t373) else (wireloomlaw02_FractionRounds.j0 k a1 true t375 t376 false t372 t373)))) = some true := H
    have A30 := Aside0.mk A300
    clear A300
    by_cases c31 : t380 > 0
    ·rw [if_pos c31] at H
     exact absurd H (wireloomlaw02_FractionRounds.dead_j0_true _ _ _ _ _ _ _)
    ·rw [if_neg c31] at H
     have c31b0 : decide (0 < t380) = false := decide_eq_false c31
     clear c31
     by_cases c32 : ((t373 == 1) != (t376 == t375)) = true
     ·rw [if_pos c32] at H
      exact absurd H (wireloomlaw02_FractionRounds.dead_j0_true _ _ _ _ _ _ _)
     ·rw [if_neg c32] at H
      have c32b0 : ((t373 == 1) != (t376 == t375)) = false := by simpa using c32
      (try (have c32b1 : decide ((t373 == 1) = (t376 == t375)) = true := by simpa using c32))
      (try (have c32b2 : ((t373 == 1) == (t376 == t375)) = true := by simpa using c32))
      clear c32
      by_cases c33 : t373 > 1
      ·rw [if_pos c33] at H
       have c33b0 : decide (1 < t373) = true := decide_eq_true c33
       clear c33
       have H' := Aside0.mk H
       clear H
       have hnb34 := NB377_370.out
       have hnc34 := NB370_377.out
       have hnb35 := NB377_374.out
       have hnc35 := NB374_377.out
       have hnb36 := NB377_378.out
       have hnc36 := NB378_377.out
       have hcz37_0 : w23.cell? ⟨gb377, 0, none⟩ = some (.int .i64 t375) := (blk_cell BK377.out 0).trans rfl
       have hcz37_1 : w23.cell? ⟨gb377, 1, none⟩ = some (.int .i64 1) := (blk_cell BK377.out 1).trans rfl
       have hfz37_0 := blk_frozen BK377.out 0
       have hfz37_1 := blk_frozen BK377.out 1
       have hnb38 := NB374_370.out
       have hnc38 := NB370_374.out
       have hnb39 := NB374_378.out
       have hnc39 := NB378_374.out
       have hcz40_0 : w23.cell? ⟨gb374, 0, none⟩ = some (.int .i64 t372) := (blk_cell BK374.out 0).trans rfl
       have hcz40_1 : w23.cell? ⟨gb374, 1, none⟩ = some (.int .i64 t373) := (blk_cell BK374.out 1).trans rfl
       have hfz40_0 := blk_frozen BK374.out 0
       have hfz40_1 := blk_frozen BK374.out 1
       go_wp2_with (first | ((with_reducible refine gate_callee (f := 13) rfl ?_); refine goesL_ (some 30) rfl rfl Tryd.func13 (by kernel_rfl) rfl #[.agg #[.int .i64 t375, .int .i64 1], .agg #[.int .i64 t372, .int .i64 t373]] rfl (by (try simp only [List.map_toArray, List.map_cons, List.map_nil]); first | done | rfl | (simp only [List.length_drop, List.length_take]; rfl)) ?_; (with_reducible refine (fraction_Cmp.calls t375 1 t372 t373 t379 _ A28.out).mono ?_); rintro e w41 ⟨rfl, hb⟩; refine ⟨_, rfl, ?_⟩; have n0_ := Aside0.mk (blk_below (g := gb370) (o := .cells #[.int .i64 a0_0, .int .i64 a0_1] 22 (0, 0)) (by repeat first | (with_reducible first | refine blk_drewN ?_ _ | refine blk_drew ?_ | refine blk_alloc ?_ _) | refine blk_far ?_ NB370_378.out _ | exact BK370.out) hb); have n1_ := Aside0.mk (blk_below (g := gb374) (o := .cells #[.int .i64 t372, .int .i64 t373] 25 (0, 0)) (by repeat first | (with_reducible first | refine blk_drewN ?_ _ | refine blk_drew ?_ | refine blk_alloc ?_ _) | refine blk_far ?_ NB374_378.out _ | exact BK374.out) hb); have n2_ := Aside0.mk (blk_below (g := gb377) (o := .cells #[.int .i64 t375, .int .i64 1] 25 (0, 0)) (by repeat first | (with_reducible first | refine blk_drewN ?_ _ | refine blk_drew ?_ | refine blk_alloc ?_ _) | refine blk_far ?_ NB377_378.out _ | exact BK377.out) hb); have n3_ := Aside0.mk (blk_below (g := gb378) (o := .cells #[.int .i64 t376, .int .i64 1] 25 (0, 0)) (by (with_reducible repeat (first | refine blk_drewN ?_ _ | refine blk_drew ?_ | refine blk_alloc ?_ _)); refine blk_put (cs := #[.int .i64 t376, .int .i64 0]) ?_ 1 _ rfl; (with_reducible repeat (first | refine blk_drewN ?_ _ | refine blk_drew ?_ | refine blk_alloc ?_ _)); refine blk_put (cs := #[.int .i64 0, .int .i64 0]) ?_ 0 _ rfl; (with_reducible repeat (first | refine blk_drewN ?_ _ | refine blk_drew ?_ | refine blk_alloc ?_ _)); exact BK378.out) hb); have n4_ := Aside0.mk (below_step (by repeat (first | (with_reducible first | exact HB.out | apply below_alloc | apply pw_below_drewN | apply below_drew1 | refine below_set ?_ GE370.out | refine below_set ?_ GE374.out | refine below_set ?_ GE377.out | refine below_set ?_ GE378.out) | exact HB.out)) hb); clear BK370; clear BK374; clear BK377; clear BK378; clear HB; have BK370 := n0_; have BK374 := n1_; have BK377 := n2_; have BK378 := n3_; have HB := n4_; clear n0_ n1_ n2_ n3_ n4_; (try clear hb); (try clear hb2); (try clear hk); (try clear hi); (try clear A28); have hcz42_0 : w41.cell? ⟨gb374, 0, none⟩ = some (.int .i64 t372) := (blk_cell BK374.out 0).trans rfl; have hcz42_1 : w41.cell? ⟨gb374, 1, none⟩ = some (.int .i64 t373) := (blk_cell BK374.out 1).trans rfl; have hfz42_0 := blk_frozen BK374.out 0; have hfz42_1 := blk_frozen BK374.out 1; have hnb43 := NB378_370.out; have hnc43 := NB370_378.out; have hcz44_0 : w41.cell? ⟨gb378, 0, none⟩ = some (.int .i64 t376) := (blk_cell BK378.out 0).trans rfl; have hcz44_1 : w41.cell? ⟨gb378, 1, none⟩ = some (.int .i64 1) := (blk_cell BK378.out 1).trans rfl; have hfz44_0 := blk_frozen BK378.out 0; have hfz44_1 := blk_frozen BK378.out 1) | (go_at_call 13; (with_reducible refine (fraction_Cmp.calls t372 t373 t376 1 t380 _ A30.out).mono ?_); rintro e w45 ⟨rfl, hb⟩; have n0_ := Aside0.mk (blk_below (g := gb370) (o := .cells #[.int .i64 a0_0, .int .i64 a0_1] 22 (0, 0)) (by (with_reducible repeat (first | refine blk_drewN ?_ _ | refine blk_drew ?_ | refine blk_alloc ?_ _)); exact BK370.out) hb); have n1_ := Aside0.mk (blk_below (g := gb374) (o := .cells #[.int .i64 t372, .int .i64 t373] 25 (0, 0)) (by (with_reducible repeat (first | refine blk_drewN ?_ _ | refine blk_drew ?_ | refine blk_alloc ?_ _)); exact BK374.out) hb); have n2_ := Aside0.mk (blk_below (g := gb377) (o := .cells #[.int .i64 t375, .int .i64 1] 25 (0, 0)) (by (with_reducible repeat (first | refine blk_drewN ?_ _ | refine blk_drew ?_ | refine blk_alloc ?_ _)); exact BK377.out) hb); have n3_ := Aside0.mk (blk_below (g := gb378) (o := .cells #[.int .i64 t376, .int .i64 1] 25 (0, 0)) (by (with_reducible repeat (first | refine blk_drewN ?_ _ | refine blk_drew ?_ | refine blk_alloc ?_ _)); exact BK378.out) hb); have n4_ := Aside0.mk (below_step (by repeat (first | (with_reducible first | exact HB.out | apply below_alloc | apply pw_below_drewN | apply below_drew1 | refine below_set ?_ GE370.out | refine below_set ?_ GE374.out | refine below_set ?_ GE377.out | refine below_set ?_ GE378.out) | exact HB.out)) hb); clear BK370; clear BK374; clear BK377; clear BK378; clear HB; have BK370 := n0_; have BK374 := n1_; have BK377 := n2_; have BK378 := n3_; have HB := n4_; clear n0_ n1_ n2_ n3_ n4_; (try clear hb); (try clear hb2); (try clear hk); (try clear hi); (try clear A30); have hcz46_0 : w45.cell? ⟨gb374, 0, none⟩ = some (.int .i64 t372) := (blk_cell BK374.out 0).trans rfl; have hcz46_1 : w45.cell? ⟨gb374, 1, none⟩ = some (.int .i64 t373) := (blk_cell BK374.out 1).trans rfl; have hfz46_0 := blk_frozen BK374.out 0; have hfz46_1 := blk_frozen BK374.out 1))
       go_meet
       case rel => exact ⟨_, ((t376 != (wrap64 (t375 + 1)))), (by first | rfl | (simp; done) | (simp [*]; done)), H', ⟨by first | omega | exact Nat.le_refl _⟩, ⟨by (with_reducible repeat (first | refine blk_drewN ?_ _ | refine blk_drew ?_ | refine blk_alloc ?_ _)); exact BK370.out⟩, ⟨by (with_reducible repeat (first | refine blk_drewN ?_ _ | refine blk_drew ?_ | refine blk_alloc ?_ _)); exact BK374.out⟩, ⟨by (with_reducible repeat (first | refine blk_drewN ?_ _ | refine blk_drew ?_ | refine blk_alloc ?_ _)); exact BK377.out⟩, ⟨by (with_reducible repeat (first | refine blk_drewN ?_ _ | refine blk_drew ?_ | refine blk_alloc ?_ _)); exact BK378.out⟩, ⟨by repeat (first | (with_reducible first | exact HB.out | apply below_alloc | apply pw_below_drewN | apply below_drew1 | refine below_set ?_ GE370.out | refine below_set ?_ GE374.out | refine below_set ?_ GE377.out | refine below_set ?_ GE378.out) | exact HB.out)⟩⟩
      ·rw [if_neg c33] at H
       have c33b0 : decide (1 < t373) = false := decide_eq_false c33
       clear c33
       have H' := Aside0.mk H
       clear H
       have hnb47 := NB377_370.out
       have hnc47 := NB370_377.out
       have hnb48 := NB377_374.out
       have hnc48 := NB374_377.out
       have hnb49 := NB377_378.out
       have hnc49 := NB378_377.out
       have hcz50_0 : w23.cell? ⟨gb377, 0, none⟩ = some (.int .i64 t375) := (blk_cell BK377.out 0).trans rfl
       have hcz50_1 : w23.cell? ⟨gb377, 1, none⟩ = some (.int .i64 1) := (blk_cell BK377.out 1).trans rfl
       have hfz50_0 := blk_frozen BK377.out 0
       have hfz50_1 := blk_frozen BK377.out 1
       have hnb51 := NB374_370.out
       have hnc51 := NB370_374.out
       have hnb52 := NB374_378.out
       have hnc52 := NB378_374.out
       have hcz53_0 : w23.cell? ⟨gb374, 0, none⟩ = some (.int .i64 t372) := (blk_cell BK374.out 0).trans rfl
       have hcz53_1 : w23.cell? ⟨gb374, 1, none⟩ = some (.int .i64 t373) := (blk_cell BK374.out 1).trans rfl
       have hfz53_0 := blk_frozen BK374.out 0
       have hfz53_1 := blk_frozen BK374.out 1
       go_wp2_with (first | ((with_reducible refine gate_callee (f := 13) rfl ?_); refine goesL_ (some 30) rfl rfl Tryd.func13 (by kernel_rfl) rfl #[.agg #[.int .i64 t375, .int .i64 1], .agg #[.int .i64 t372, .int .i64 t373]] rfl (by (try simp only [List.map_toArray, List.map_cons, List.map_nil]); first | done | rfl | (simp only [List.length_drop, List.length_take]; rfl)) ?_; (with_reducible refine (fraction_Cmp.calls t375 1 t372 t373 t379 _ A28.out).mono ?_); rintro e w54 ⟨rfl, hb⟩; refine ⟨_, rfl, ?_⟩; have n0_ := Aside0.mk (blk_below (g := gb370) (o := .cells #[.int .i64 a0_0, .int .i64 a0_1] 22 (0, 0)) (by repeat first | (with_reducible first | refine blk_drewN ?_ _ | refine blk_drew ?_ | refine blk_alloc ?_ _) | refine blk_far ?_ NB370_378.out _ | exact BK370.out) hb); have n1_ := Aside0.mk (blk_below (g := gb374) (o := .cells #[.int .i64 t372, .int .i64 t373] 25 (0, 0)) (by repeat first | (with_reducible first | refine blk_drewN ?_ _ | refine blk_drew ?_ | refine blk_alloc ?_ _) | refine blk_far ?_ NB374_378.out _ | exact BK374.out) hb); have n2_ := Aside0.mk (blk_below (g := gb377) (o := .cells #[.int .i64 t375, .int .i64 1] 25 (0, 0)) (by repeat first | (with_reducible first | refine blk_drewN ?_ _ | refine blk_drew ?_ | refine blk_alloc ?_ _) | refine blk_far ?_ NB377_378.out _ | exact BK377.out) hb); have n3_ := Aside0.mk (blk_below (g := gb378) (o := .cells #[.int .i64 t376, .int .i64 1] 25 (0, 0)) (by (with_reducible repeat (first | refine blk_drewN ?_ _ | refine blk_drew ?_ | refine blk_alloc ?_ _)); refine blk_put (cs := #[.int .i64 t376, .int .i64 0]) ?_ 1 _ rfl; (with_reducible repeat (first | refine blk_drewN ?_ _ | refine blk_drew ?_ | refine blk_alloc ?_ _)); refine blk_put (cs := #[.int .i64 0, .int .i64 0]) ?_ 0 _ rfl; (with_reducible repeat (first | refine blk_drewN ?_ _ | refine blk_drew ?_ | refine blk_alloc ?_ _)); exact BK378.out) hb); have n4_ := Aside0.mk (below_step (by repeat (first | (with_reducible first | exact HB.out | apply below_alloc | apply pw_below_drewN | apply below_drew1 | refine below_set ?_ GE370.out | refine below_set ?_ GE374.out | refine below_set ?_ GE377.out | refine below_set ?_ GE378.out) | exact HB.out)) hb); clear BK370; clear BK374; clear BK377; clear BK378; clear HB; have BK370 := n0_; have BK374 := n1_; have BK377 := n2_; have BK378 := n3_; have HB := n4_; clear n0_ n1_ n2_ n3_ n4_; (try clear hb); (try clear hb2); (try clear hk); (try clear hi); (try clear A28); have hcz55_0 : w54.cell? ⟨gb374, 0, none⟩ = some (.int .i64 t372) := (blk_cell BK374.out 0).trans rfl; have hcz55_1 : w54.cell? ⟨gb374, 1, none⟩ = some (.int .i64 t373) := (blk_cell BK374.out 1).trans rfl; have hfz55_0 := blk_frozen BK374.out 0; have hfz55_1 := blk_frozen BK374.out 1; have hnb56 := NB378_370.out; have hnc56 := NB370_378.out; have hcz57_0 : w54.cell? ⟨gb378, 0, none⟩ = some (.int .i64 t376) := (blk_cell BK378.out 0).trans rfl; have hcz57_1 : w54.cell? ⟨gb378, 1, none⟩ = some (.int .i64 1) := (blk_cell BK378.out 1).trans rfl; have hfz57_0 := blk_frozen BK378.out 0; have hfz57_1 := blk_frozen BK378.out 1) | (go_at_call 13; (with_reducible refine (fraction_Cmp.calls t372 t373 t376 1 t380 _ A30.out).mono ?_); rintro e w58 ⟨rfl, hb⟩; have n0_ := Aside0.mk (blk_below (g := gb370) (o := .cells #[.int .i64 a0_0, .int .i64 a0_1] 22 (0, 0)) (by (with_reducible repeat (first | refine blk_drewN ?_ _ | refine blk_drew ?_ | refine blk_alloc ?_ _)); exact BK370.out) hb); have n1_ := Aside0.mk (blk_below (g := gb374) (o := .cells #[.int .i64 t372, .int .i64 t373] 25 (0, 0)) (by (with_reducible repeat (first | refine blk_drewN ?_ _ | refine blk_drew ?_ | refine blk_alloc ?_ _)); exact BK374.out) hb); have n2_ := Aside0.mk (blk_below (g := gb377) (o := .cells #[.int .i64 t375, .int .i64 1] 25 (0, 0)) (by (with_reducible repeat (first | refine blk_drewN ?_ _ | refine blk_drew ?_ | refine blk_alloc ?_ _)); exact BK377.out) hb); have n3_ := Aside0.mk (blk_below (g := gb378) (o := .cells #[.int .i64 t376, .int .i64 1] 25 (0, 0)) (by (with_reducible repeat (first | refine blk_drewN ?_ _ | refine blk_drew ?_ | refine blk_alloc ?_ _)); exact BK378.out) hb); have n4_ := Aside0.mk (below_step (by repeat (first | (with_reducible first | exact HB.out | apply below_alloc | apply pw_below_drewN | apply below_drew1 | refine below_set ?_ GE370.out | refine below_set ?_ GE374.out | refine below_set ?_ GE377.out | refine below_set ?_ GE378.out) | exact HB.out)) hb); clear BK370; clear BK374; clear BK377; clear BK378; clear HB; have BK370 := n0_; have BK374 := n1_; have BK377 := n2_; have BK378 := n3_; have HB := n4_; clear n0_ n1_ n2_ n3_ n4_; (try clear hb); (try clear hb2); (try clear hk); (try clear hi); (try clear A30); have hcz59_0 : w58.cell? ⟨gb374, 0, none⟩ = some (.int .i64 t372) := (blk_cell BK374.out 0).trans rfl; have hcz59_1 : w58.cell? ⟨gb374, 1, none⟩ = some (.int .i64 t373) := (blk_cell BK374.out 1).trans rfl; have hfz59_0 := blk_frozen BK374.out 0; have hfz59_1 := blk_frozen BK374.out 1))
       go_meet
       case rel => exact ⟨_, (false), (by first | rfl | (simp; done) | (simp [*]; done)), H', ⟨by first | omega | exact Nat.le_refl _⟩, ⟨by (with_reducible repeat (first | refine blk_drewN ?_ _ | refine blk_drew ?_ | refine blk_alloc ?_ _)); exact BK370.out⟩, ⟨by (with_reducible repeat (first | refine blk_drewN ?_ _ | refine blk_drew ?_ | refine blk_alloc ?_ _)); exact BK374.out⟩, ⟨by (with_reducible repeat (first | refine blk_drewN ?_ _ | refine blk_drew ?_ | refine blk_alloc ?_ _)); exact BK377.out⟩, ⟨by (with_reducible repeat (first | refine blk_drewN ?_ _ | refine blk_drew ?_ | refine blk_alloc ?_ _)); exact BK378.out⟩, ⟨by repeat (first | (with_reducible first | exact HB.out | apply below_alloc | apply pw_below_drewN | apply below_drew1 | refine below_set ?_ GE370.out | refine below_set ?_ GE374.out | refine below_set ?_ GE377.out | refine below_set ?_ GE378.out) | exact HB.out)⟩⟩
  case rest =>
   clear HC8
   try clear c1
   try clear c2
   try clear p2
   try clear c3
   try clear c4
   try clear c5
   try clear p6
   try clear c9
   try clear c10
   try clear c11
   try clear c12
   try clear c13
   try clear c14
   try clear c20
   try clear c21
   try clear c24
   try clear c25
   try clear c26
   try clear c29
   try clear c29b0
   try clear c31
   try clear c31b0
   try clear c32
   try clear c32b0
   try clear c32b1
   try clear c32b2
   try clear c33
   try clear c33b0
   try clear c34
   try clear c35
   try clear c36
   try clear c38
   try clear c39
   try clear c43
   try clear c47
   try clear c48
   try clear c49
   try clear c51
   try clear c52
   try clear c56
   try clear hcz11_0
   try clear hcz11_1
   try clear hcz15_0
   try clear hcz15_1
   try clear hcz17_0
   try clear hcz17_1
   try clear hcz22_0
   try clear hcz22_1
   try clear hcz27_0
   try clear hcz27_1
   try clear hcz37_0
   try clear hcz37_1
   try clear hcz40_0
   try clear hcz40_1
   try clear hcz42_0
   try clear hcz42_1
   try clear hcz44_0
   try clear hcz44_1
   try clear hcz46_0
   try clear hcz46_1
   try clear hcz50_0
   try clear hcz50_1
   try clear hcz53_0
   try clear hcz53_1
   try clear hcz55_0
   try clear hcz55_1
   try clear hcz57_0
   try clear hcz57_1
   try clear hcz59_0
   try clear hcz59_1
   try clear hfz11_0
   try clear hfz11_1
   try clear hfz15_0
   try clear hfz15_1
   try clear hfz17_0
   try clear hfz17_1
   try clear hfz22_0
   try clear hfz22_1
   try clear hfz27_0
   try clear hfz27_1
   try clear hfz37_0
   try clear hfz37_1
   try clear hfz40_0
   try clear hfz40_1
   try clear hfz42_0
   try clear hfz42_1
   try clear hfz44_0
   try clear hfz44_1
   try clear hfz46_0
   try clear hfz46_1
   try clear hfz50_0
   try clear hfz50_1
   try clear hfz53_0
   try clear hfz53_1
   try clear hfz55_0
   try clear hfz55_1
   try clear hfz57_0
   try clear hfz57_1
   try clear hfz59_0
   try clear hfz59_1
   obtain ⟨kq, x57_7, rfl, HA, HJ7, BK370, BK374, BK377, BK378, HB⟩ := hcut
   cases kq with
   | zero => exact absurd HA.out (by simp [wireloomlaw02_FractionRounds.j0])
   | succ kj7 =>
    have H := HA.out
    clear HA
    simp only [wireloomlaw02_FractionRounds.j0] at H
    by_cases c60 : x57_7 = true
    ·subst c60
     have H1 : (some false) = some true := by rw [if_pos rfl] at H; exact H
     clear H
     have H := H1
     clear H1
     exact absurd H (by decide)
    ·replace c60 := Bool.eq_false_iff.mpr c60
     subst c60
     have H1 : ((wireloomlaw02_add.f kj7 t372 t373 (wrap64 (a1)) 1).bind fun bt381 => (if bt381.2.2 = 0 then ((fraction_Floor.f bt381.1 bt381.2.1).bind fun t385 => (if t385 = (wrap64 (t375 + (wrap64 (a1)))) then ((fraction_Ceil.f bt381.1 bt381.2.1).bind fun t386 => (wireloomlaw02_FractionRounds.j1 kj7 true (t386 != (wrap64 (t376 + (wrap64 (a1))))) t372 t373)) else (wireloomlaw02_FractionRounds.j1 kj7 true true t372 t373))) else (wireloomlaw02_FractionRounds.j1 kj7 true false t372 t373))) = some true := by rw [if_neg (show ¬ (false = true) by decide)] at H; exact H
     clear H
     have H := H1
     clear H1
     replace H := Option.bind_eq_some_iff.mp H
     obtain ⟨⟨t381, t382, t383⟩, A610, H⟩ := H
     replace H : (if t383 = 0 then ((fraction_Floor.f t381 t382).bind fun t385 => (if t385 = (wrap64 (t375 + (wrap64 (a1)))) then ((fraction_Ceil.f t381 t382).bind fun t386 => (wireloomlaw02_FractionRounds.j1 kj7 true (t386 != (wrap64 (t376 + (wrap64 (a1))))) t372 t373)) else (wireloomlaw02_FractionRounds.j1 kj7 true true t372 t373))) else (wireloomlaw02_FractionRounds.j1 kj7 true false t372 t373)) = some true := H
     have A61 := Aside0.mk A610
     clear A610
     have HC62 := Aside0.mk H
     clear H
     have hnb63 := NB374_370.out
     have hnc63 := NB370_374.out
     have hnb64 := NB374_377.out
     have hnc64 := NB377_374.out
     have hnb65 := NB374_378.out
     have hnc65 := NB378_374.out
     have hcz66_0 : wc.cell? ⟨gb374, 0, none⟩ = some (.int .i64 t372) := (blk_cell BK374.out 0).trans rfl
     have hcz66_1 : wc.cell? ⟨gb374, 1, none⟩ = some (.int .i64 t373) := (blk_cell BK374.out 1).trans rfl
     have hfz66_0 := blk_frozen BK374.out 0
     have hfz66_1 := blk_frozen BK374.out 1
     go_upto_region 12 with (first | ((with_reducible refine gate_callee (f := 14) rfl ?_); refine goesL_ (some 62) rfl rfl Tryd.func14 (by kernel_rfl) rfl #[.agg #[.int .i64 t372, .int .i64 t373], .agg #[.int .i64 (wrap64 (a1)), .int .i64 1]] rfl (by (try simp only [List.map_toArray, List.map_cons, List.map_nil]); first | done | rfl | (simp only [List.length_drop, List.length_take]; rfl)) ?_; (with_reducible refine (wireloomlaw02_add.calls kj7 t372 t373 (wrap64 (a1)) 1 t381 t382 t383 _ A61.out).mono ?_); rintro e w67 ⟨rfl, hb⟩; refine ⟨_, rfl, ?_⟩; have n0_ := Aside0.mk (blk_below (g := gb370) (o := .cells #[.int .i64 a0_0, .int .i64 a0_1] 22 (0, 0)) (by (with_reducible repeat (first | refine blk_drewN ?_ _ | refine blk_drew ?_ | refine blk_alloc ?_ _)); exact BK370.out) hb); have n1_ := Aside0.mk (blk_below (g := gb374) (o := .cells #[.int .i64 t372, .int .i64 t373] 25 (0, 0)) (by (with_reducible repeat (first | refine blk_drewN ?_ _ | refine blk_drew ?_ | refine blk_alloc ?_ _)); exact BK374.out) hb); have n2_ := Aside0.mk (blk_below (g := gb377) (o := .cells #[.int .i64 t375, .int .i64 1] 25 (0, 0)) (by (with_reducible repeat (first | refine blk_drewN ?_ _ | refine blk_drew ?_ | refine blk_alloc ?_ _)); exact BK377.out) hb); have n3_ := Aside0.mk (blk_below (g := gb378) (o := .cells #[.int .i64 t376, .int .i64 1] 25 (0, 0)) (by (with_reducible repeat (first | refine blk_drewN ?_ _ | refine blk_drew ?_ | refine blk_alloc ?_ _)); exact BK378.out) hb); have n4_ := Aside0.mk (below_step (by repeat (first | (with_reducible first | exact HB.out | apply below_alloc | apply pw_below_drewN | apply below_drew1 | refine below_set ?_ GE370.out | refine below_set ?_ GE374.out | refine below_set ?_ GE377.out | refine below_set ?_ GE378.out) | exact HB.out)) hb); clear BK370; clear BK374; clear BK377; clear BK378; clear HB; have BK370 := n0_; have BK374 := n1_; have BK377 := n2_; have BK378 := n3_; have HB := n4_; clear n0_ n1_ n2_ n3_ n4_; (try clear hb); (try clear hb2); (try clear hk); (try clear hi); (try clear A61)) | ((with_reducible refine gate_dst (N := 11) rfl ?_); refine box_event ?hg (N := 11) ?hd (cs := #[.int .i64 0, .int .i64 0, .int .i64 0]) (t := 31) ?hr ?_; (case hd => rfl); (case hg => rfl); (case hr => first | (go_simp; done) | (go_simp; rfl)); intro gb384 hg w68 hbox hb; have n0_ := Aside0.mk (blk_below (g := gb370) (o := .cells #[.int .i64 a0_0, .int .i64 a0_1] 22 (0, 0)) (by (with_reducible repeat (first | refine blk_drewN ?_ _ | refine blk_drew ?_ | refine blk_alloc ?_ _)); exact BK370.out) hb); have n1_ := Aside0.mk (blk_below (g := gb374) (o := .cells #[.int .i64 t372, .int .i64 t373] 25 (0, 0)) (by (with_reducible repeat (first | refine blk_drewN ?_ _ | refine blk_drew ?_ | refine blk_alloc ?_ _)); exact BK374.out) hb); have n2_ := Aside0.mk (blk_below (g := gb377) (o := .cells #[.int .i64 t375, .int .i64 1] 25 (0, 0)) (by (with_reducible repeat (first | refine blk_drewN ?_ _ | refine blk_drew ?_ | refine blk_alloc ?_ _)); exact BK377.out) hb); have n3_ := Aside0.mk (blk_below (g := gb378) (o := .cells #[.int .i64 t376, .int .i64 1] 25 (0, 0)) (by (with_reducible repeat (first | refine blk_drewN ?_ _ | refine blk_drew ?_ | refine blk_alloc ?_ _)); exact BK378.out) hb); have n4_ := Aside0.mk (below_step (by repeat (first | (with_reducible first | exact HB.out | apply below_alloc | apply pw_below_drewN | apply below_drew1 | refine below_set ?_ GE370.out | refine below_set ?_ GE374.out | refine below_set ?_ GE377.out | refine below_set ?_ GE378.out) | exact HB.out)) hb); have n5_ := Aside0.mk (hbox); have n6_ := Aside0.mk ((by rw [hg]; exact (below_size (by repeat (first | (with_reducible first | exact HB.out | apply below_alloc | apply pw_below_drewN | apply below_drew1 | refine below_set ?_ GE370.out | refine below_set ?_ GE374.out | refine below_set ?_ GE377.out | refine below_set ?_ GE378.out) | exact HB.out))) : w.heap.size ≤ gb384)); have n7_ := Aside0.mk ((by rw [hg]; exact (below_size (by repeat (first | (with_reducible first | exact HB.out | apply below_alloc | apply pw_below_drewN | apply below_drew1 | refine below_set ?_ GE370.out | refine below_set ?_ GE374.out | refine below_set ?_ GE377.out | refine below_set ?_ GE378.out) | exact HB.out))) : w.heap.size ≤ gb384)); have n8_ := Aside0.mk ((by rw [hg]; exact Nat.ne_of_lt (blk_lt (g := gb370) (o := .cells #[.int .i64 a0_0, .int .i64 a0_1] 22 (0, 0)) (by (with_reducible repeat (first | refine blk_drewN ?_ _ | refine blk_drew ?_ | refine blk_alloc ?_ _)); exact BK370.out)) : gb370 ≠ gb384)); have n9_ := Aside0.mk ((by rw [hg]; exact Nat.ne_of_gt (blk_lt (g := gb370) (o := .cells #[.int .i64 a0_0, .int .i64 a0_1] 22 (0, 0)) (by (with_reducible repeat (first | refine blk_drewN ?_ _ | refine blk_drew ?_ | refine blk_alloc ?_ _)); exact BK370.out)) : gb384 ≠ gb370)); have n10_ := Aside0.mk ((by rw [hg]; exact Nat.ne_of_lt (blk_lt (g := gb374) (o := .cells #[.int .i64 t372, .int .i64 t373] 25 (0, 0)) (by (with_reducible repeat (first | refine blk_drewN ?_ _ | refine blk_drew ?_ | refine blk_alloc ?_ _)); exact BK374.out)) : gb374 ≠ gb384)); have n11_ := Aside0.mk ((by rw [hg]; exact Nat.ne_of_gt (blk_lt (g := gb374) (o := .cells #[.int .i64 t372, .int .i64 t373] 25 (0, 0)) (by (with_reducible repeat (first | refine blk_drewN ?_ _ | refine blk_drew ?_ | refine blk_alloc ?_ _)); exact BK374.out)) : gb384 ≠ gb374)); have n12_ := Aside0.mk ((by rw [hg]; exact Nat.ne_of_lt (blk_lt (g := gb377) (o := .cells #[.int .i64 t375, .int .i64 1] 25 (0, 0)) (by (with_reducible repeat (first | refine blk_drewN ?_ _ | refine blk_drew ?_ | refine blk_alloc ?_ _)); exact BK377.out)) : gb377 ≠ gb384)); have n13_ := Aside0.mk ((by rw [hg]; exact Nat.ne_of_gt (blk_lt (g := gb377) (o := .cells #[.int .i64 t375, .int .i64 1] 25 (0, 0)) (by (with_reducible repeat (first | refine blk_drewN ?_ _ | refine blk_drew ?_ | refine blk_alloc ?_ _)); exact BK377.out)) : gb384 ≠ gb377)); have n14_ := Aside0.mk ((by rw [hg]; exact Nat.ne_of_lt (blk_lt (g := gb378) (o := .cells #[.int .i64 t376, .int .i64 1] 25 (0, 0)) (by (with_reducible repeat (first | refine blk_drewN ?_ _ | refine blk_drew ?_ | refine blk_alloc ?_ _)); exact BK378.out)) : gb378 ≠ gb384)); have n15_ := Aside0.mk ((by rw [hg]; exact Nat.ne_of_gt (blk_lt (g := gb378) (o := .cells #[.int .i64 t376, .int .i64 1] 25 (0, 0)) (by (with_reducible repeat (first | refine blk_drewN ?_ _ | refine blk_drew ?_ | refine blk_alloc ?_ _)); exact BK378.out)) : gb384 ≠ gb378)); clear BK370; clear BK374; clear BK377; clear BK378; clear HB; have BK370 := n0_; have BK374 := n1_; have BK377 := n2_; have BK378 := n3_; have HB := n4_; have BK384 := n5_; have GW384 := n6_; have GE384 := n7_; have NB370_384 := n8_; have NB384_370 := n9_; have NB374_384 := n10_; have NB384_374 := n11_; have NB377_384 := n12_; have NB384_377 := n13_; have NB378_384 := n14_; have NB384_378 := n15_; clear n0_ n1_ n2_ n3_ n4_ n5_ n6_ n7_ n8_ n9_ n10_ n11_ n12_ n13_ n14_ n15_; clear hb hbox hg; have hnb69 := NB384_370.out; have hnc69 := NB370_384.out; have hnb70 := NB384_374.out; have hnc70 := NB374_384.out; have hnb71 := NB384_377.out; have hnc71 := NB377_384.out; have hnb72 := NB384_378.out; have hnc72 := NB378_384.out; have hcz73_0 : w68.cell? ⟨gb384, 0, none⟩ = some (.int .i64 0) := (blk_cell BK384.out 0).trans rfl; have hcz73_1 : w68.cell? ⟨gb384, 1, none⟩ = some (.int .i64 0) := (blk_cell BK384.out 1).trans rfl; have hcz73_2 : w68.cell? ⟨gb384, 2, none⟩ = some (.int .i64 0) := (blk_cell BK384.out 2).trans rfl; have hfz73_0 := blk_frozen BK384.out 0; have hfz73_1 := blk_frozen BK384.out 1; have hfz73_2 := blk_frozen BK384.out 2))
     (try simp only [Act.put, List.setIfInBounds_toArray, List.set_cons_zero, List.set_cons_succ])
     go_cut [85] (fun v85 wc => ∃ (kq : Nat) (x85_61 : Bool), v85 = .bool x85_61 ∧ Aside0 (wireloomlaw02_FractionRounds.j1 kq true x85_61 t372 t373 = some true) ∧ Aside0 (kq ≤ kj7) ∧ Aside0 (wc.heap[gb370]? = some (.cells #[.int .i64 a0_0, .int .i64 a0_1] 22 (0, 0))) ∧ Aside0 (wc.heap[gb374]? = some (.cells #[.int .i64 t372, .int .i64 t373] 25 (0, 0))) ∧ Aside0 (wc.heap[gb377]? = some (.cells #[.int .i64 t375, .int .i64 1] 25 (0, 0))) ∧ Aside0 (wc.heap[gb378]? = some (.cells #[.int .i64 t376, .int .i64 1] 25 (0, 0))) ∧ Aside0 (wc.heap[gb384]? = some (.cells #[.int .i64 t381, .int .i64 t382, .int .i64 t383] 31 (0, 0))) ∧ Aside0 (Below w.heap.size w wc))
     case first =>
      have H := HC62.out
      clear HC62
      by_cases c74 : t383 = 0
      ·rw [if_pos c74] at H
       have c74b0 : (t383 == 0) = true := beq_iff_eq.mpr c74
       have c74b1 : (t383 != 0) = false := bne_eq_false_iff_eq.mpr c74
       clear c74
       (first | rw [c74b0] | (simp only [i64_w, i32_w]; rw [c74b0]) | skip)
       replace H := Option.bind_eq_some_iff.mp H
       obtain ⟨t385, A750, H⟩ := H
       replace H : (if t385 = (wrap64 (t375 + (wrap64 (a1)))) then ((fraction_Ceil.f t381 t382).bind fun t386 => (wireloomlaw02_FractionRounds.j1 kj7 true (t386 != (wrap64 (t376 + (wrap64 (a1))))) t372 t373)) else (wireloomlaw02_FractionRounds.j1 kj7 true true t372 t373)) = some true := H
       have A75 := Aside0.mk A750
       clear A750
       by_cases c76 : t385 = (wrap64 (t375 + (wrap64 (a1))))
       ·rw [if_pos c76] at H
        have c76b0 : (t385 == (wrap64 (t375 + (wrap64 (a1))))) = true := beq_iff_eq.mpr c76
        have c76b1 : (t385 != (wrap64 (t375 + (wrap64 (a1))))) = false := bne_eq_false_iff_eq.mpr c76
        clear c76
        replace H := Option.bind_eq_some_iff.mp H
        obtain ⟨t386, A770, H⟩ := H
        replace H : (wireloomlaw02_FractionRounds.j1 kj7 true (t386 != (wrap64 (t376 + (wrap64 (a1))))) t372 t373) = some true := H
        have A77 := Aside0.mk A770
        clear A770
        have H' := Aside0.mk H
        clear H
        have hnb78 := NB384_370.out
        have hnc78 := NB370_384.out
        have hnb79 := NB384_374.out
        have hnc79 := NB374_384.out
        have hnb80 := NB384_377.out
        have hnc80 := NB377_384.out
        have hnb81 := NB384_378.out
        have hnc81 := NB378_384.out
        have hcz82_0 : w68.cell? ⟨gb384, 0, none⟩ = some (.int .i64 0) := (blk_cell BK384.out 0).trans rfl
        have hcz82_1 : w68.cell? ⟨gb384, 1, none⟩ = some (.int .i64 0) := (blk_cell BK384.out 1).trans rfl
        have hcz82_2 : w68.cell? ⟨gb384, 2, none⟩ = some (.int .i64 0) := (blk_cell BK384.out 2).trans rfl
        have hfz82_0 := blk_frozen BK384.out 0
        have hfz82_1 := blk_frozen BK384.out 1
        have hfz82_2 := blk_frozen BK384.out 2
        go_wp2_with (first | (go_at_call 11; (with_reducible refine (fraction_Floor.calls t381 t382 t385 _ A75.out).mono ?_); rintro e w83 ⟨rfl, hb⟩; have n0_ := Aside0.mk (blk_below (g := gb370) (o := .cells #[.int .i64 a0_0, .int .i64 a0_1] 22 (0, 0)) (by repeat first | (with_reducible first | refine blk_drewN ?_ _ | refine blk_drew ?_ | refine blk_alloc ?_ _) | refine blk_far ?_ NB370_384.out _ | exact BK370.out) hb); have n1_ := Aside0.mk (blk_below (g := gb374) (o := .cells #[.int .i64 t372, .int .i64 t373] 25 (0, 0)) (by repeat first | (with_reducible first | refine blk_drewN ?_ _ | refine blk_drew ?_ | refine blk_alloc ?_ _) | refine blk_far ?_ NB374_384.out _ | exact BK374.out) hb); have n2_ := Aside0.mk (blk_below (g := gb377) (o := .cells #[.int .i64 t375, .int .i64 1] 25 (0, 0)) (by repeat first | (with_reducible first | refine blk_drewN ?_ _ | refine blk_drew ?_ | refine blk_alloc ?_ _) | refine blk_far ?_ NB377_384.out _ | exact BK377.out) hb); have n3_ := Aside0.mk (blk_below (g := gb378) (o := .cells #[.int .i64 t376, .int .i64 1] 25 (0, 0)) (by repeat first | (with_reducible first | refine blk_drewN ?_ _ | refine blk_drew ?_ | refine blk_alloc ?_ _) | refine blk_far ?_ NB378_384.out _ | exact BK378.out) hb); have n4_ := Aside0.mk (blk_below (g := gb384) (o := .cells #[.int .i64 t381, .int .i64 t382, .int .i64 t383] 31 (0, 0)) (by (with_reducible repeat (first | refine blk_drewN ?_ _ | refine blk_drew ?_ | refine blk_alloc ?_ _)); refine blk_put (cs := #[.int .i64 t381, .int .i64 t382, .int .i64 0]) ?_ 2 _ rfl; (with_reducible repeat (first | refine blk_drewN ?_ _ | refine blk_drew ?_ | refine blk_alloc ?_ _)); refine blk_put (cs := #[.int .i64 t381, .int .i64 0, .int .i64 0]) ?_ 1 _ rfl; (with_reducible repeat (first | refine blk_drewN ?_ _ | refine blk_drew ?_ | refine blk_alloc ?_ _)); refine blk_put (cs := #[.int .i64 0, .int .i64 0, .int .i64 0]) ?_ 0 _ rfl; (with_reducible repeat (first | refine blk_drewN ?_ _ | refine blk_drew ?_ | refine blk_alloc ?_ _)); exact BK384.out) hb); have n5_ := Aside0.mk (below_step (by repeat (first | (with_reducible first | exact HB.out | apply below_alloc | apply pw_below_drewN | apply below_drew1 | refine below_set ?_ GE370.out | refine below_set ?_ GE374.out | refine below_set ?_ GE377.out | refine below_set ?_ GE378.out | refine below_set ?_ GE384.out) | exact HB.out)) hb); clear BK370; clear BK374; clear BK377; clear BK378; clear BK384; clear HB; have BK370 := n0_; have BK374 := n1_; have BK377 := n2_; have BK378 := n3_; have BK384 := n4_; have HB := n5_; clear n0_ n1_ n2_ n3_ n4_ n5_; (try clear hb); (try clear hb2); (try clear hk); (try clear hi); (try clear A75); have hcz84_0 : w83.cell? ⟨gb384, 0, none⟩ = some (.int .i64 t381) := (blk_cell BK384.out 0).trans rfl; have hcz84_1 : w83.cell? ⟨gb384, 1, none⟩ = some (.int .i64 t382) := (blk_cell BK384.out 1).trans rfl; have hcz84_2 : w83.cell? ⟨gb384, 2, none⟩ = some (.int .i64 t383) := (blk_cell BK384.out 2).trans rfl; have hfz84_0 := blk_frozen BK384.out 0; have hfz84_1 := blk_frozen BK384.out 1; have hfz84_2 := blk_frozen BK384.out 2) | (go_at_call 12; (with_reducible refine (fraction_Ceil.calls t381 t382 t386 _ A77.out).mono ?_); rintro e w85 ⟨rfl, hb⟩; have n0_ := Aside0.mk (blk_below (g := gb370) (o := .cells #[.int .i64 a0_0, .int .i64 a0_1] 22 (0, 0)) (by (with_reducible repeat (first | refine blk_drewN ?_ _ | refine blk_drew ?_ | refine blk_alloc ?_ _)); exact BK370.out) hb); have n1_ := Aside0.mk (blk_below (g := gb374) (o := .cells #[.int .i64 t372, .int .i64 t373] 25 (0, 0)) (by (with_reducible repeat (first | refine blk_drewN ?_ _ | refine blk_drew ?_ | refine blk_alloc ?_ _)); exact BK374.out) hb); have n2_ := Aside0.mk (blk_below (g := gb377) (o := .cells #[.int .i64 t375, .int .i64 1] 25 (0, 0)) (by (with_reducible repeat (first | refine blk_drewN ?_ _ | refine blk_drew ?_ | refine blk_alloc ?_ _)); exact BK377.out) hb); have n3_ := Aside0.mk (blk_below (g := gb378) (o := .cells #[.int .i64 t376, .int .i64 1] 25 (0, 0)) (by (with_reducible repeat (first | refine blk_drewN ?_ _ | refine blk_drew ?_ | refine blk_alloc ?_ _)); exact BK378.out) hb); have n4_ := Aside0.mk (blk_below (g := gb384) (o := .cells #[.int .i64 t381, .int .i64 t382, .int .i64 t383] 31 (0, 0)) (by (with_reducible repeat (first | refine blk_drewN ?_ _ | refine blk_drew ?_ | refine blk_alloc ?_ _)); exact BK384.out) hb); have n5_ := Aside0.mk (below_step (by repeat (first | (with_reducible first | exact HB.out | apply below_alloc | apply pw_below_drewN | apply below_drew1 | refine below_set ?_ GE370.out | refine below_set ?_ GE374.out | refine below_set ?_ GE377.out | refine below_set ?_ GE378.out | refine below_set ?_ GE384.out) | exact HB.out)) hb); clear BK370; clear BK374; clear BK377; clear BK378; clear BK384; clear HB; have BK370 := n0_; have BK374 := n1_; have BK377 := n2_; have BK378 := n3_; have BK384 := n4_; have HB := n5_; clear n0_ n1_ n2_ n3_ n4_ n5_; (try clear hb); (try clear hb2); (try clear hk); (try clear hi); (try clear A77)))
        go_meet
        case rel => exact ⟨_, ((t386 != (wrap64 (t376 + (wrap64 (a1)))))), (by first | rfl | (simp; done) | (simp [*]; done)), H', ⟨by have := HJ7.out; first | omega | exact Nat.le_refl _⟩, ⟨by (with_reducible repeat (first | refine blk_drewN ?_ _ | refine blk_drew ?_ | refine blk_alloc ?_ _)); exact BK370.out⟩, ⟨by (with_reducible repeat (first | refine blk_drewN ?_ _ | refine blk_drew ?_ | refine blk_alloc ?_ _)); exact BK374.out⟩, ⟨by (with_reducible repeat (first | refine blk_drewN ?_ _ | refine blk_drew ?_ | refine blk_alloc ?_ _)); exact BK377.out⟩, ⟨by (with_reducible repeat (first | refine blk_drewN ?_ _ | refine blk_drew ?_ | refine blk_alloc ?_ _)); exact BK378.out⟩, ⟨by (with_reducible repeat (first | refine blk_drewN ?_ _ | refine blk_drew ?_ | refine blk_alloc ?_ _)); exact BK384.out⟩, ⟨by repeat (first | (with_reducible first | exact HB.out | apply below_alloc | apply pw_below_drewN | apply below_drew1 | refine below_set ?_ GE370.out | refine below_set ?_ GE374.out | refine below_set ?_ GE377.out | refine below_set ?_ GE378.out | refine below_set ?_ GE384.out) | exact HB.out)⟩⟩
       ·rw [if_neg c76] at H
        exact absurd H (wireloomlaw02_FractionRounds.dead_j1_true _ _ _ _)
      ·rw [if_neg c74] at H
       have c74b0 : (t383 == 0) = false := beq_eq_false_iff_ne.mpr c74
       have c74b1 : (t383 != 0) = true := bne_iff_ne.mpr c74
       (first | rw [c74b0] | (simp only [i64_w, i32_w]; rw [c74b0]) | skip)
       have H' := Aside0.mk H
       clear H
       have hnb86 := NB384_370.out
       have hnc86 := NB370_384.out
       have hnb87 := NB384_374.out
       have hnc87 := NB374_384.out
       have hnb88 := NB384_377.out
       have hnc88 := NB377_384.out
       have hnb89 := NB384_378.out
       have hnc89 := NB378_384.out
       have hcz90_0 : w68.cell? ⟨gb384, 0, none⟩ = some (.int .i64 0) := (blk_cell BK384.out 0).trans rfl
       have hcz90_1 : w68.cell? ⟨gb384, 1, none⟩ = some (.int .i64 0) := (blk_cell BK384.out 1).trans rfl
       have hcz90_2 : w68.cell? ⟨gb384, 2, none⟩ = some (.int .i64 0) := (blk_cell BK384.out 2).trans rfl
       have hfz90_0 := blk_frozen BK384.out 0
       have hfz90_1 := blk_frozen BK384.out 1
       have hfz90_2 := blk_frozen BK384.out 2
       go_wp2
       go_meet
       case rel => exact ⟨_, (false), (by first | rfl | (simp; done) | (simp [*]; done)), H', ⟨by have := HJ7.out; first | omega | exact Nat.le_refl _⟩, ⟨by repeat first | (with_reducible first | refine blk_drewN ?_ _ | refine blk_drew ?_ | refine blk_alloc ?_ _) | refine blk_far ?_ NB370_384.out _ | exact BK370.out⟩, ⟨by repeat first | (with_reducible first | refine blk_drewN ?_ _ | refine blk_drew ?_ | refine blk_alloc ?_ _) | refine blk_far ?_ NB374_384.out _ | exact BK374.out⟩, ⟨by repeat first | (with_reducible first | refine blk_drewN ?_ _ | refine blk_drew ?_ | refine blk_alloc ?_ _) | refine blk_far ?_ NB377_384.out _ | exact BK377.out⟩, ⟨by repeat first | (with_reducible first | refine blk_drewN ?_ _ | refine blk_drew ?_ | refine blk_alloc ?_ _) | refine blk_far ?_ NB378_384.out _ | exact BK378.out⟩, ⟨by (with_reducible repeat (first | refine blk_drewN ?_ _ | refine blk_drew ?_ | refine blk_alloc ?_ _)); refine blk_put (cs := #[.int .i64 t381, .int .i64 t382, .int .i64 0]) ?_ 2 _ rfl; (with_reducible repeat (first | refine blk_drewN ?_ _ | refine blk_drew ?_ | refine blk_alloc ?_ _)); refine blk_put (cs := #[.int .i64 t381, .int .i64 0, .int .i64 0]) ?_ 1 _ rfl; (with_reducible repeat (first | refine blk_drewN ?_ _ | refine blk_drew ?_ | refine blk_alloc ?_ _)); refine blk_put (cs := #[.int .i64 0, .int .i64 0, .int .i64 0]) ?_ 0 _ rfl; (with_reducible repeat (first | refine blk_drewN ?_ _ | refine blk_drew ?_ | refine blk_alloc ?_ _)); exact BK384.out⟩, ⟨by repeat (first | (with_reducible first | exact HB.out | apply below_alloc | apply pw_below_drewN | apply below_drew1 | refine below_set ?_ GE370.out | refine below_set ?_ GE374.out | refine below_set ?_ GE377.out | refine below_set ?_ GE378.out | refine below_set ?_ GE384.out) | exact HB.out)⟩⟩
     case rest =>
      clear HC62
      try clear c1
      try clear c2
      try clear p2
      try clear c3
      try clear c4
      try clear c5
      try clear c6
      try clear p6
      try clear c7
      try clear c8
      try clear c9
      try clear c10
      try clear c11
      try clear c12
      try clear c13
      try clear c14
      try clear c20
      try clear c21
      try clear c24
      try clear c25
      try clear c26
      try clear c29
      try clear c29b0
      try clear c31
      try clear c31b0
      try clear c32
      try clear c32b0
      try clear c32b1
      try clear c32b2
      try clear c33
      try clear c33b0
      try clear c34
      try clear c35
      try clear c36
      try clear c38
      try clear c39
      try clear c43
      try clear c47
      try clear c48
      try clear c49
      try clear c51
      try clear c52
      try clear c56
      try clear c60
      try clear c63
      try clear c64
      try clear p64
      try clear c65
      try clear c69
      try clear c70
      try clear c71
      try clear c72
      try clear c74
      try clear c74b0
      try clear c74b1
      try clear c76
      try clear c76b0
      try clear c76b1
      try clear c78
      try clear c79
      try clear c80
      try clear c81
      try clear c86
      try clear c87
      try clear c88
      try clear c89
      try clear hcz11_0
      try clear hcz11_1
      try clear hcz15_0
      try clear hcz15_1
      try clear hcz17_0
      try clear hcz17_1
      try clear hcz22_0
      try clear hcz22_1
      try clear hcz27_0
      try clear hcz27_1
      try clear hcz37_0
      try clear hcz37_1
      try clear hcz40_0
      try clear hcz40_1
      try clear hcz42_0
      try clear hcz42_1
      try clear hcz44_0
      try clear hcz44_1
      try clear hcz46_0
      try clear hcz46_1
      try clear hcz50_0
      try clear hcz50_1
      try clear hcz53_0
      try clear hcz53_1
      try clear hcz55_0
      try clear hcz55_1
      try clear hcz57_0
      try clear hcz57_1
      try clear hcz59_0
      try clear hcz59_1
      try clear hcz66_0
      try clear hcz66_1
      try clear hcz73_0
      try clear hcz73_1
      try clear hcz73_2
      try clear hcz82_0
      try clear hcz82_1
      try clear hcz82_2
      try clear hcz84_0
      try clear hcz84_1
      try clear hcz84_2
      try clear hcz90_0
      try clear hcz90_1
      try clear hcz90_2
      try clear hfz11_0
      try clear hfz11_1
      try clear hfz15_0
      try clear hfz15_1
      try clear hfz17_0
      try clear hfz17_1
      try clear hfz22_0
      try clear hfz22_1
      try clear hfz27_0
      try clear hfz27_1
      try clear hfz37_0
      try clear hfz37_1
      try clear hfz40_0
      try clear hfz40_1
      try clear hfz42_0
      try clear hfz42_1
      try clear hfz44_0
      try clear hfz44_1
      try clear hfz46_0
      try clear hfz46_1
      try clear hfz50_0
      try clear hfz50_1
      try clear hfz53_0
      try clear hfz53_1
      try clear hfz55_0
      try clear hfz55_1
      try clear hfz57_0
      try clear hfz57_1
      try clear hfz59_0
      try clear hfz59_1
      try clear hfz66_0
      try clear hfz66_1
      try clear hfz73_0
      try clear hfz73_1
      try clear hfz73_2
      try clear hfz82_0
      try clear hfz82_1
      try clear hfz82_2
      try clear hfz84_0
      try clear hfz84_1
      try clear hfz84_2
      try clear hfz90_0
      try clear hfz90_1
      try clear hfz90_2
      try clear p2
      try clear p6
      obtain ⟨kq, x85_61, rfl, HA, HJ61, BK370, BK374, BK377, BK378, BK384, HB⟩ := hcut
      cases kq with
      | zero => exact absurd HA.out (by simp [wireloomlaw02_FractionRounds.j1])
      | succ kj61 =>
       have H := HA.out
       clear HA
       simp only [wireloomlaw02_FractionRounds.j1] at H
       by_cases c91 : x85_61 = true
       ·subst c91
        have H1 : (some false) = some true := by rw [if_pos rfl] at H; exact H
        clear H
        have H := H1
        clear H1
        exact absurd H (by decide)
       ·replace c91 := Bool.eq_false_iff.mpr c91
        subst c91
        have H1 : (if true = true then ((wireloomlaw02_mul.f kj61 t372 t373 t373 1).bind fun bt387 => ((wireloomlaw02_is.f t372 1).bind fun bt390 => (some ((bt387.1 == bt390.1 && (bt387.2.1 == bt390.2.1)) && (bt387.2.2 == bt390.2.2))))) else (some false)) = some true := by rw [if_neg (show ¬ (false = true) by decide)] at H; exact H
        clear H
        have H := H1
        clear H1
        have H1 : ((wireloomlaw02_mul.f kj61 t372 t373 t373 1).bind fun bt387 => ((wireloomlaw02_is.f t372 1).bind fun bt390 => (some ((bt387.1 == bt390.1 && (bt387.2.1 == bt390.2.1)) && (bt387.2.2 == bt390.2.2))))) = some true := by rw [if_pos rfl] at H; exact H
        clear H
        have H := H1
        clear H1
        replace H := Option.bind_eq_some_iff.mp H
        obtain ⟨⟨t387, t388, t389⟩, A920, H⟩ := H
        replace H : ((wireloomlaw02_is.f t372 1).bind fun bt390 => (some ((t387 == bt390.1 && (t388 == bt390.2.1)) && (t389 == bt390.2.2)))) = some true := H
        have A92 := Aside0.mk A920
        clear A920
        replace H := Option.bind_eq_some_iff.mp H
        obtain ⟨⟨t390, t391, t392⟩, A930, H⟩ := H
        replace H : (some ((t387 == t390 && (t388 == t391)) && (t389 == t392))) = some true := H
        have A93 := Aside0.mk A930
        clear A930
        have Hr_ := Option.some.inj H
        (try subst Hr_)
        try go_wp2
        have n0_ := Aside0.mk (blk_drew BK370.out)
        have n1_ := Aside0.mk (blk_drew BK374.out)
        have n2_ := Aside0.mk (blk_drew BK377.out)
        have n3_ := Aside0.mk (blk_drew BK378.out)
        have n4_ := Aside0.mk (blk_drew BK384.out)
        have n5_ := Aside0.mk (below_drew1 HB.out)
        clear BK370
        clear BK374
        clear BK377
        clear BK378
        clear BK384
        clear HB
        have BK370 := n0_
        have BK374 := n1_
        have BK377 := n2_
        have BK378 := n3_
        have BK384 := n4_
        have HB := n5_
        clear n0_ n1_ n2_ n3_ n4_ n5_
        refine start_ (n := 13) (S := fun w' => w'.cell? ⟨gb374, 0, none⟩ = some (.int .i64 t372) ∧ w'.cell? ⟨gb374, 1, none⟩ = some (.int .i64 t373)) (ds := []) #[F_,F_,F_,F_,F_,F_,F_,F_,F_,F_,F_,F_,F_] (by kernel_rfl) rfl rfl ⟨(blk_cell BK374.out 0).trans rfl, (blk_cell BK374.out 1).trans rfl⟩ (fun hHeld => ?_); refine with_tabW wireloomlaw02_FractionRounds.tab14 wireloomlaw02_FractionRounds.bits14 (fun HT_ HW_ => ?_)
        generalize wc.drew = w94 at BK370 BK374 BK377 BK378 BK384 HB hHeld ⊢
        refine pz_ 0 86 13 1 HT_ rfl rfl (by kernel_rfl) ?_ (fun _ _ _ h => h) (by rfl) (fun w' => ?_) ?_ ?_ ?_;rotate_left;go_simp;with_reducible rfl;rotate_left;simp only [P_,A_,B_,C_,i64_w,i32_w];rfl
        refine pz_ 1 87 13 3 HT_ rfl rfl (by kernel_rfl) ?_ (fun _ _ _ h => h) (by rfl) (fun w' => ?_) ?_ ?_ ?_;rotate_left;go_simp;with_reducible rfl;rotate_left;simp only [P_,A_,B_,C_,i64_w,i32_w];rfl
        refine pz_ 3 89 13 11 HT_ rfl rfl (by kernel_rfl) ?_ (fun _ _ _ h => h) (by rfl) (fun w' => ?_) ?_ ?_ ?_;rotate_left;go_simp;with_reducible rfl;rotate_left;simp only [P_,A_,B_,C_,i64_w,i32_w];rfl
        refine pz_ 7 93 13 139 HT_ rfl rfl (by kernel_rfl) ?_ (fun _ _ _ h => h) (by rfl) (fun w' => ?_) ?_ ?_ ?_;rotate_left;go_simp;with_reducible rfl;rotate_left;simp only [P_,A_,B_,C_,i64_w,i32_w];rfl
        refine tz_ 2 88 13 143 HT_ HW_ rfl rfl (by kernel_rfl) hHeld ?_ (fun _ _ _ h => h) (by rfl) (fun w' ⟨s0, s1⟩ => ?_) ?_ ?_ ?_;rotate_left;go_simp;with_reducible rfl;rotate_left;simp only [P_,A_,B_,C_,i64_w,i32_w];rfl
        refine tz_ 4 90 13 159 HT_ HW_ rfl rfl (by kernel_rfl) hHeld ?_ (fun _ _ _ h => h) (by rfl) (fun w' ⟨s0, s1⟩ => ?_) ?_ ?_ ?_;rotate_left;go_simp;with_reducible rfl;rotate_left;simp only [P_,A_,B_,C_,i64_w,i32_w];rfl
        refine pz_ 5 91 13 191 HT_ rfl rfl (by kernel_rfl) ?_ (fun _ _ _ h => h) (by rfl) (fun w' => ?_) ?_ ?_ ?_;rotate_left;go_simp;with_reducible rfl;rotate_left;simp only [P_,A_,B_,C_,i64_w,i32_w];rfl
        refine tz_ 8 94 13 447 HT_ HW_ rfl rfl (by kernel_rfl) hHeld ?_ (fun _ _ _ h => h) (by rfl) (fun w' ⟨s0, s1⟩ => ?_) ?_ ?_ ?_;rotate_left;go_simp;with_reducible rfl;rotate_left;simp only [P_,A_,B_,C_,i64_w,i32_w];rfl
        refine one_ (i := 6) (N := some 92) #[T_,T_,T_,T_,T_,T_,T_,T_,T_,F_,F_,F_,F_] rfl rfl (one_of HT_.out (by kernel_rfl)) (by decide) (fun K hK => ?_)
        refine goes_ Tryd.func15 (by kernel_rfl) rfl #[.agg #[.int .i64 t372, .int .i64 t373], .agg #[.int .i64 t373, .int .i64 1]] (by rfl) rfl rfl (by (try simp only [List.map_toArray, List.map_cons, List.map_nil]); first | done | rfl | (simp only [List.length_drop, List.length_take]; rfl)) ?_
        with_reducible refine (wireloomlaw02_mul.calls kj61 t372 t373 t373 1 t387 t388 t389 _ A92.out).mono ?_
        rintro e w95 ⟨rfl, hb⟩
        refine ⟨_, rfl, ?_⟩
        have n0_ := Aside0.mk (blk_below (g := gb370) (o := .cells #[.int .i64 a0_0, .int .i64 a0_1] 22 (0, 0)) (by (with_reducible repeat (first | refine blk_drewN ?_ _ | refine blk_drew ?_ | refine blk_alloc ?_ _)); exact BK370.out) hb)
        have n1_ := Aside0.mk (blk_below (g := gb374) (o := .cells #[.int .i64 t372, .int .i64 t373] 25 (0, 0)) (by (with_reducible repeat (first | refine blk_drewN ?_ _ | refine blk_drew ?_ | refine blk_alloc ?_ _)); exact BK374.out) hb)
        have n2_ := Aside0.mk (blk_below (g := gb377) (o := .cells #[.int .i64 t375, .int .i64 1] 25 (0, 0)) (by (with_reducible repeat (first | refine blk_drewN ?_ _ | refine blk_drew ?_ | refine blk_alloc ?_ _)); exact BK377.out) hb)
        have n3_ := Aside0.mk (blk_below (g := gb378) (o := .cells #[.int .i64 t376, .int .i64 1] 25 (0, 0)) (by (with_reducible repeat (first | refine blk_drewN ?_ _ | refine blk_drew ?_ | refine blk_alloc ?_ _)); exact BK378.out) hb)
        have n4_ := Aside0.mk (blk_below (g := gb384) (o := .cells #[.int .i64 t381, .int .i64 t382, .int .i64 t383] 31 (0, 0)) (by (with_reducible repeat (first | refine blk_drewN ?_ _ | refine blk_drew ?_ | refine blk_alloc ?_ _)); exact BK384.out) hb)
        have n5_ := Aside0.mk (below_step (by repeat (first | (with_reducible first | exact HB.out | apply below_alloc | apply pw_below_drewN | apply below_drew1 | refine below_set ?_ GE370.out | refine below_set ?_ GE374.out | refine below_set ?_ GE377.out | refine below_set ?_ GE378.out | refine below_set ?_ GE384.out) | exact HB.out)) hb)
        clear BK370
        clear BK374
        clear BK377
        clear BK378
        clear BK384
        clear HB
        have BK370 := n0_
        have BK374 := n1_
        have BK377 := n2_
        have BK378 := n3_
        have BK384 := n4_
        have HB := n5_
        clear n0_ n1_ n2_ n3_ n4_ n5_
        (try clear hb)
        (try clear hb2)
        (try clear hk)
        (try clear hi)
        (try clear A92)
        refine hK.out _ _ ⟨(blk_cell BK374.out 0).trans rfl, (blk_cell BK374.out 1).trans rfl⟩ (fun hHeld => ?_)
        clear hK K
        refine norm_ (a' := ?_) ?_ ?_
        rotate_left
        ·show Act.put _ (some 92) _ = _
         simp only [Act.put, List.setIfInBounds_toArray, List.set_cons_zero, List.set_cons_succ, i64_w, i32_w]
         rfl
        refine one_ (i := 9) (N := some 95) #[T_,T_,T_,T_,T_,T_,T_,T_,T_,T_,F_,F_,F_] rfl rfl (one_of HT_.out (by kernel_rfl)) (by decide) (fun K hK => ?_)
        refine goes_ Tryd.func16 (by kernel_rfl) rfl #[.int .i64 t372, .int .i64 1] (by rfl) rfl rfl (by (try simp only [List.map_toArray, List.map_cons, List.map_nil]); first | done | rfl | (simp only [List.length_drop, List.length_take]; rfl)) ?_
        with_reducible refine (wireloomlaw02_is.calls t372 1 t390 t391 t392 _ A93.out).mono ?_
        rintro e w96 ⟨rfl, hb⟩
        refine ⟨_, rfl, ?_⟩
        have n0_ := Aside0.mk (blk_below (g := gb370) (o := .cells #[.int .i64 a0_0, .int .i64 a0_1] 22 (0, 0)) (by (with_reducible repeat (first | refine blk_drewN ?_ _ | refine blk_drew ?_ | refine blk_alloc ?_ _)); exact BK370.out) hb)
        have n1_ := Aside0.mk (blk_below (g := gb374) (o := .cells #[.int .i64 t372, .int .i64 t373] 25 (0, 0)) (by (with_reducible repeat (first | refine blk_drewN ?_ _ | refine blk_drew ?_ | refine blk_alloc ?_ _)); exact BK374.out) hb)
        have n2_ := Aside0.mk (blk_below (g := gb377) (o := .cells #[.int .i64 t375, .int .i64 1] 25 (0, 0)) (by (with_reducible repeat (first | refine blk_drewN ?_ _ | refine blk_drew ?_ | refine blk_alloc ?_ _)); exact BK377.out) hb)
        have n3_ := Aside0.mk (blk_below (g := gb378) (o := .cells #[.int .i64 t376, .int .i64 1] 25 (0, 0)) (by (with_reducible repeat (first | refine blk_drewN ?_ _ | refine blk_drew ?_ | refine blk_alloc ?_ _)); exact BK378.out) hb)
        have n4_ := Aside0.mk (blk_below (g := gb384) (o := .cells #[.int .i64 t381, .int .i64 t382, .int .i64 t383] 31 (0, 0)) (by (with_reducible repeat (first | refine blk_drewN ?_ _ | refine blk_drew ?_ | refine blk_alloc ?_ _)); exact BK384.out) hb)
        have n5_ := Aside0.mk (below_step (by repeat (first | (with_reducible first | exact HB.out | apply below_alloc | apply pw_below_drewN | apply below_drew1 | refine below_set ?_ GE370.out | refine below_set ?_ GE374.out | refine below_set ?_ GE377.out | refine below_set ?_ GE378.out | refine below_set ?_ GE384.out) | exact HB.out)) hb)
        clear BK370
        clear BK374
        clear BK377
        clear BK378
        clear BK384
        clear HB
        have BK370 := n0_
        have BK374 := n1_
        have BK377 := n2_
        have BK378 := n3_
        have BK384 := n4_
        have HB := n5_
        clear n0_ n1_ n2_ n3_ n4_ n5_
        (try clear hb)
        (try clear hb2)
        (try clear hk)
        (try clear hi)
        (try clear A93)
        refine hK.out _ _ ⟨(blk_cell BK374.out 0).trans rfl, (blk_cell BK374.out 1).trans rfl⟩ (fun hHeld => ?_)
        clear hK K
        refine norm_ (a' := ?_) ?_ ?_
        rotate_left
        ·show Act.put _ (some 95) _ = _
         simp only [Act.put, List.setIfInBounds_toArray, List.set_cons_zero, List.set_cons_succ, i64_w, i32_w]
         rfl
        refine pz_ 10 96 13 2047 HT_ rfl rfl (by kernel_rfl) ?_ (fun _ _ _ h => h) (by rfl) (fun w' => ?_) ?_ ?_ ?_;rotate_left;go_simp;with_reducible rfl;rotate_left;simp only [P_,A_,B_,C_,i64_w,i32_w];rfl
        refine pz_ 11 97 13 4095 HT_ rfl rfl (by kernel_rfl) ?_ (fun _ _ _ h => h) (by rfl) (fun w' => ?_) ?_ ?_ ?_;rotate_left;go_simp;with_reducible rfl;rotate_left;simp only [P_,A_,B_,C_,i64_w,i32_w];rfl
        refine pz_ 12 4 13 8191 HT_ rfl rfl (by kernel_rfl) ?_ (fun _ _ _ h => h) (by rfl) (fun w' => ?_) ?_ ?_ ?_;rotate_left;go_simp;with_reducible rfl;rotate_left;simp only [P_,A_,B_,C_,i64_w,i32_w];rfl
        refine done_ (done_of HT_.out (by kernel_rfl)) ?_
        try go_wp2
        go_ret
        exact ⟨by first | rfl | (simp [errW_none, errW_some] <;> rfl) | (simp [*, errW_none, errW_some] <;> rfl), by repeat (first | (with_reducible first | exact HB.out | apply below_alloc | apply pw_below_drewN | apply below_drew1 | refine below_set ?_ GE370.out | refine below_set ?_ GE374.out | refine below_set ?_ GE377.out | refine below_set ?_ GE378.out | refine below_set ?_ GE384.out) | exact HB.out)⟩
 ·replace c4 := Bool.eq_false_iff.mpr c4
  subst c4
  have H1 : (some false) = some true := by rw [if_neg (show ¬ (false = true) by decide)] at H; exact H
  clear H
  have H := H1
  clear H1
  exact absurd H (by decide)

/-- THE ONE PURE STATEMENT of wireloomlaw02_FractionRounds: yours. -/
def wireloomlaw02_FractionRounds.Pure : Prop := ∀ (a0_0 : Int) (a0_1 : Int) (a1 : Int), (Lit.int .i64 a0_0).wf = true → (Lit.int .i64 a0_1).wf = true → (Lit.int .i32 a1).wf = true → ∃ k, wireloomlaw02_FractionRounds.f k a0_0 a0_1 a1 = some true
theorem wireloomlaw02_FractionRounds.walk (P : wireloomlaw02_FractionRounds.Pure) (a0_0 : Int) (a0_1 : Int) (a1 : Int) (w : World) (hGL : GL w) (w0_0 : (Lit.int .i64 a0_0).wf = true) (w0_1 : (Lit.int .i64 a0_1).wf = true) (w1 : (Lit.int .i32 a1).wf = true) :
  Calls Tryd.prog 3 #[.agg #[.int .i64 a0_0, .int .i64 a0_1], .int .i32 a1] w fun e w' => e = .returned (.bool true) ∧ Below w.heap.size w w' := by
 obtain ⟨k, h⟩ := P a0_0 a0_1 a1 w0_0 w0_1 w1
 refine (wireloomlaw02_FractionRounds.calls k a0_0 a0_1 a1 w hGL h).mono ?_
 rintro e w' ⟨rfl, hd⟩
 exact ⟨rfl, hd⟩
end Go.Proofs.YtndfjpnpdnnpkaaDoor.F
