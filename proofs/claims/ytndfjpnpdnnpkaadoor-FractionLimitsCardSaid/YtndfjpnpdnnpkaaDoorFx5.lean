-- made by a program of this claim (wip/myprint.sh); Lean checks it
import Derived.Test.YtndfjpnpdnnpkaaDoorFx0
import Derived.Test.YtndfjpnpdnnpkaaDoorSt
import Derived.Test.YtndfjpnpdnnpkaaDoorFx3
import Derived.Test.YtndfjpnpdnnpkaaDoorFx4
import Derived.Test.YtndfjpnpdnnpkaaDoorGiven
import Derived.Test.YtndfjpnpdnnpkaaDoorGivenP
namespace Go.Proofs.YtndfjpnpdnnpkaaDoor.F
open Go.RowKit Go.Proofs.YtndfjpnpdnnpkaaDoorW.PrintWords Go.Proofs.YtndfjpnpdnnpkaaDoorW.PrintLast Go.Proofs.YtndfjpnpdnnpkaaDoorW.PrintMore
attribute [local go_sem] max2_int min2_int max_two min_two max_three min_three max_four min_four   -- for this text's walks alone
set_option linter.unusedVariables false
set_option linter.unusedSimpArgs false

/-! ### fraction_Add: function 32 -/
def fraction_Add.f (k : Nat) (a0_0 : Int) (a0_1 : Int) (a1_0 : Int) (a1_1 : Int) : Option (Int × Int × Int) := (fraction_gcd.f (([IntKind.u64.wrap (a0_1), IntKind.u64.wrap (a1_1)] : List Int))).bind fun t145 => (if (wrap64 (t145)) = 0 then (none) else ((fraction_times.f a0_0 (wrap64 (Int.tdiv a1_1 (wrap64 (t145))))).bind fun bt146 => ((fraction_times.f a1_0 (wrap64 (Int.tdiv a0_1 (wrap64 (t145))))).bind fun bt149 => ((fraction_wide_plus.f bt146.1 bt146.2.1 bt146.2.2 bt149.1 bt149.2.1 bt149.2.2).bind fun bt152 => ((fraction_wide_zero.f bt152.1 bt152.2.1 bt152.2.2).bind fun t156 => (if t156 = true then ((fraction_zero.f).bind fun bt157 => (some (bt157.1, bt157.2.1, bt157.2.2))) else ((bits_Rem64.f k bt152.2.1 bt152.2.2 t145).bind fun t160 => ((fraction_gcd.f (([t160, t145] : List Int))).bind fun t164 => ((fraction_wide_over.f k bt152.1 bt152.2.1 bt152.2.2 t164).bind fun bt165 => (if (wrap64 (t164)) = 0 then (none) else ((fraction_times.f (wrap64 (Int.tdiv a0_1 (wrap64 (t145)))) (wrap64 (Int.tdiv a1_1 (wrap64 (t164))))).bind fun bt168 => ((fraction_made.f k bt165.1 bt165.2.1 bt165.2.2 bt168.1 bt168.2.1 bt168.2.2).bind fun bt171 => (some (bt171.1, bt171.2.1, bt171.2.2))))))))))))))
theorem fraction_Add.mono : ∀ a0 a1 a2 a3 k, LeO (fraction_Add.f k a0 a1 a2 a3) (fraction_Add.f (k + 1) a0 a1 a2 a3) := by
 intro a0 a1 a2 a3 k
 unfold fraction_Add.f
 repeat' first
   | (with_reducible exact bits_Rem64.mono _ _ _ _)
   | (with_reducible exact fraction_made.mono _ _ _ _ _ _ _)
   | (with_reducible exact fraction_wide_over.mono _ _ _ _ _)
   | (with_reducible exact LeO.refl _)
   | (with_reducible exact LeO.none _)
   | (with_reducible refine LeO.ite ?_ ?_)
   | (with_reducible refine LeO.bind ?_ (fun _ => ?_))
   | exact bits_Rem64.mono _ _ _ _
   | exact fraction_made.mono _ _ _ _ _ _ _
   | exact fraction_wide_over.mono _ _ _ _ _
   | exact LeO.none _
   | refine LeO.ite ?_ ?_
   | refine LeO.bind ?_ (fun _ => ?_)
def fraction_Add.T2 : Bool × List (List Nat × List Nat) := (true, [([], []), ([0], [0]), ([], []), ([2], [2]), ([], []), ([4], [4]), ([3, 5], [3, 5]), ([1, 6], [1, 6]), ([], []), ([8], [8]), ([], []), ([10], [10]), ([], []), ([12], [12]), ([11, 13], [11, 13]), ([9, 14, 7], [9, 14]), ([7, 15, 15], [7, 15]), ([], []), ([17, 16, 16, 0, 1, 2, 3, 4, 5, 6, 7, 8, 9, 10, 11, 12, 13, 14, 15, 16, 17], [16, 17])])
def fraction_Add.B2 : List Nat := [0, 1, 0, 4, 0, 16, 60, 127, 0, 256, 0, 1024, 0, 4096, 15360, 32767, 65535, 0, 262143]
theorem fraction_Add.tab2 : rtab .any (opsOf Tryd.f32 2) = fraction_Add.T2 := by kernel_rfl
theorem fraction_Add.bits2 : waitsOk fraction_Add.T2.2 fraction_Add.B2 = true := by kernel_rfl
def fraction_Add.T6 : Bool × List (List Nat × List Nat) := (true, [([], []), ([], []), ([0, 1], [0, 1]), ([], []), ([3], [3]), ([], []), ([5], [5]), ([4, 6], [4, 6]), ([], []), ([8], [8]), ([], []), ([10], [10]), ([9, 11], [9, 11]), ([7, 12, 2], [7, 12]), ([2, 13, 13], [2, 13]), ([14], [14]), ([14], [14]), ([15, 14, 0, 1, 2, 3, 4, 5, 6, 7, 8, 9, 10, 11, 12, 13, 14, 15, 16], [15]), ([16, 17, 0, 1, 2, 3, 4, 5, 6, 7, 8, 9, 10, 11, 12, 13, 14, 15, 16, 17], [16])])
def fraction_Add.B6 : List Nat := [0, 0, 3, 0, 8, 0, 32, 120, 0, 256, 0, 1024, 3840, 8191, 16383, 32767, 32767, 131071, 262143]
theorem fraction_Add.tab6 : rtab .any (opsOf Tryd.f32 6) = fraction_Add.T6 := by kernel_rfl
theorem fraction_Add.bits6 : waitsOk fraction_Add.T6.2 fraction_Add.B6 = true := by kernel_rfl
set_option maxHeartbeats 8000000 in
set_option maxRecDepth 100000 in
theorem fraction_Add.calls (k : Nat) (a0_0 : Int) (a0_1 : Int) (a1_0 : Int) (a1_1 : Int) (r1 : Int) (r2 : Int) (r3 : Int) (w : World) (h : fraction_Add.f k a0_0 a0_1 a1_0 a1_1 = some (r1, r2, r3)) :
  Calls Tryd.prog 32 #[.agg #[.int .i64 a0_0, .int .i64 a0_1], .agg #[.int .i64 a1_0, .int .i64 a1_1]] w fun e w' => e = .returned (.tuple #[.agg #[.int .i64 r1, .int .i64 r2], .int .i64 r3]) ∧ Below w.heap.size w w' := by
 have hu25 := Tryd.underlying25
 have hu51 := Tryd.underlying51
 have HB := Aside0.mk (Below.refl w.heap.size w)
 have H : ((fraction_gcd.f (([IntKind.u64.wrap (a0_1), IntKind.u64.wrap (a1_1)] : List Int))).bind fun t145 => (if (wrap64 (t145)) = 0 then (none) else ((fraction_times.f a0_0 (wrap64 (Int.tdiv a1_1 (wrap64 (t145))))).bind fun bt146 => ((fraction_times.f a1_0 (wrap64 (Int.tdiv a0_1 (wrap64 (t145))))).bind fun bt149 => ((fraction_wide_plus.f bt146.1 bt146.2.1 bt146.2.2 bt149.1 bt149.2.1 bt149.2.2).bind fun bt152 => ((fraction_wide_zero.f bt152.1 bt152.2.1 bt152.2.2).bind fun t156 => (if t156 = true then ((fraction_zero.f).bind fun bt157 => (some (bt157.1, bt157.2.1, bt157.2.2))) else ((bits_Rem64.f k bt152.2.1 bt152.2.2 t145).bind fun t160 => ((fraction_gcd.f (([t160, t145] : List Int))).bind fun t164 => ((fraction_wide_over.f k bt152.1 bt152.2.1 bt152.2.2 t164).bind fun bt165 => (if (wrap64 (t164)) = 0 then (none) else ((fraction_times.f (wrap64 (Int.tdiv a0_1 (wrap64 (t145)))) (wrap64 (Int.tdiv a1_1 (wrap64 (t164))))).bind fun bt168 => ((fraction_made.f k bt165.1 bt165.2.1 bt165.2.2 bt168.1 bt168.2.1 bt168.2.2).bind fun bt171 => (some (bt171.1, bt171.2.1, bt171.2.2))))))))))))))) = some (r1, r2, r3) := h
 clear h
 obtain ⟨y142, hy142⟩ : ∃ y_ : List Int, y_ = (([IntKind.u64.wrap (a0_1), IntKind.u64.wrap (a1_1)] : List Int)) := ⟨_, rfl⟩
 replace H : ((fraction_gcd.f y142).bind fun t145 => (if (wrap64 (t145)) = 0 then (none) else ((fraction_times.f a0_0 (wrap64 (Int.tdiv a1_1 (wrap64 (t145))))).bind fun bt146 => ((fraction_times.f a1_0 (wrap64 (Int.tdiv a0_1 (wrap64 (t145))))).bind fun bt149 => ((fraction_wide_plus.f bt146.1 bt146.2.1 bt146.2.2 bt149.1 bt149.2.1 bt149.2.2).bind fun bt152 => ((fraction_wide_zero.f bt152.1 bt152.2.1 bt152.2.2).bind fun t156 => (if t156 = true then ((fraction_zero.f).bind fun bt157 => (some (bt157.1, bt157.2.1, bt157.2.2))) else ((bits_Rem64.f k bt152.2.1 bt152.2.2 t145).bind fun t160 => ((fraction_gcd.f (([t160, t145] : List Int))).bind fun t164 => ((fraction_wide_over.f k bt152.1 bt152.2.1 bt152.2.2 t164).bind fun bt165 => (if (wrap64 (t164)) = 0 then (none) else ((fraction_times.f (wrap64 (Int.tdiv a0_1 (wrap64 (t145)))) (wrap64 (Int.tdiv a1_1 (wrap64 (t164))))).bind fun bt168 => ((fraction_made.f k bt165.1 bt165.2.1 bt165.2.2 bt168.1 bt168.2.1 bt168.2.2).bind fun bt171 => (some (bt171.1, bt171.2.1, bt171.2.2))))))))))))))) = some (r1, r2, r3) := by first | (rw [hy142]; with_reducible exact H) | (have H2_ := (Option.bind_some _ _).symm.trans H; rw [hy142]; with_reducible exact H2_) | (have H2_ := (Option.bind_some _ _).symm.trans H; with_reducible exact H2_) | with_reducible exact H | (rw [hy142]; exact H) | exact H
 have Ny142 := Aside0.mk hy142
 clear hy142
 replace H := Option.bind_eq_some_iff.mp H
 obtain ⟨t145, A30, H⟩ := H
 replace H : (if (wrap64 (t145)) = 0 then (none) else ((fraction_times.f a0_0 (wrap64 (Int.tdiv a1_1 (wrap64 (t145))))).bind fun bt146 => ((fraction_times.f a1_0 (wrap64 (Int.tdiv a0_1 (wrap64 (t145))))).bind fun bt149 => ((fraction_wide_plus.f bt146.1 bt146.2.1 bt146.2.2 bt149.1 bt149.2.1 bt149.2.2).bind fun bt152 => ((fraction_wide_zero.f bt152.1 bt152.2.1 bt152.2.2).bind fun t156 => (if t156 = true then ((fraction_zero.f).bind fun bt157 => (some (bt157.1, bt157.2.1, bt157.2.2))) else ((bits_Rem64.f k bt152.2.1 bt152.2.2 t145).bind fun t160 => ((fraction_gcd.f (([t160, t145] : List Int))).bind fun t164 => ((fraction_wide_over.f k bt152.1 bt152.2.1 bt152.2.2 t164).bind fun bt165 => (if (wrap64 (t164)) = 0 then (none) else ((fraction_times.f (wrap64 (Int.tdiv a0_1 (wrap64 (t145)))) (wrap64 (Int.tdiv a1_1 (wrap64 (t164))))).bind fun bt168 => ((fraction_made.f k bt165.1 bt165.2.1 bt165.2.2 bt168.1 bt168.2.1 bt168.2.2).bind fun bt171 => (some (bt171.1, bt171.2.1, bt171.2.2)))))))))))))) = some (r1, r2, r3) := H
 have A3 := Aside0.mk A30
 clear A30
 by_cases c4 : (wrap64 (t145)) = 0
 ·rw [if_pos c4] at H
  exact absurd H (by simp)
 ·rw [if_neg c4] at H
  have c4b0 : ((wrap64 (t145)) == 0) = false := beq_eq_false_iff_ne.mpr c4
  have c4b1 : ((wrap64 (t145)) != 0) = true := bne_iff_ne.mpr c4
  replace H := Option.bind_eq_some_iff.mp H
  obtain ⟨⟨t146, t147, t148⟩, A50, H⟩ := H
  replace H : ((fraction_times.f a1_0 (wrap64 (Int.tdiv a0_1 (wrap64 (t145))))).bind fun bt149 => ((fraction_wide_plus.f t146 t147 t148 bt149.1 bt149.2.1 bt149.2.2).bind fun bt152 => ((fraction_wide_zero.f bt152.1 bt152.2.1 bt152.2.2).bind fun t156 => (if t156 = true then ((fraction_zero.f).bind fun bt157 => (some (bt157.1, bt157.2.1, bt157.2.2))) else ((bits_Rem64.f k bt152.2.1 bt152.2.2 t145).bind fun t160 => ((fraction_gcd.f (([t160, t145] : List Int))).bind fun t164 => ((fraction_wide_over.f k bt152.1 bt152.2.1 bt152.2.2 t164).bind fun bt165 => (if (wrap64 (t164)) = 0 then (none) else ((fraction_times.f (wrap64 (Int.tdiv a0_1 (wrap64 (t145)))) (wrap64 (Int.tdiv a1_1 (wrap64 (t164))))).bind fun bt168 => ((fraction_made.f k bt165.1 bt165.2.1 bt165.2.2 bt168.1 bt168.2.1 bt168.2.2).bind fun bt171 => (some (bt171.1, bt171.2.1, bt171.2.2)))))))))))) = some (r1, r2, r3) := H
  have A5 := Aside0.mk A50
  clear A50
  replace H := Option.bind_eq_some_iff.mp H
  obtain ⟨⟨t149, t150, t151⟩, A60, H⟩ := H
  replace H : ((fraction_wide_plus.f t146 t147 t148 t149 t150 t151).bind fun bt152 => ((fraction_wide_zero.f bt152.1 bt152.2.1 bt152.2.2).bind fun t156 => (if t156 = true then ((fraction_zero.f).bind fun bt157 => (some (bt157.1, bt157.2.1, bt157.2.2))) else ((bits_Rem64.f k bt152.2.1 bt152.2.2 t145).bind fun t160 => ((fraction_gcd.f (([t160, t145] : List Int))).bind fun t164 => ((fraction_wide_over.f k bt152.1 bt152.2.1 bt152.2.2 t164).bind fun bt165 => (if (wrap64 (t164)) = 0 then (none) else ((fraction_times.f (wrap64 (Int.tdiv a0_1 (wrap64 (t145)))) (wrap64 (Int.tdiv a1_1 (wrap64 (t164))))).bind fun bt168 => ((fraction_made.f k bt165.1 bt165.2.1 bt165.2.2 bt168.1 bt168.2.1 bt168.2.2).bind fun bt171 => (some (bt171.1, bt171.2.1, bt171.2.2))))))))))) = some (r1, r2, r3) := H
  have A6 := Aside0.mk A60
  clear A60
  replace H := Option.bind_eq_some_iff.mp H
  obtain ⟨⟨t152, t153, t154⟩, A70, H⟩ := H
  replace H : ((fraction_wide_zero.f t152 t153 t154).bind fun t156 => (if t156 = true then ((fraction_zero.f).bind fun bt157 => (some (bt157.1, bt157.2.1, bt157.2.2))) else ((bits_Rem64.f k t153 t154 t145).bind fun t160 => ((fraction_gcd.f (([t160, t145] : List Int))).bind fun t164 => ((fraction_wide_over.f k t152 t153 t154 t164).bind fun bt165 => (if (wrap64 (t164)) = 0 then (none) else ((fraction_times.f (wrap64 (Int.tdiv a0_1 (wrap64 (t145)))) (wrap64 (Int.tdiv a1_1 (wrap64 (t164))))).bind fun bt168 => ((fraction_made.f k bt165.1 bt165.2.1 bt165.2.2 bt168.1 bt168.2.1 bt168.2.2).bind fun bt171 => (some (bt171.1, bt171.2.1, bt171.2.2)))))))))) = some (r1, r2, r3) := H
  have A7 := Aside0.mk A70
  clear A70
  replace H := Option.bind_eq_some_iff.mp H
  obtain ⟨t156, A80, H⟩ := H
  replace H : (if t156 = true then ((fraction_zero.f).bind fun bt157 => (some (bt157.1, bt157.2.1, bt157.2.2))) else ((bits_Rem64.f k t153 t154 t145).bind fun t160 => ((fraction_gcd.f (([t160, t145] : List Int))).bind fun t164 => ((fraction_wide_over.f k t152 t153 t154 t164).bind fun bt165 => (if (wrap64 (t164)) = 0 then (none) else ((fraction_times.f (wrap64 (Int.tdiv a0_1 (wrap64 (t145)))) (wrap64 (Int.tdiv a1_1 (wrap64 (t164))))).bind fun bt168 => ((fraction_made.f k bt165.1 bt165.2.1 bt165.2.2 bt168.1 bt168.2.1 bt168.2.2).bind fun bt171 => (some (bt171.1, bt171.2.1, bt171.2.2))))))))) = some (r1, r2, r3) := H
  have A8 := Aside0.mk A80
  clear A80
  by_cases c9 : t156 = true
  ·subst c9
   have H1 : ((fraction_zero.f).bind fun bt157 => (some (bt157.1, bt157.2.1, bt157.2.2))) = some (r1, r2, r3) := by rw [if_pos rfl] at H; exact H
   clear H
   have H := H1
   clear H1
   replace H := Option.bind_eq_some_iff.mp H
   obtain ⟨⟨t157, t158, t159⟩, A100, H⟩ := H
   replace H : (some (t157, t158, t159)) = some (r1, r2, r3) := H
   have A10 := Aside0.mk A100
   clear A100
   simp only [Option.some.injEq, Prod.mk.injEq] at H
   obtain ⟨rfl, rfl, rfl⟩ := H
   go_enter Tryd.func32, Tryd.ntmps32
   try go_wp2_with (first | ((with_reducible refine gate_dst (N := 2) rfl ?_); refine box_event ?hg (N := 2) ?hd (cs := #[.int .i64 a0_0, .int .i64 a0_1]) (t := 25) ?hr ?_; (case hd => rfl); (case hg => rfl); (case hr => first | (go_simp; done) | (go_simp; rfl)); intro gb139 hg w11 hbox hb; have BK139 := Aside0.mk (hbox); have GW139 := Aside0.mk ((by rw [hg]; exact (below_size HB.out) : w.heap.size ≤ gb139)); have GE139 := Aside0.mk ((by rw [hg]; exact (below_size HB.out) : w.heap.size ≤ gb139)); replace HB := Aside0.mk (below_step HB.out hb); clear hb hbox hg) | ((with_reducible refine gate_dst (N := 3) rfl ?_); refine box_event ?hg (N := 3) ?hd (cs := #[.int .i64 a1_0, .int .i64 a1_1]) (t := 25) ?hr ?_; (case hd => rfl); (case hg => rfl); (case hr => first | (go_simp; done) | (go_simp; rfl)); intro gb140 hg w12 hbox hb; have BK140 := Aside0.mk (hbox); have GW140 := Aside0.mk ((by rw [hg]; exact (below_size HB.out) : w.heap.size ≤ gb140)); have GE140 := Aside0.mk ((by rw [hg]; exact (below_size HB.out) : w.heap.size ≤ gb140)); replace HB := Aside0.mk (below_step HB.out hb); have NB139_140 := Aside0.mk ((by rw [hg]; exact Nat.ne_of_lt (blk_lt BK139.out) : gb139 ≠ gb140)); have NB140_139 := Aside0.mk ((by rw [hg]; exact Nat.ne_of_gt (blk_lt BK139.out) : gb140 ≠ gb139)); replace BK139 := Aside0.mk (blk_below BK139.out hb); clear hb hbox hg) | ((with_reducible refine gate_dst (N := 4) rfl ?_); refine box_event ?hg (N := 4) ?hd (cs := #[.int .i64 0, .int .i64 0]) (t := 25) ?hr ?_; (case hd => rfl); (case hg => rfl); (case hr => first | (go_simp; done) | (go_simp; rfl)); intro gb141 hg w13 hbox hb; have BK141 := Aside0.mk (hbox); have GW141 := Aside0.mk ((by rw [hg]; exact (below_size HB.out) : w.heap.size ≤ gb141)); have GE141 := Aside0.mk ((by rw [hg]; exact (below_size HB.out) : w.heap.size ≤ gb141)); replace HB := Aside0.mk (below_step HB.out hb); have NB139_141 := Aside0.mk ((by rw [hg]; exact Nat.ne_of_lt (blk_lt BK139.out) : gb139 ≠ gb141)); have NB141_139 := Aside0.mk ((by rw [hg]; exact Nat.ne_of_gt (blk_lt BK139.out) : gb141 ≠ gb139)); replace BK139 := Aside0.mk (blk_below BK139.out hb); have NB140_141 := Aside0.mk ((by rw [hg]; exact Nat.ne_of_lt (blk_lt BK140.out) : gb140 ≠ gb141)); have NB141_140 := Aside0.mk ((by rw [hg]; exact Nat.ne_of_gt (blk_lt BK140.out) : gb141 ≠ gb140)); replace BK140 := Aside0.mk (blk_below BK140.out hb); clear hb hbox hg; have hnb14 := NB139_140.out; have hnc14 := NB140_139.out; have hnb15 := NB139_141.out; have hnc15 := NB141_139.out; have hcz16_0 : w13.cell? ⟨gb139, 0, none⟩ = some (.int .i64 a0_0) := (blk_cell BK139.out 0).trans rfl; have hcz16_1 : w13.cell? ⟨gb139, 1, none⟩ = some (.int .i64 a0_1) := (blk_cell BK139.out 1).trans rfl; have hfz16_0 := blk_frozen BK139.out 0; have hfz16_1 := blk_frozen BK139.out 1; have hnb17 := NB140_141.out; have hnc17 := NB141_140.out; have hcz18_0 : w13.cell? ⟨gb140, 0, none⟩ = some (.int .i64 a1_0) := (blk_cell BK140.out 0).trans rfl; have hcz18_1 : w13.cell? ⟨gb140, 1, none⟩ = some (.int .i64 a1_1) := (blk_cell BK140.out 1).trans rfl; have hfz18_0 := blk_frozen BK140.out 0; have hfz18_1 := blk_frozen BK140.out 1) | ((with_reducible refine gate_dst (N := 15) rfl ?_); refine Kd.R_lit (Kd.int .u64) _ 49 ?hg (N := 15) ?hd (xs := ([IntKind.u64.wrap (a0_1), IntKind.u64.wrap (a1_1)] : List Int)) (inner := [.int .u64 (IntKind.u64.wrap (a0_1)), .int .u64 (IntKind.u64.wrap (a1_1))]) (ok := fun _ => True) (okp := fun _ => True) ?hr ?hp (fun _ hk => hk) trivial (Below.refl _ _) (Nat.le_refl _) (by simp) ?_; (case hd => rfl); (case hg => rfl); (case hr => first | (go_simp; done) | (go_simp; rfl)); (case hp => exact (Reps.one (show Kd.M (Kd.int .u64) _ _ _ (IntKind.u64.wrap (a0_1)) [.int .u64 (IntKind.u64.wrap (a0_1))] from rfl) (Reps.one (show Kd.M (Kd.int .u64) _ _ _ (IntKind.u64.wrap (a1_1)) [.int .u64 (IntKind.u64.wrap (a1_1))] from rfl) (Reps.none _ _)))); intro v143 w19 ho20 hb hg_ hnew_; clear hg_ hnew_; (first | rw [← Ny142.out] at ho20 | (simp only [Int.reduceToNat] at ho20; rw [← Ny142.out] at ho20)); have HO144 := Aside0.mk (Kd.R_lower ho20 (below_size HB.out)); replace BK139 := Aside0.mk (blk_below BK139.out hb); replace BK140 := Aside0.mk (blk_below BK140.out hb); replace BK141 := Aside0.mk (blk_below BK141.out hb); replace HB := Aside0.mk (below_step HB.out hb); clear hb ho20; obtain ⟨Ao21, co21, eo21⟩ := Kd.R_slice HO144.out; subst eo21) | ((with_reducible refine gate_callee (f := 42) rfl ?_); refine goesL_ (some 16) rfl rfl Tryd.func42 (by kernel_rfl) rfl #[.slice Ao21 y142.length co21] rfl (by (try simp only [List.map_toArray, List.map_cons, List.map_nil]); first | done | rfl | (simp only [List.length_drop, List.length_take]; rfl)) ?_; (with_reducible refine (fraction_gcd.calls _ _ y142 t145 _ ?side1 ?side2 A3.out).mono ?_); (case side1 => repeat (first | exact (Kd.R_reads' HO144.out).2.2 | (with_reducible refine Kd.C_alloc ?_ _) | (with_reducible refine Kd.C_drewN ?_ _) | (with_reducible refine Kd.C_drew ?_))); (case side2 => exact (Kd.R_reads' HO144.out).2.1); rintro e w22 ⟨rfl, hb⟩; refine ⟨_, rfl, ?_⟩; replace HO144 := Aside0.mk (Kd.R_below HO144.out hb); replace BK139 := Aside0.mk (blk_below BK139.out hb); replace BK140 := Aside0.mk (blk_below BK140.out hb); replace BK141 := Aside0.mk (blk_below BK141.out hb); replace HB := Aside0.mk (below_step HB.out hb); (try clear hb); (try clear A3)))
   replace HO144 := Aside0.mk (Kd.R_drew HO144.out)
   replace BK139 := Aside0.mk (blk_drew BK139.out)
   replace BK140 := Aside0.mk (blk_drew BK140.out)
   replace BK141 := Aside0.mk (blk_drew BK141.out)
   replace HB := Aside0.mk (below_drew1 HB.out)
   refine start_ (n := 19) (S := fun w' => w'.cell? ⟨gb139, 0, none⟩ = some (.int .i64 a0_0) ∧ w'.cell? ⟨gb139, 1, none⟩ = some (.int .i64 a0_1) ∧ w'.cell? ⟨gb140, 0, none⟩ = some (.int .i64 a1_0) ∧ w'.cell? ⟨gb140, 1, none⟩ = some (.int .i64 a1_1)) (ds := []) #[F_,F_,F_,F_,F_,F_,F_,F_,F_,F_,F_,F_,F_,F_,F_,F_,F_,F_,F_] (by kernel_rfl) rfl rfl ⟨(blk_cell BK139.out 0).trans rfl, (blk_cell BK139.out 1).trans rfl, (blk_cell BK140.out 0).trans rfl, (blk_cell BK140.out 1).trans rfl⟩ (fun hHeld => ?_); refine with_tabW fraction_Add.tab2 fraction_Add.bits2 (fun HT_ HW_ => ?_)
   generalize w22.drew = w23 at HO144 BK139 BK140 BK141 HB hHeld ⊢
   refine pz_ 0 17 19 1 HT_ rfl rfl (by kernel_rfl) ?_ (fun _ _ _ h => h) (by rfl) (fun w' => ?_) ?_ ?_ ?_;rotate_left;go_simp;with_reducible rfl;rotate_left;simp only [P_,A_,B_,C_,i64_w,i32_w];rfl
   refine pz_ 2 19 19 5 HT_ rfl rfl (by kernel_rfl) ?_ (fun _ _ _ h => h) (by rfl) (fun w' => ?_) ?_ ?_ ?_;rotate_left;go_simp;with_reducible rfl;rotate_left;simp only [P_,A_,B_,C_,i64_w,i32_w];rfl
   refine pz_ 4 21 19 21 HT_ rfl rfl (by kernel_rfl) ?_ (fun _ _ _ h => h) (by rfl) (fun w' => ?_) ?_ ?_ ?_;rotate_left;go_simp;with_reducible rfl;rotate_left;simp only [P_,A_,B_,C_,i64_w,i32_w];rfl
   refine pz_ 5 22 19 53 HT_ rfl rfl (by kernel_rfl) ?_ (fun _ _ _ h => h) (by rfl) (fun w' => ?_) ?_ ?_ ?_;rotate_left;go_simp;with_reducible rfl;rotate_left;simp only [P_,A_,B_,C_,i64_w,i32_w];rfl
   refine pz_ 8 25 19 309 HT_ rfl rfl (by kernel_rfl) ?_ (fun _ _ _ h => h) (by rfl) (fun w' => ?_) ?_ ?_ ?_;rotate_left;go_simp;with_reducible rfl;rotate_left;simp only [P_,A_,B_,C_,i64_w,i32_w];rfl
   refine pz_ 10 27 19 1333 HT_ rfl rfl (by kernel_rfl) ?_ (fun _ _ _ h => h) (by rfl) (fun w' => ?_) ?_ ?_ ?_;rotate_left;go_simp;with_reducible rfl;rotate_left;simp only [P_,A_,B_,C_,i64_w,i32_w];rfl
   refine pz_ 12 29 19 5429 HT_ rfl rfl (by kernel_rfl) ?_ (fun _ _ _ h => h) (by rfl) (fun w' => ?_) ?_ ?_ ?_;rotate_left;go_simp;with_reducible rfl;rotate_left;simp only [P_,A_,B_,C_,i64_w,i32_w];rfl
   refine pz_ 13 30 19 13621 HT_ rfl rfl (by kernel_rfl) ?_ (fun _ _ _ h => h) (by rfl) (fun w' => ?_) ?_ ?_ ?_;rotate_left;go_simp;with_reducible rfl;rotate_left;simp only [P_,A_,B_,C_,i64_w,i32_w];rfl
   refine tz_ 1 18 19 13623 HT_ HW_ rfl rfl (by kernel_rfl) hHeld ?_ (fun _ _ _ h => h) (by rfl) (fun w' ⟨s0, s1, s2, s3⟩ => ?_) ?_ ?_ ?_;rotate_left;go_simp;with_reducible rfl;rotate_left;simp only [P_,A_,B_,C_,i64_w,i32_w];rfl
   refine tz_ 3 20 19 13631 HT_ HW_ rfl rfl (by kernel_rfl) hHeld ?_ (fun _ _ _ h => h) (by rfl) (fun w' ⟨s0, s1, s2, s3⟩ => ?_) ?_ ?_ ?_;rotate_left;go_simp;with_reducible rfl;rotate_left;simp only [P_,A_,B_,C_,i64_w,i32_w];rfl
   refine pz_ 6 23 19 13695 HT_ rfl rfl (by kernel_rfl) ?_ (fun _ _ _ h => h) (by rfl) (fun w' => ?_) ?_ ?_ ?_;rotate_left;go_simp;with_reducible rfl;rotate_left;simp only [P_,A_,B_,C_,i64_w,i32_w];rfl
   refine tz_ 9 26 19 14207 HT_ HW_ rfl rfl (by kernel_rfl) hHeld ?_ (fun _ _ _ h => h) (by rfl) (fun w' ⟨s0, s1, s2, s3⟩ => ?_) ?_ ?_ ?_;rotate_left;go_simp;with_reducible rfl;rotate_left;simp only [P_,A_,B_,C_,i64_w,i32_w];rfl
   refine tz_ 11 28 19 16255 HT_ HW_ rfl rfl (by kernel_rfl) hHeld ?_ (fun _ _ _ h => h) (by rfl) (fun w' ⟨s0, s1, s2, s3⟩ => ?_) ?_ ?_ ?_;rotate_left;go_simp;with_reducible rfl;rotate_left;simp only [P_,A_,B_,C_,i64_w,i32_w];rfl
   refine pz_ 14 31 19 32639 HT_ rfl rfl (by kernel_rfl) ?_ (fun _ _ _ h => h) (by rfl) (fun w' => ?_) ?_ ?_ ?_;rotate_left;go_simp;with_reducible rfl;rotate_left;simp only [P_,A_,B_,C_,i64_w,i32_w];rfl
   refine join_ (σ := Nat) 1 #[T_,T_,T_,T_,T_,T_,T_,T_,T_,T_,T_,T_,T_,T_,T_,T_,T_,T_,F_] (fun s_ => [(24, .agg #[.bool t146, .int .u64 t147, .int .u64 t148]), (32, .agg #[.bool t149, .int .u64 t150, .int .u64 t151]), (33, .agg #[.bool t152, .int .u64 t153, .int .u64 t154]), (7, .pointer (some ⟨s_, 0, none⟩))]) (fun s_ w' => (w'.cell? ⟨gb139, 0, none⟩ = some (.int .i64 a0_0) ∧ w'.cell? ⟨gb139, 1, none⟩ = some (.int .i64 a0_1) ∧ w'.cell? ⟨gb140, 0, none⟩ = some (.int .i64 a1_0) ∧ w'.cell? ⟨gb140, 1, none⟩ = some (.int .i64 a1_1)) ∧ (Kd.R (Kd.int .u64) 49 w' w.heap.size (fun _ => True) (.slice Ao21 y142.length co21) y142) ∧ (w'.heap[gb139]? = some (.cells #[.int .i64 a0_0, .int .i64 a0_1] 25 (0, 0))) ∧ (w'.heap[gb140]? = some (.cells #[.int .i64 a1_0, .int .i64 a1_1] 25 (0, 0))) ∧ (w'.heap[gb141]? = some (.cells #[.int .i64 0, .int .i64 0] 25 (0, 0))) ∧ (w'.heap[s_]? = some (.cells #[.bool false, .int .u64 0, .int .u64 0] 51 (0, 0))) ∧ (w.heap.size ≤ s_) ∧ (w.heap.size ≤ s_) ∧ (gb139 ≠ s_) ∧ (s_ ≠ gb139) ∧ (gb140 ≠ s_) ∧ (s_ ≠ gb140) ∧ (gb141 ≠ s_) ∧ (s_ ≠ gb141) ∧ (Below w.heap.size w w')) ?_ ?_
   rotate_left
   ·intro hCont
    refine two_ (i := 7) (j := 17) (Ni := some 24) (Nj := some 7) #[T_,T_,T_,T_,T_,T_,T_,T_,T_,T_,T_,T_,T_,T_,T_,F_,F_,F_,F_] #[T_,T_,T_,T_,T_,T_,T_,F_,T_,T_,T_,T_,T_,T_,T_,F_,F_,T_,F_] rfl rfl rfl rfl (two_of HT_.out (by kernel_rfl)) (by decide) (by decide) (fun K hK => ?_) (fun K hK => ?_)
    ·skip
     refine goes_ Tryd.func30 (by kernel_rfl) rfl #[.int .i64 a0_0, .int .i64 (wrap64 (Int.tdiv a1_1 (wrap64 (t145))))] (by rfl) rfl rfl (by (try simp only [List.map_toArray, List.map_cons, List.map_nil]); first | done | rfl | (simp only [List.length_drop, List.length_take]; rfl)) ?_
     with_reducible refine (fraction_times.calls a0_0 (wrap64 (Int.tdiv a1_1 (wrap64 (t145)))) t146 t147 t148 _ A5.out).mono ?_
     rintro e w24 ⟨rfl, hb⟩
     refine ⟨_, rfl, ?_⟩
     replace HO144 := Aside0.mk (Kd.R_below HO144.out hb)
     replace BK139 := Aside0.mk (blk_below BK139.out hb)
     replace BK140 := Aside0.mk (blk_below BK140.out hb)
     replace BK141 := Aside0.mk (blk_below BK141.out hb)
     replace HB := Aside0.mk (below_step HB.out hb)
     (try clear hb)
     (try clear A5)
     refine hK.out _ _ ⟨(blk_cell BK139.out 0).trans rfl, (blk_cell BK139.out 1).trans rfl, (blk_cell BK140.out 0).trans rfl, (blk_cell BK140.out 1).trans rfl⟩ (fun hHeld => ?_)
     clear hK K
     refine norm_ (a' := ?_) ?_ ?_
     rotate_left
     ·show Act.put _ (some 24) _ = _
      simp only [Act.put, List.setIfInBounds_toArray, List.set_cons_zero, List.set_cons_succ, i64_w, i32_w]
      rfl
     refine two_ (i := 15) (j := 17) (Ni := some 32) (Nj := some 7) #[T_,T_,T_,T_,T_,T_,T_,T_,T_,T_,T_,T_,T_,T_,T_,T_,F_,F_,F_] #[T_,T_,T_,T_,T_,T_,T_,T_,T_,T_,T_,T_,T_,T_,T_,F_,F_,T_,F_] rfl rfl rfl rfl (two_of HT_.out (by kernel_rfl)) (by decide) (by decide) (fun K hK => ?_) (fun K hK => ?_)
     ·skip
      refine goes_ Tryd.func30 (by kernel_rfl) rfl #[.int .i64 a1_0, .int .i64 (wrap64 (Int.tdiv a0_1 (wrap64 (t145))))] (by rfl) rfl rfl (by (try simp only [List.map_toArray, List.map_cons, List.map_nil]); first | done | rfl | (simp only [List.length_drop, List.length_take]; rfl)) ?_
      with_reducible refine (fraction_times.calls a1_0 (wrap64 (Int.tdiv a0_1 (wrap64 (t145)))) t149 t150 t151 _ A6.out).mono ?_
      rintro e w25 ⟨rfl, hb⟩
      refine ⟨_, rfl, ?_⟩
      replace HO144 := Aside0.mk (Kd.R_below HO144.out hb)
      replace BK139 := Aside0.mk (blk_below BK139.out hb)
      replace BK140 := Aside0.mk (blk_below BK140.out hb)
      replace BK141 := Aside0.mk (blk_below BK141.out hb)
      replace HB := Aside0.mk (below_step HB.out hb)
      (try clear hb)
      (try clear A6)
      refine hK.out _ _ ⟨(blk_cell BK139.out 0).trans rfl, (blk_cell BK139.out 1).trans rfl, (blk_cell BK140.out 0).trans rfl, (blk_cell BK140.out 1).trans rfl⟩ (fun hHeld => ?_)
      clear hK K
      refine norm_ (a' := ?_) ?_ ?_
      rotate_left
      ·show Act.put _ (some 32) _ = _
       simp only [Act.put, List.setIfInBounds_toArray, List.set_cons_zero, List.set_cons_succ, i64_w, i32_w]
       rfl
      refine two_ (i := 16) (j := 17) (Ni := some 33) (Nj := some 7) #[T_,T_,T_,T_,T_,T_,T_,T_,T_,T_,T_,T_,T_,T_,T_,T_,T_,F_,F_] #[T_,T_,T_,T_,T_,T_,T_,T_,T_,T_,T_,T_,T_,T_,T_,T_,F_,T_,F_] rfl rfl rfl rfl (two_of HT_.out (by kernel_rfl)) (by decide) (by decide) (fun K hK => ?_) (fun K hK => ?_)
      ·skip
       refine goes_ Tryd.func31 (by kernel_rfl) rfl #[.agg #[.bool t146, .int .u64 t147, .int .u64 t148], .agg #[.bool t149, .int .u64 t150, .int .u64 t151]] (by rfl) rfl rfl (by (try simp only [List.map_toArray, List.map_cons, List.map_nil]); first | done | rfl | (simp only [List.length_drop, List.length_take]; rfl)) ?_
       with_reducible refine (fraction_wide_plus.calls t146 t147 t148 t149 t150 t151 t152 t153 t154 _ A7.out).mono ?_
       rintro e w26 ⟨rfl, hb⟩
       refine ⟨_, rfl, ?_⟩
       replace HO144 := Aside0.mk (Kd.R_below HO144.out hb)
       replace BK139 := Aside0.mk (blk_below BK139.out hb)
       replace BK140 := Aside0.mk (blk_below BK140.out hb)
       replace BK141 := Aside0.mk (blk_below BK141.out hb)
       replace HB := Aside0.mk (below_step HB.out hb)
       (try clear hb)
       (try clear A7)
       refine hK.out _ _ ⟨(blk_cell BK139.out 0).trans rfl, (blk_cell BK139.out 1).trans rfl, (blk_cell BK140.out 0).trans rfl, (blk_cell BK140.out 1).trans rfl⟩ (fun hHeld => ?_)
       clear hK K
       refine norm_ (a' := ?_) ?_ ?_
       rotate_left
       ·show Act.put _ (some 33) _ = _
        simp only [Act.put, List.setIfInBounds_toArray, List.set_cons_zero, List.set_cons_succ, i64_w, i32_w]
        rfl
       refine one_ (i := 17) (N := some 7) #[T_,T_,T_,T_,T_,T_,T_,T_,T_,T_,T_,T_,T_,T_,T_,T_,T_,T_,F_] rfl rfl (one_of HT_.out (by kernel_rfl)) (by decide) (fun K hK => ?_)
       refine box_step ?hg (N := 7) ?hd (cs := #[.bool false, .int .u64 0, .int .u64 0]) (t := 51) ?hr ?_; (case hd => rfl); (case hg => rfl); (case hr => first | (go_simp; done) | (go_simp; rfl))
       intro gb155 hg w27 hbox hb
       replace HO144 := Aside0.mk (Kd.R_below HO144.out hb)
       have BK155 := Aside0.mk (hbox)
       have GW155 := Aside0.mk ((by rw [hg]; exact (below_size HB.out) : w.heap.size ≤ gb155))
       have GE155 := GW155
       replace HB := Aside0.mk (below_step HB.out hb)
       have NB139_155 := Aside0.mk ((by rw [hg]; exact Nat.ne_of_lt (blk_lt BK139.out) : gb139 ≠ gb155))
       have NB155_139 := Aside0.mk ((by rw [hg]; exact Nat.ne_of_gt (blk_lt BK139.out) : gb155 ≠ gb139))
       replace BK139 := Aside0.mk (blk_below BK139.out hb)
       have NB140_155 := Aside0.mk ((by rw [hg]; exact Nat.ne_of_lt (blk_lt BK140.out) : gb140 ≠ gb155))
       have NB155_140 := Aside0.mk ((by rw [hg]; exact Nat.ne_of_gt (blk_lt BK140.out) : gb155 ≠ gb140))
       replace BK140 := Aside0.mk (blk_below BK140.out hb)
       have NB141_155 := Aside0.mk ((by rw [hg]; exact Nat.ne_of_lt (blk_lt BK141.out) : gb141 ≠ gb155))
       have NB155_141 := Aside0.mk ((by rw [hg]; exact Nat.ne_of_gt (blk_lt BK141.out) : gb155 ≠ gb141))
       replace BK141 := Aside0.mk (blk_below BK141.out hb)
       clear hb hbox hg
       refine hK.out _ _ ⟨(blk_cell BK139.out 0).trans rfl, (blk_cell BK139.out 1).trans rfl, (blk_cell BK140.out 0).trans rfl, (blk_cell BK140.out 1).trans rfl⟩ (fun hHeld => ?_)
       clear hK K
       refine norm_ (a' := ?_) ?_ ?_
       rotate_left
       ·show Act.put _ (some 7) _ = _
        simp only [Act.put, List.setIfInBounds_toArray, List.set_cons_zero, List.set_cons_succ, i64_w, i32_w]
        rfl
       exact norm_ (by simp only [putAll, Act.put, List.setIfInBounds_toArray, List.set_cons_zero, List.set_cons_succ]) (hCont (gb155) _ ⟨hHeld, HO144.out, BK139.out, BK140.out, BK141.out, BK155.out, GW155.out, GE155.out, NB139_155.out, NB155_139.out, NB140_155.out, NB155_140.out, NB141_155.out, NB155_141.out, HB.out⟩)
      ·skip
       refine box_step ?hg (N := 7) ?hd (cs := #[.bool false, .int .u64 0, .int .u64 0]) (t := 51) ?hr ?_; (case hd => rfl); (case hg => rfl); (case hr => first | (go_simp; done) | (go_simp; rfl))
       intro gb155 hg w26 hbox hb
       replace HO144 := Aside0.mk (Kd.R_below HO144.out hb)
       have BK155 := Aside0.mk (hbox)
       have GW155 := Aside0.mk ((by rw [hg]; exact (below_size HB.out) : w.heap.size ≤ gb155))
       have GE155 := GW155
       replace HB := Aside0.mk (below_step HB.out hb)
       have NB139_155 := Aside0.mk ((by rw [hg]; exact Nat.ne_of_lt (blk_lt BK139.out) : gb139 ≠ gb155))
       have NB155_139 := Aside0.mk ((by rw [hg]; exact Nat.ne_of_gt (blk_lt BK139.out) : gb155 ≠ gb139))
       replace BK139 := Aside0.mk (blk_below BK139.out hb)
       have NB140_155 := Aside0.mk ((by rw [hg]; exact Nat.ne_of_lt (blk_lt BK140.out) : gb140 ≠ gb155))
       have NB155_140 := Aside0.mk ((by rw [hg]; exact Nat.ne_of_gt (blk_lt BK140.out) : gb155 ≠ gb140))
       replace BK140 := Aside0.mk (blk_below BK140.out hb)
       have NB141_155 := Aside0.mk ((by rw [hg]; exact Nat.ne_of_lt (blk_lt BK141.out) : gb141 ≠ gb155))
       have NB155_141 := Aside0.mk ((by rw [hg]; exact Nat.ne_of_gt (blk_lt BK141.out) : gb155 ≠ gb141))
       replace BK141 := Aside0.mk (blk_below BK141.out hb)
       clear hb hbox hg
       refine hK.out _ _ ⟨(blk_cell BK139.out 0).trans rfl, (blk_cell BK139.out 1).trans rfl, (blk_cell BK140.out 0).trans rfl, (blk_cell BK140.out 1).trans rfl⟩ (fun hHeld => ?_)
       clear hK K
       refine norm_ (a' := ?_) ?_ ?_
       rotate_left
       ·show Act.put _ (some 7) _ = _
        simp only [Act.put, List.setIfInBounds_toArray, List.set_cons_zero, List.set_cons_succ, i64_w, i32_w]
        rfl
       refine one_ (i := 16) (N := some 33) #[T_,T_,T_,T_,T_,T_,T_,T_,T_,T_,T_,T_,T_,T_,T_,T_,T_,T_,F_] rfl rfl (one_of HT_.out (by kernel_rfl)) (by decide) (fun K hK => ?_)
       refine goes_ Tryd.func31 (by kernel_rfl) rfl #[.agg #[.bool t146, .int .u64 t147, .int .u64 t148], .agg #[.bool t149, .int .u64 t150, .int .u64 t151]] (by rfl) rfl rfl (by (try simp only [List.map_toArray, List.map_cons, List.map_nil]); first | done | rfl | (simp only [List.length_drop, List.length_take]; rfl)) ?_
       with_reducible refine (fraction_wide_plus.calls t146 t147 t148 t149 t150 t151 t152 t153 t154 _ A7.out).mono ?_
       rintro e w27 ⟨rfl, hb⟩
       refine ⟨_, rfl, ?_⟩
       replace HO144 := Aside0.mk (Kd.R_below HO144.out hb)
       replace BK139 := Aside0.mk (blk_below BK139.out hb)
       replace BK140 := Aside0.mk (blk_below BK140.out hb)
       replace BK141 := Aside0.mk (blk_below BK141.out hb)
       replace BK155 := Aside0.mk (blk_below BK155.out hb)
       replace HB := Aside0.mk (below_step HB.out hb)
       (try clear hb)
       (try clear A7)
       refine hK.out _ _ ⟨(blk_cell BK139.out 0).trans rfl, (blk_cell BK139.out 1).trans rfl, (blk_cell BK140.out 0).trans rfl, (blk_cell BK140.out 1).trans rfl⟩ (fun hHeld => ?_)
       clear hK K
       refine norm_ (a' := ?_) ?_ ?_
       rotate_left
       ·show Act.put _ (some 33) _ = _
        simp only [Act.put, List.setIfInBounds_toArray, List.set_cons_zero, List.set_cons_succ, i64_w, i32_w]
        rfl
       exact norm_ (by simp only [putAll, Act.put, List.setIfInBounds_toArray, List.set_cons_zero, List.set_cons_succ]) (hCont (gb155) _ ⟨hHeld, HO144.out, BK139.out, BK140.out, BK141.out, BK155.out, GW155.out, GE155.out, NB139_155.out, NB155_139.out, NB140_155.out, NB155_140.out, NB141_155.out, NB155_141.out, HB.out⟩)
     ·skip
      refine box_step ?hg (N := 7) ?hd (cs := #[.bool false, .int .u64 0, .int .u64 0]) (t := 51) ?hr ?_; (case hd => rfl); (case hg => rfl); (case hr => first | (go_simp; done) | (go_simp; rfl))
      intro gb155 hg w25 hbox hb
      replace HO144 := Aside0.mk (Kd.R_below HO144.out hb)
      have BK155 := Aside0.mk (hbox)
      have GW155 := Aside0.mk ((by rw [hg]; exact (below_size HB.out) : w.heap.size ≤ gb155))
      have GE155 := GW155
      replace HB := Aside0.mk (below_step HB.out hb)
      have NB139_155 := Aside0.mk ((by rw [hg]; exact Nat.ne_of_lt (blk_lt BK139.out) : gb139 ≠ gb155))
      have NB155_139 := Aside0.mk ((by rw [hg]; exact Nat.ne_of_gt (blk_lt BK139.out) : gb155 ≠ gb139))
      replace BK139 := Aside0.mk (blk_below BK139.out hb)
      have NB140_155 := Aside0.mk ((by rw [hg]; exact Nat.ne_of_lt (blk_lt BK140.out) : gb140 ≠ gb155))
      have NB155_140 := Aside0.mk ((by rw [hg]; exact Nat.ne_of_gt (blk_lt BK140.out) : gb155 ≠ gb140))
      replace BK140 := Aside0.mk (blk_below BK140.out hb)
      have NB141_155 := Aside0.mk ((by rw [hg]; exact Nat.ne_of_lt (blk_lt BK141.out) : gb141 ≠ gb155))
      have NB155_141 := Aside0.mk ((by rw [hg]; exact Nat.ne_of_gt (blk_lt BK141.out) : gb155 ≠ gb141))
      replace BK141 := Aside0.mk (blk_below BK141.out hb)
      clear hb hbox hg
      refine hK.out _ _ ⟨(blk_cell BK139.out 0).trans rfl, (blk_cell BK139.out 1).trans rfl, (blk_cell BK140.out 0).trans rfl, (blk_cell BK140.out 1).trans rfl⟩ (fun hHeld => ?_)
      clear hK K
      refine norm_ (a' := ?_) ?_ ?_
      rotate_left
      ·show Act.put _ (some 7) _ = _
       simp only [Act.put, List.setIfInBounds_toArray, List.set_cons_zero, List.set_cons_succ, i64_w, i32_w]
       rfl
      refine one_ (i := 15) (N := some 32) #[T_,T_,T_,T_,T_,T_,T_,T_,T_,T_,T_,T_,T_,T_,T_,T_,F_,T_,F_] rfl rfl (one_of HT_.out (by kernel_rfl)) (by decide) (fun K hK => ?_)
      refine goes_ Tryd.func30 (by kernel_rfl) rfl #[.int .i64 a1_0, .int .i64 (wrap64 (Int.tdiv a0_1 (wrap64 (t145))))] (by rfl) rfl rfl (by (try simp only [List.map_toArray, List.map_cons, List.map_nil]); first | done | rfl | (simp only [List.length_drop, List.length_take]; rfl)) ?_
      with_reducible refine (fraction_times.calls a1_0 (wrap64 (Int.tdiv a0_1 (wrap64 (t145)))) t149 t150 t151 _ A6.out).mono ?_
      rintro e w26 ⟨rfl, hb⟩
      refine ⟨_, rfl, ?_⟩
      replace HO144 := Aside0.mk (Kd.R_below HO144.out hb)
      replace BK139 := Aside0.mk (blk_below BK139.out hb)
      replace BK140 := Aside0.mk (blk_below BK140.out hb)
      replace BK141 := Aside0.mk (blk_below BK141.out hb)
      replace BK155 := Aside0.mk (blk_below BK155.out hb)
      replace HB := Aside0.mk (below_step HB.out hb)
      (try clear hb)
      (try clear A6)
      refine hK.out _ _ ⟨(blk_cell BK139.out 0).trans rfl, (blk_cell BK139.out 1).trans rfl, (blk_cell BK140.out 0).trans rfl, (blk_cell BK140.out 1).trans rfl⟩ (fun hHeld => ?_)
      clear hK K
      refine norm_ (a' := ?_) ?_ ?_
      rotate_left
      ·show Act.put _ (some 32) _ = _
       simp only [Act.put, List.setIfInBounds_toArray, List.set_cons_zero, List.set_cons_succ, i64_w, i32_w]
       rfl
      refine one_ (i := 16) (N := some 33) #[T_,T_,T_,T_,T_,T_,T_,T_,T_,T_,T_,T_,T_,T_,T_,T_,T_,T_,F_] rfl rfl (one_of HT_.out (by kernel_rfl)) (by decide) (fun K hK => ?_)
      refine goes_ Tryd.func31 (by kernel_rfl) rfl #[.agg #[.bool t146, .int .u64 t147, .int .u64 t148], .agg #[.bool t149, .int .u64 t150, .int .u64 t151]] (by rfl) rfl rfl (by (try simp only [List.map_toArray, List.map_cons, List.map_nil]); first | done | rfl | (simp only [List.length_drop, List.length_take]; rfl)) ?_
      with_reducible refine (fraction_wide_plus.calls t146 t147 t148 t149 t150 t151 t152 t153 t154 _ A7.out).mono ?_
      rintro e w27 ⟨rfl, hb⟩
      refine ⟨_, rfl, ?_⟩
      replace HO144 := Aside0.mk (Kd.R_below HO144.out hb)
      replace BK139 := Aside0.mk (blk_below BK139.out hb)
      replace BK140 := Aside0.mk (blk_below BK140.out hb)
      replace BK141 := Aside0.mk (blk_below BK141.out hb)
      replace BK155 := Aside0.mk (blk_below BK155.out hb)
      replace HB := Aside0.mk (below_step HB.out hb)
      (try clear hb)
      (try clear A7)
      refine hK.out _ _ ⟨(blk_cell BK139.out 0).trans rfl, (blk_cell BK139.out 1).trans rfl, (blk_cell BK140.out 0).trans rfl, (blk_cell BK140.out 1).trans rfl⟩ (fun hHeld => ?_)
      clear hK K
      refine norm_ (a' := ?_) ?_ ?_
      rotate_left
      ·show Act.put _ (some 33) _ = _
       simp only [Act.put, List.setIfInBounds_toArray, List.set_cons_zero, List.set_cons_succ, i64_w, i32_w]
       rfl
      exact norm_ (by simp only [putAll, Act.put, List.setIfInBounds_toArray, List.set_cons_zero, List.set_cons_succ]) (hCont (gb155) _ ⟨hHeld, HO144.out, BK139.out, BK140.out, BK141.out, BK155.out, GW155.out, GE155.out, NB139_155.out, NB155_139.out, NB140_155.out, NB155_140.out, NB141_155.out, NB155_141.out, HB.out⟩)
    ·skip
     refine box_step ?hg (N := 7) ?hd (cs := #[.bool false, .int .u64 0, .int .u64 0]) (t := 51) ?hr ?_; (case hd => rfl); (case hg => rfl); (case hr => first | (go_simp; done) | (go_simp; rfl))
     intro gb155 hg w24 hbox hb
     replace HO144 := Aside0.mk (Kd.R_below HO144.out hb)
     have BK155 := Aside0.mk (hbox)
     have GW155 := Aside0.mk ((by rw [hg]; exact (below_size HB.out) : w.heap.size ≤ gb155))
     have GE155 := GW155
     replace HB := Aside0.mk (below_step HB.out hb)
     have NB139_155 := Aside0.mk ((by rw [hg]; exact Nat.ne_of_lt (blk_lt BK139.out) : gb139 ≠ gb155))
     have NB155_139 := Aside0.mk ((by rw [hg]; exact Nat.ne_of_gt (blk_lt BK139.out) : gb155 ≠ gb139))
     replace BK139 := Aside0.mk (blk_below BK139.out hb)
     have NB140_155 := Aside0.mk ((by rw [hg]; exact Nat.ne_of_lt (blk_lt BK140.out) : gb140 ≠ gb155))
     have NB155_140 := Aside0.mk ((by rw [hg]; exact Nat.ne_of_gt (blk_lt BK140.out) : gb155 ≠ gb140))
     replace BK140 := Aside0.mk (blk_below BK140.out hb)
     have NB141_155 := Aside0.mk ((by rw [hg]; exact Nat.ne_of_lt (blk_lt BK141.out) : gb141 ≠ gb155))
     have NB155_141 := Aside0.mk ((by rw [hg]; exact Nat.ne_of_gt (blk_lt BK141.out) : gb155 ≠ gb141))
     replace BK141 := Aside0.mk (blk_below BK141.out hb)
     clear hb hbox hg
     refine hK.out _ _ ⟨(blk_cell BK139.out 0).trans rfl, (blk_cell BK139.out 1).trans rfl, (blk_cell BK140.out 0).trans rfl, (blk_cell BK140.out 1).trans rfl⟩ (fun hHeld => ?_)
     clear hK K
     refine norm_ (a' := ?_) ?_ ?_
     rotate_left
     ·show Act.put _ (some 7) _ = _
      simp only [Act.put, List.setIfInBounds_toArray, List.set_cons_zero, List.set_cons_succ, i64_w, i32_w]
      rfl
     refine one_ (i := 7) (N := some 24) #[T_,T_,T_,T_,T_,T_,T_,T_,T_,T_,T_,T_,T_,T_,T_,F_,F_,T_,F_] rfl rfl (one_of HT_.out (by kernel_rfl)) (by decide) (fun K hK => ?_)
     refine goes_ Tryd.func30 (by kernel_rfl) rfl #[.int .i64 a0_0, .int .i64 (wrap64 (Int.tdiv a1_1 (wrap64 (t145))))] (by rfl) rfl rfl (by (try simp only [List.map_toArray, List.map_cons, List.map_nil]); first | done | rfl | (simp only [List.length_drop, List.length_take]; rfl)) ?_
     with_reducible refine (fraction_times.calls a0_0 (wrap64 (Int.tdiv a1_1 (wrap64 (t145)))) t146 t147 t148 _ A5.out).mono ?_
     rintro e w25 ⟨rfl, hb⟩
     refine ⟨_, rfl, ?_⟩
     replace HO144 := Aside0.mk (Kd.R_below HO144.out hb)
     replace BK139 := Aside0.mk (blk_below BK139.out hb)
     replace BK140 := Aside0.mk (blk_below BK140.out hb)
     replace BK141 := Aside0.mk (blk_below BK141.out hb)
     replace BK155 := Aside0.mk (blk_below BK155.out hb)
     replace HB := Aside0.mk (below_step HB.out hb)
     (try clear hb)
     (try clear A5)
     refine hK.out _ _ ⟨(blk_cell BK139.out 0).trans rfl, (blk_cell BK139.out 1).trans rfl, (blk_cell BK140.out 0).trans rfl, (blk_cell BK140.out 1).trans rfl⟩ (fun hHeld => ?_)
     clear hK K
     refine norm_ (a' := ?_) ?_ ?_
     rotate_left
     ·show Act.put _ (some 24) _ = _
      simp only [Act.put, List.setIfInBounds_toArray, List.set_cons_zero, List.set_cons_succ, i64_w, i32_w]
      rfl
     refine one_ (i := 15) (N := some 32) #[T_,T_,T_,T_,T_,T_,T_,T_,T_,T_,T_,T_,T_,T_,T_,T_,F_,T_,F_] rfl rfl (one_of HT_.out (by kernel_rfl)) (by decide) (fun K hK => ?_)
     refine goes_ Tryd.func30 (by kernel_rfl) rfl #[.int .i64 a1_0, .int .i64 (wrap64 (Int.tdiv a0_1 (wrap64 (t145))))] (by rfl) rfl rfl (by (try simp only [List.map_toArray, List.map_cons, List.map_nil]); first | done | rfl | (simp only [List.length_drop, List.length_take]; rfl)) ?_
     with_reducible refine (fraction_times.calls a1_0 (wrap64 (Int.tdiv a0_1 (wrap64 (t145)))) t149 t150 t151 _ A6.out).mono ?_
     rintro e w26 ⟨rfl, hb⟩
     refine ⟨_, rfl, ?_⟩
     replace HO144 := Aside0.mk (Kd.R_below HO144.out hb)
     replace BK139 := Aside0.mk (blk_below BK139.out hb)
     replace BK140 := Aside0.mk (blk_below BK140.out hb)
     replace BK141 := Aside0.mk (blk_below BK141.out hb)
     replace BK155 := Aside0.mk (blk_below BK155.out hb)
     replace HB := Aside0.mk (below_step HB.out hb)
     (try clear hb)
     (try clear A6)
     refine hK.out _ _ ⟨(blk_cell BK139.out 0).trans rfl, (blk_cell BK139.out 1).trans rfl, (blk_cell BK140.out 0).trans rfl, (blk_cell BK140.out 1).trans rfl⟩ (fun hHeld => ?_)
     clear hK K
     refine norm_ (a' := ?_) ?_ ?_
     rotate_left
     ·show Act.put _ (some 32) _ = _
      simp only [Act.put, List.setIfInBounds_toArray, List.set_cons_zero, List.set_cons_succ, i64_w, i32_w]
      rfl
     refine one_ (i := 16) (N := some 33) #[T_,T_,T_,T_,T_,T_,T_,T_,T_,T_,T_,T_,T_,T_,T_,T_,T_,T_,F_] rfl rfl (one_of HT_.out (by kernel_rfl)) (by decide) (fun K hK => ?_)
     refine goes_ Tryd.func31 (by kernel_rfl) rfl #[.agg #[.bool t146, .int .u64 t147, .int .u64 t148], .agg #[.bool t149, .int .u64 t150, .int .u64 t151]] (by rfl) rfl rfl (by (try simp only [List.map_toArray, List.map_cons, List.map_nil]); first | done | rfl | (simp only [List.length_drop, List.length_take]; rfl)) ?_
     with_reducible refine (fraction_wide_plus.calls t146 t147 t148 t149 t150 t151 t152 t153 t154 _ A7.out).mono ?_
     rintro e w27 ⟨rfl, hb⟩
     refine ⟨_, rfl, ?_⟩
     replace HO144 := Aside0.mk (Kd.R_below HO144.out hb)
     replace BK139 := Aside0.mk (blk_below BK139.out hb)
     replace BK140 := Aside0.mk (blk_below BK140.out hb)
     replace BK141 := Aside0.mk (blk_below BK141.out hb)
     replace BK155 := Aside0.mk (blk_below BK155.out hb)
     replace HB := Aside0.mk (below_step HB.out hb)
     (try clear hb)
     (try clear A7)
     refine hK.out _ _ ⟨(blk_cell BK139.out 0).trans rfl, (blk_cell BK139.out 1).trans rfl, (blk_cell BK140.out 0).trans rfl, (blk_cell BK140.out 1).trans rfl⟩ (fun hHeld => ?_)
     clear hK K
     refine norm_ (a' := ?_) ?_ ?_
     rotate_left
     ·show Act.put _ (some 33) _ = _
      simp only [Act.put, List.setIfInBounds_toArray, List.set_cons_zero, List.set_cons_succ, i64_w, i32_w]
      rfl
     exact norm_ (by simp only [putAll, Act.put, List.setIfInBounds_toArray, List.set_cons_zero, List.set_cons_succ]) (hCont (gb155) _ ⟨hHeld, HO144.out, BK139.out, BK140.out, BK141.out, BK155.out, GW155.out, GE155.out, NB139_155.out, NB155_139.out, NB140_155.out, NB155_140.out, NB141_155.out, NB155_141.out, HB.out⟩)
   rintro gb155 w28 ⟨hS_, h0_, h1_, h2_, h3_, h4_, h5_, h6_, h7_, h8_, h9_, h10_, h11_, h12_, h13_⟩
   have n0_ : Aside0 (Kd.R (Kd.int .u64) 49 w28 w.heap.size (fun _ => True) (.slice Ao21 y142.length co21) y142) := ⟨h0_⟩
   have n1_ : Aside0 (w28.heap[gb139]? = some (.cells #[.int .i64 a0_0, .int .i64 a0_1] 25 (0, 0))) := ⟨h1_⟩
   have n2_ : Aside0 (w28.heap[gb140]? = some (.cells #[.int .i64 a1_0, .int .i64 a1_1] 25 (0, 0))) := ⟨h2_⟩
   have n3_ : Aside0 (w28.heap[gb141]? = some (.cells #[.int .i64 0, .int .i64 0] 25 (0, 0))) := ⟨h3_⟩
   have n4_ : Aside0 (w28.heap[gb155]? = some (.cells #[.bool false, .int .u64 0, .int .u64 0] 51 (0, 0))) := ⟨h4_⟩
   have n5_ : Aside0 (w.heap.size ≤ gb155) := ⟨h5_⟩
   have n6_ : Aside0 (w.heap.size ≤ gb155) := ⟨h6_⟩
   have n7_ : Aside0 (gb139 ≠ gb155) := ⟨h7_⟩
   have n8_ : Aside0 (gb155 ≠ gb139) := ⟨h8_⟩
   have n9_ : Aside0 (gb140 ≠ gb155) := ⟨h9_⟩
   have n10_ : Aside0 (gb155 ≠ gb140) := ⟨h10_⟩
   have n11_ : Aside0 (gb141 ≠ gb155) := ⟨h11_⟩
   have n12_ : Aside0 (gb155 ≠ gb141) := ⟨h12_⟩
   have n13_ : Aside0 (Below w.heap.size w w28) := ⟨h13_⟩
   clear HO144
   clear BK139
   clear BK140
   clear BK141
   clear HB
   clear h0_ h1_ h2_ h3_ h4_ h5_ h6_ h7_ h8_ h9_ h10_ h11_ h12_ h13_
   have HO144 := n0_
   have BK139 := n1_
   have BK140 := n2_
   have BK141 := n3_
   have BK155 := n4_
   have GW155 := n5_
   have GE155 := n6_
   have NB139_155 := n7_
   have NB155_139 := n8_
   have NB140_155 := n9_
   have NB155_140 := n10_
   have NB141_155 := n11_
   have NB155_141 := n12_
   have HB := n13_
   clear n0_ n1_ n2_ n3_ n4_ n5_ n6_ n7_ n8_ n9_ n10_ n11_ n12_ n13_
   have hHeld : w28.cell? ⟨gb139, 0, none⟩ = some (.int .i64 a0_0) ∧ w28.cell? ⟨gb139, 1, none⟩ = some (.int .i64 a0_1) ∧ w28.cell? ⟨gb140, 0, none⟩ = some (.int .i64 a1_0) ∧ w28.cell? ⟨gb140, 1, none⟩ = some (.int .i64 a1_1) := hS_
   refine norm_ (a' := ?_) ?_ ?_
   rotate_left
   ·simp only [putAll, Act.put, List.setIfInBounds_toArray, List.set_cons_zero, List.set_cons_succ]
    rfl
   refine one_ (i := 18) (N := none) #[T_,T_,T_,T_,T_,T_,T_,T_,T_,T_,T_,T_,T_,T_,T_,T_,T_,T_,T_] rfl rfl (one_of HT_.out (by kernel_rfl)) (by decide) (fun K hK => ?_)
   have hs29 : w28.cell? ⟨gb155, 0, none⟩ = some (.bool false) := (blk_cell BK155.out 0).trans rfl
   have hfs29 := blk_frozen BK155.out 0
   have hns29_0 := NB139_155.out
   have hns29_1 := NB140_155.out
   have hns29_2 := NB141_155.out
   have hms29_0 := NB155_139.out
   have hms29_1 := NB155_140.out
   have hms29_2 := NB155_141.out
   have hs30 : w28.cell? ⟨gb155, 1, none⟩ = some (.int .u64 0) := (blk_cell BK155.out 1).trans rfl
   have hfs30 := blk_frozen BK155.out 1
   have hns30_0 := NB139_155.out
   have hns30_1 := NB140_155.out
   have hns30_2 := NB141_155.out
   have hms30_0 := NB155_139.out
   have hms30_1 := NB155_140.out
   have hms30_2 := NB155_141.out
   have hs31 : w28.cell? ⟨gb155, 2, none⟩ = some (.int .u64 0) := (blk_cell BK155.out 2).trans rfl
   have hfs31 := blk_frozen BK155.out 2
   have hns31_0 := NB139_155.out
   have hns31_1 := NB140_155.out
   have hns31_2 := NB141_155.out
   have hms31_0 := NB155_139.out
   have hms31_1 := NB155_140.out
   have hms31_2 := NB155_141.out
   refine skip_ (w1 := ?_) (by rfl) rfl ?_ ?_
   rotate_left
   ·go_simp
    rfl
   refine hK.out _ _ ⟨((cell_far (p := ⟨gb155, _, none⟩) NB139_155.out _).trans (((cell_far (p := ⟨gb155, _, none⟩) NB139_155.out _).trans (((cell_far (p := ⟨gb155, _, none⟩) NB139_155.out _).trans (hHeld.1)))))), ((cell_far (p := ⟨gb155, _, none⟩) NB139_155.out _).trans (((cell_far (p := ⟨gb155, _, none⟩) NB139_155.out _).trans (((cell_far (p := ⟨gb155, _, none⟩) NB139_155.out _).trans (hHeld.2.1)))))), ((cell_far (p := ⟨gb155, _, none⟩) NB140_155.out _).trans (((cell_far (p := ⟨gb155, _, none⟩) NB140_155.out _).trans (((cell_far (p := ⟨gb155, _, none⟩) NB140_155.out _).trans (hHeld.2.2.1)))))), ((cell_far (p := ⟨gb155, _, none⟩) NB140_155.out _).trans (((cell_far (p := ⟨gb155, _, none⟩) NB140_155.out _).trans (((cell_far (p := ⟨gb155, _, none⟩) NB140_155.out _).trans (hHeld.2.2.2))))))⟩ (fun hHeld => ?_)
   clear hK K
   refine done_ (done_of HT_.out (by kernel_rfl)) ?_
   have hnb32 := NB155_139.out
   have hnc32 := NB139_155.out
   have hnb33 := NB155_140.out
   have hnc33 := NB140_155.out
   have hnb34 := NB155_141.out
   have hnc34 := NB141_155.out
   have hcz35_0 : w28.cell? ⟨gb155, 0, none⟩ = some (.bool false) := (blk_cell BK155.out 0).trans rfl
   have hcz35_1 : w28.cell? ⟨gb155, 1, none⟩ = some (.int .u64 0) := (blk_cell BK155.out 1).trans rfl
   have hcz35_2 : w28.cell? ⟨gb155, 2, none⟩ = some (.int .u64 0) := (blk_cell BK155.out 2).trans rfl
   have hfz35_0 := blk_frozen BK155.out 0
   have hfz35_1 := blk_frozen BK155.out 1
   have hfz35_2 := blk_frozen BK155.out 2
   try go_wp2_with (first | ((with_reducible refine gate_callee (f := 51) rfl ?_); refine goesL_ (some 35) rfl rfl Tryd.func51 (by kernel_rfl) rfl #[.agg #[.bool t152, .int .u64 t153, .int .u64 t154]] rfl (by (try simp only [List.map_toArray, List.map_cons, List.map_nil]); first | done | rfl | (simp only [List.length_drop, List.length_take]; rfl)) ?_; (with_reducible refine (fraction_wide_zero.calls t152 t153 t154 true _ A8.out).mono ?_); rintro e w36 ⟨rfl, hb⟩; refine ⟨_, rfl, ?_⟩; replace HO144 := Aside0.mk (Kd.R_below (by (with_reducible repeat (first | apply Kd.R_alloc | apply Kd.R_drewN | apply Kd.R_drew)); exact (Kd.R_mono (Kd.R_far (p := ⟨gb155, 2, none⟩) (Kd.R_far (p := ⟨gb155, 1, none⟩) (Kd.R_far (p := ⟨gb155, 0, none⟩) (Kd.R_types HO144.out BK155.out (by decide)) (fun _ hk => hk.2) (.bool t152)) (fun _ hk => hk.2) (.int .u64 t153)) (fun _ hk => hk.2) (.int .u64 t154)) (fun _ h_ => h_.1))) hb); replace BK139 := Aside0.mk (blk_below (g := gb139) (o := .cells #[.int .i64 a0_0, .int .i64 a0_1] 25 (0, 0)) (by repeat first | (with_reducible first | refine blk_drewN ?_ _ | refine blk_drew ?_ | refine blk_alloc ?_ _) | refine blk_far ?_ NB139_155.out _ | exact BK139.out) hb); replace BK140 := Aside0.mk (blk_below (g := gb140) (o := .cells #[.int .i64 a1_0, .int .i64 a1_1] 25 (0, 0)) (by repeat first | (with_reducible first | refine blk_drewN ?_ _ | refine blk_drew ?_ | refine blk_alloc ?_ _) | refine blk_far ?_ NB140_155.out _ | exact BK140.out) hb); replace BK141 := Aside0.mk (blk_below (g := gb141) (o := .cells #[.int .i64 0, .int .i64 0] 25 (0, 0)) (by repeat first | (with_reducible first | refine blk_drewN ?_ _ | refine blk_drew ?_ | refine blk_alloc ?_ _) | refine blk_far ?_ NB141_155.out _ | exact BK141.out) hb); replace BK155 := Aside0.mk (blk_below (g := gb155) (o := .cells #[.bool t152, .int .u64 t153, .int .u64 t154] 51 (0, 0)) (by (with_reducible repeat (first | refine blk_drewN ?_ _ | refine blk_drew ?_ | refine blk_alloc ?_ _)); refine blk_put (cs := #[.bool t152, .int .u64 t153, .int .u64 0]) ?_ 2 _ rfl; (with_reducible repeat (first | refine blk_drewN ?_ _ | refine blk_drew ?_ | refine blk_alloc ?_ _)); refine blk_put (cs := #[.bool t152, .int .u64 0, .int .u64 0]) ?_ 1 _ rfl; (with_reducible repeat (first | refine blk_drewN ?_ _ | refine blk_drew ?_ | refine blk_alloc ?_ _)); refine blk_put (cs := #[.bool false, .int .u64 0, .int .u64 0]) ?_ 0 _ rfl; (with_reducible repeat (first | refine blk_drewN ?_ _ | refine blk_drew ?_ | refine blk_alloc ?_ _)); exact BK155.out) hb); replace HB := Aside0.mk (below_step (by repeat (first | (with_reducible first | exact HB.out | apply below_alloc | apply pw_below_drewN | apply below_drew1 | refine below_set ?_ GE139.out | refine below_set ?_ GE140.out | refine below_set ?_ GE141.out | refine below_set ?_ GE155.out) | exact HB.out)) hb); (try clear hb); (try clear A8)) | ((with_reducible refine gate_callee (f := 52) rfl ?_); refine goesL_ (some 36) rfl rfl Tryd.func52 (by kernel_rfl) rfl #[] rfl (by (try simp only [List.map_toArray, List.map_cons, List.map_nil]); first | done | rfl | (simp only [List.length_drop, List.length_take]; rfl)) ?_; (with_reducible refine (fraction_zero.calls  t157 t158 t159 _ A10.out).mono ?_); rintro e w37 ⟨rfl, hb⟩; refine ⟨_, rfl, ?_⟩; replace HO144 := Aside0.mk (Kd.R_below (by (with_reducible repeat (first | apply Kd.R_alloc | apply Kd.R_drewN | apply Kd.R_drew)); exact HO144.out) hb); replace BK139 := Aside0.mk (blk_below (g := gb139) (o := .cells #[.int .i64 a0_0, .int .i64 a0_1] 25 (0, 0)) (by (with_reducible repeat (first | refine blk_drewN ?_ _ | refine blk_drew ?_ | refine blk_alloc ?_ _)); exact BK139.out) hb); replace BK140 := Aside0.mk (blk_below (g := gb140) (o := .cells #[.int .i64 a1_0, .int .i64 a1_1] 25 (0, 0)) (by (with_reducible repeat (first | refine blk_drewN ?_ _ | refine blk_drew ?_ | refine blk_alloc ?_ _)); exact BK140.out) hb); replace BK141 := Aside0.mk (blk_below (g := gb141) (o := .cells #[.int .i64 0, .int .i64 0] 25 (0, 0)) (by (with_reducible repeat (first | refine blk_drewN ?_ _ | refine blk_drew ?_ | refine blk_alloc ?_ _)); exact BK141.out) hb); replace BK155 := Aside0.mk (blk_below (g := gb155) (o := .cells #[.bool t152, .int .u64 t153, .int .u64 t154] 51 (0, 0)) (by (with_reducible repeat (first | refine blk_drewN ?_ _ | refine blk_drew ?_ | refine blk_alloc ?_ _)); exact BK155.out) hb); replace HB := Aside0.mk (below_step (by repeat (first | (with_reducible first | exact HB.out | apply below_alloc | apply pw_below_drewN | apply below_drew1 | refine below_set ?_ GE139.out | refine below_set ?_ GE140.out | refine below_set ?_ GE141.out | refine below_set ?_ GE155.out) | exact HB.out)) hb); (try clear hb); (try clear A10); have hcz38_0 : w37.cell? ⟨gb141, 0, none⟩ = some (.int .i64 0) := (blk_cell BK141.out 0).trans rfl; have hcz38_1 : w37.cell? ⟨gb141, 1, none⟩ = some (.int .i64 0) := (blk_cell BK141.out 1).trans rfl; have hfz38_0 := blk_frozen BK141.out 0; have hfz38_1 := blk_frozen BK141.out 1))
   refine bodyPost_ret (results_ct rfl _ _ gb141 25 #[.int .i64 t157, .int .i64 t158] (0, 0) _ rfl (by (with_reducible repeat (first | refine blk_drewN ?_ _ | refine blk_drew ?_ | refine blk_alloc ?_ _)); refine blk_put (cs := #[.int .i64 t157, .int .i64 0]) ?_ 1 _ rfl; (with_reducible repeat (first | refine blk_drewN ?_ _ | refine blk_drew ?_ | refine blk_alloc ?_ _)); refine blk_put (cs := #[.int .i64 0, .int .i64 0]) ?_ 0 _ rfl; (with_reducible repeat (first | refine blk_drewN ?_ _ | refine blk_drew ?_ | refine blk_alloc ?_ _)); exact BK141.out) Tryd.underlying25 rfl (by kernel_rfl)) rfl ?_
   exact ⟨by first | rfl | (simp [errW_none, errW_some] <;> rfl) | (simp [*, errW_none, errW_some] <;> rfl), by repeat (first | (with_reducible first | exact HB.out | apply below_alloc | apply pw_below_drewN | apply below_drew1 | refine below_set ?_ GE139.out | refine below_set ?_ GE140.out | refine below_set ?_ GE141.out | refine below_set ?_ GE155.out) | exact HB.out)⟩
  ·replace c9 := Bool.eq_false_iff.mpr c9
   subst c9
   have H1 : ((bits_Rem64.f k t153 t154 t145).bind fun t160 => ((fraction_gcd.f (([t160, t145] : List Int))).bind fun t164 => ((fraction_wide_over.f k t152 t153 t154 t164).bind fun bt165 => (if (wrap64 (t164)) = 0 then (none) else ((fraction_times.f (wrap64 (Int.tdiv a0_1 (wrap64 (t145)))) (wrap64 (Int.tdiv a1_1 (wrap64 (t164))))).bind fun bt168 => ((fraction_made.f k bt165.1 bt165.2.1 bt165.2.2 bt168.1 bt168.2.1 bt168.2.2).bind fun bt171 => (some (bt171.1, bt171.2.1, bt171.2.2)))))))) = some (r1, r2, r3) := by rw [if_neg (show ¬ (false = true) by decide)] at H; exact H
   clear H
   have H := H1
   clear H1
   replace H := Option.bind_eq_some_iff.mp H
   obtain ⟨t160, A390, H⟩ := H
   replace H : ((fraction_gcd.f (([t160, t145] : List Int))).bind fun t164 => ((fraction_wide_over.f k t152 t153 t154 t164).bind fun bt165 => (if (wrap64 (t164)) = 0 then (none) else ((fraction_times.f (wrap64 (Int.tdiv a0_1 (wrap64 (t145)))) (wrap64 (Int.tdiv a1_1 (wrap64 (t164))))).bind fun bt168 => ((fraction_made.f k bt165.1 bt165.2.1 bt165.2.2 bt168.1 bt168.2.1 bt168.2.2).bind fun bt171 => (some (bt171.1, bt171.2.1, bt171.2.2))))))) = some (r1, r2, r3) := H
   have A39 := Aside0.mk A390
   clear A390
   obtain ⟨y161, hy161⟩ : ∃ y_ : List Int, y_ = (([t160, t145] : List Int)) := ⟨_, rfl⟩
   replace H : ((fraction_gcd.f y161).bind fun t164 => ((fraction_wide_over.f k t152 t153 t154 t164).bind fun bt165 => (if (wrap64 (t164)) = 0 then (none) else ((fraction_times.f (wrap64 (Int.tdiv a0_1 (wrap64 (t145)))) (wrap64 (Int.tdiv a1_1 (wrap64 (t164))))).bind fun bt168 => ((fraction_made.f k bt165.1 bt165.2.1 bt165.2.2 bt168.1 bt168.2.1 bt168.2.2).bind fun bt171 => (some (bt171.1, bt171.2.1, bt171.2.2))))))) = some (r1, r2, r3) := by first | (rw [hy161]; with_reducible exact H) | (have H2_ := (Option.bind_some _ _).symm.trans H; rw [hy161]; with_reducible exact H2_) | (have H2_ := (Option.bind_some _ _).symm.trans H; with_reducible exact H2_) | with_reducible exact H | (rw [hy161]; exact H) | exact H
   have Ny161 := Aside0.mk hy161
   clear hy161
   replace H := Option.bind_eq_some_iff.mp H
   obtain ⟨t164, A400, H⟩ := H
   replace H : ((fraction_wide_over.f k t152 t153 t154 t164).bind fun bt165 => (if (wrap64 (t164)) = 0 then (none) else ((fraction_times.f (wrap64 (Int.tdiv a0_1 (wrap64 (t145)))) (wrap64 (Int.tdiv a1_1 (wrap64 (t164))))).bind fun bt168 => ((fraction_made.f k bt165.1 bt165.2.1 bt165.2.2 bt168.1 bt168.2.1 bt168.2.2).bind fun bt171 => (some (bt171.1, bt171.2.1, bt171.2.2)))))) = some (r1, r2, r3) := H
   have A40 := Aside0.mk A400
   clear A400
   replace H := Option.bind_eq_some_iff.mp H
   obtain ⟨⟨t165, t166, t167⟩, A410, H⟩ := H
   replace H : (if (wrap64 (t164)) = 0 then (none) else ((fraction_times.f (wrap64 (Int.tdiv a0_1 (wrap64 (t145)))) (wrap64 (Int.tdiv a1_1 (wrap64 (t164))))).bind fun bt168 => ((fraction_made.f k t165 t166 t167 bt168.1 bt168.2.1 bt168.2.2).bind fun bt171 => (some (bt171.1, bt171.2.1, bt171.2.2))))) = some (r1, r2, r3) := H
   have A41 := Aside0.mk A410
   clear A410
   by_cases c42 : (wrap64 (t164)) = 0
   ·rw [if_pos c42] at H
    exact absurd H (by simp)
   ·rw [if_neg c42] at H
    have c42b0 : ((wrap64 (t164)) == 0) = false := beq_eq_false_iff_ne.mpr c42
    have c42b1 : ((wrap64 (t164)) != 0) = true := bne_iff_ne.mpr c42
    replace H := Option.bind_eq_some_iff.mp H
    obtain ⟨⟨t168, t169, t170⟩, A430, H⟩ := H
    replace H : ((fraction_made.f k t165 t166 t167 t168 t169 t170).bind fun bt171 => (some (bt171.1, bt171.2.1, bt171.2.2))) = some (r1, r2, r3) := H
    have A43 := Aside0.mk A430
    clear A430
    replace H := Option.bind_eq_some_iff.mp H
    obtain ⟨⟨t171, t172, t173⟩, A440, H⟩ := H
    replace H : (some (t171, t172, t173)) = some (r1, r2, r3) := H
    have A44 := Aside0.mk A440
    clear A440
    simp only [Option.some.injEq, Prod.mk.injEq] at H
    obtain ⟨rfl, rfl, rfl⟩ := H
    go_enter Tryd.func32, Tryd.ntmps32
    try go_wp2_with (first | ((with_reducible refine gate_dst (N := 2) rfl ?_); refine box_event ?hg (N := 2) ?hd (cs := #[.int .i64 a0_0, .int .i64 a0_1]) (t := 25) ?hr ?_; (case hd => rfl); (case hg => rfl); (case hr => first | (go_simp; done) | (go_simp; rfl)); intro gb139 hg w45 hbox hb; have BK139 := Aside0.mk (hbox); have GW139 := Aside0.mk ((by rw [hg]; exact (below_size HB.out) : w.heap.size ≤ gb139)); have GE139 := Aside0.mk ((by rw [hg]; exact (below_size HB.out) : w.heap.size ≤ gb139)); replace HB := Aside0.mk (below_step HB.out hb); clear hb hbox hg) | ((with_reducible refine gate_dst (N := 3) rfl ?_); refine box_event ?hg (N := 3) ?hd (cs := #[.int .i64 a1_0, .int .i64 a1_1]) (t := 25) ?hr ?_; (case hd => rfl); (case hg => rfl); (case hr => first | (go_simp; done) | (go_simp; rfl)); intro gb140 hg w46 hbox hb; have BK140 := Aside0.mk (hbox); have GW140 := Aside0.mk ((by rw [hg]; exact (below_size HB.out) : w.heap.size ≤ gb140)); have GE140 := Aside0.mk ((by rw [hg]; exact (below_size HB.out) : w.heap.size ≤ gb140)); replace HB := Aside0.mk (below_step HB.out hb); have NB139_140 := Aside0.mk ((by rw [hg]; exact Nat.ne_of_lt (blk_lt BK139.out) : gb139 ≠ gb140)); have NB140_139 := Aside0.mk ((by rw [hg]; exact Nat.ne_of_gt (blk_lt BK139.out) : gb140 ≠ gb139)); replace BK139 := Aside0.mk (blk_below BK139.out hb); clear hb hbox hg) | ((with_reducible refine gate_dst (N := 4) rfl ?_); refine box_event ?hg (N := 4) ?hd (cs := #[.int .i64 0, .int .i64 0]) (t := 25) ?hr ?_; (case hd => rfl); (case hg => rfl); (case hr => first | (go_simp; done) | (go_simp; rfl)); intro gb141 hg w47 hbox hb; have BK141 := Aside0.mk (hbox); have GW141 := Aside0.mk ((by rw [hg]; exact (below_size HB.out) : w.heap.size ≤ gb141)); have GE141 := Aside0.mk ((by rw [hg]; exact (below_size HB.out) : w.heap.size ≤ gb141)); replace HB := Aside0.mk (below_step HB.out hb); have NB139_141 := Aside0.mk ((by rw [hg]; exact Nat.ne_of_lt (blk_lt BK139.out) : gb139 ≠ gb141)); have NB141_139 := Aside0.mk ((by rw [hg]; exact Nat.ne_of_gt (blk_lt BK139.out) : gb141 ≠ gb139)); replace BK139 := Aside0.mk (blk_below BK139.out hb); have NB140_141 := Aside0.mk ((by rw [hg]; exact Nat.ne_of_lt (blk_lt BK140.out) : gb140 ≠ gb141)); have NB141_140 := Aside0.mk ((by rw [hg]; exact Nat.ne_of_gt (blk_lt BK140.out) : gb141 ≠ gb140)); replace BK140 := Aside0.mk (blk_below BK140.out hb); clear hb hbox hg; have hnb48 := NB139_140.out; have hnc48 := NB140_139.out; have hnb49 := NB139_141.out; have hnc49 := NB141_139.out; have hcz50_0 : w47.cell? ⟨gb139, 0, none⟩ = some (.int .i64 a0_0) := (blk_cell BK139.out 0).trans rfl; have hcz50_1 : w47.cell? ⟨gb139, 1, none⟩ = some (.int .i64 a0_1) := (blk_cell BK139.out 1).trans rfl; have hfz50_0 := blk_frozen BK139.out 0; have hfz50_1 := blk_frozen BK139.out 1; have hnb51 := NB140_141.out; have hnc51 := NB141_140.out; have hcz52_0 : w47.cell? ⟨gb140, 0, none⟩ = some (.int .i64 a1_0) := (blk_cell BK140.out 0).trans rfl; have hcz52_1 : w47.cell? ⟨gb140, 1, none⟩ = some (.int .i64 a1_1) := (blk_cell BK140.out 1).trans rfl; have hfz52_0 := blk_frozen BK140.out 0; have hfz52_1 := blk_frozen BK140.out 1) | ((with_reducible refine gate_dst (N := 15) rfl ?_); refine Kd.R_lit (Kd.int .u64) _ 49 ?hg (N := 15) ?hd (xs := ([IntKind.u64.wrap (a0_1), IntKind.u64.wrap (a1_1)] : List Int)) (inner := [.int .u64 (IntKind.u64.wrap (a0_1)), .int .u64 (IntKind.u64.wrap (a1_1))]) (ok := fun _ => True) (okp := fun _ => True) ?hr ?hp (fun _ hk => hk) trivial (Below.refl _ _) (Nat.le_refl _) (by simp) ?_; (case hd => rfl); (case hg => rfl); (case hr => first | (go_simp; done) | (go_simp; rfl)); (case hp => exact (Reps.one (show Kd.M (Kd.int .u64) _ _ _ (IntKind.u64.wrap (a0_1)) [.int .u64 (IntKind.u64.wrap (a0_1))] from rfl) (Reps.one (show Kd.M (Kd.int .u64) _ _ _ (IntKind.u64.wrap (a1_1)) [.int .u64 (IntKind.u64.wrap (a1_1))] from rfl) (Reps.none _ _)))); intro v143 w53 ho54 hb hg_ hnew_; clear hg_ hnew_; (first | rw [← Ny142.out] at ho54 | (simp only [Int.reduceToNat] at ho54; rw [← Ny142.out] at ho54)); have HO144 := Aside0.mk (Kd.R_lower ho54 (below_size HB.out)); replace BK139 := Aside0.mk (blk_below BK139.out hb); replace BK140 := Aside0.mk (blk_below BK140.out hb); replace BK141 := Aside0.mk (blk_below BK141.out hb); replace HB := Aside0.mk (below_step HB.out hb); clear hb ho54; obtain ⟨Ao55, co55, eo55⟩ := Kd.R_slice HO144.out; subst eo55) | ((with_reducible refine gate_callee (f := 42) rfl ?_); refine goesL_ (some 16) rfl rfl Tryd.func42 (by kernel_rfl) rfl #[.slice Ao55 y142.length co55] rfl (by (try simp only [List.map_toArray, List.map_cons, List.map_nil]); first | done | rfl | (simp only [List.length_drop, List.length_take]; rfl)) ?_; (with_reducible refine (fraction_gcd.calls _ _ y142 t145 _ ?side1 ?side2 A3.out).mono ?_); (case side1 => repeat (first | exact (Kd.R_reads' HO144.out).2.2 | (with_reducible refine Kd.C_alloc ?_ _) | (with_reducible refine Kd.C_drewN ?_ _) | (with_reducible refine Kd.C_drew ?_))); (case side2 => exact (Kd.R_reads' HO144.out).2.1); rintro e w56 ⟨rfl, hb⟩; refine ⟨_, rfl, ?_⟩; replace HO144 := Aside0.mk (Kd.R_below HO144.out hb); replace BK139 := Aside0.mk (blk_below BK139.out hb); replace BK140 := Aside0.mk (blk_below BK140.out hb); replace BK141 := Aside0.mk (blk_below BK141.out hb); replace HB := Aside0.mk (below_step HB.out hb); (try clear hb); (try clear A3)))
    replace HO144 := Aside0.mk (Kd.R_drew HO144.out)
    replace BK139 := Aside0.mk (blk_drew BK139.out)
    replace BK140 := Aside0.mk (blk_drew BK140.out)
    replace BK141 := Aside0.mk (blk_drew BK141.out)
    replace HB := Aside0.mk (below_drew1 HB.out)
    refine start_ (n := 19) (S := fun w' => w'.cell? ⟨gb139, 0, none⟩ = some (.int .i64 a0_0) ∧ w'.cell? ⟨gb139, 1, none⟩ = some (.int .i64 a0_1) ∧ w'.cell? ⟨gb140, 0, none⟩ = some (.int .i64 a1_0) ∧ w'.cell? ⟨gb140, 1, none⟩ = some (.int .i64 a1_1)) (ds := []) #[F_,F_,F_,F_,F_,F_,F_,F_,F_,F_,F_,F_,F_,F_,F_,F_,F_,F_,F_] (by kernel_rfl) rfl rfl ⟨(blk_cell BK139.out 0).trans rfl, (blk_cell BK139.out 1).trans rfl, (blk_cell BK140.out 0).trans rfl, (blk_cell BK140.out 1).trans rfl⟩ (fun hHeld => ?_); refine with_tabW fraction_Add.tab2 fraction_Add.bits2 (fun HT_ HW_ => ?_)
    generalize w56.drew = w57 at HO144 BK139 BK140 BK141 HB hHeld ⊢
    refine pz_ 0 17 19 1 HT_ rfl rfl (by kernel_rfl) ?_ (fun _ _ _ h => h) (by rfl) (fun w' => ?_) ?_ ?_ ?_;rotate_left;go_simp;with_reducible rfl;rotate_left;simp only [P_,A_,B_,C_,i64_w,i32_w];rfl
    refine pz_ 2 19 19 5 HT_ rfl rfl (by kernel_rfl) ?_ (fun _ _ _ h => h) (by rfl) (fun w' => ?_) ?_ ?_ ?_;rotate_left;go_simp;with_reducible rfl;rotate_left;simp only [P_,A_,B_,C_,i64_w,i32_w];rfl
    refine pz_ 4 21 19 21 HT_ rfl rfl (by kernel_rfl) ?_ (fun _ _ _ h => h) (by rfl) (fun w' => ?_) ?_ ?_ ?_;rotate_left;go_simp;with_reducible rfl;rotate_left;simp only [P_,A_,B_,C_,i64_w,i32_w];rfl
    refine pz_ 5 22 19 53 HT_ rfl rfl (by kernel_rfl) ?_ (fun _ _ _ h => h) (by rfl) (fun w' => ?_) ?_ ?_ ?_;rotate_left;go_simp;with_reducible rfl;rotate_left;simp only [P_,A_,B_,C_,i64_w,i32_w];rfl
    refine pz_ 8 25 19 309 HT_ rfl rfl (by kernel_rfl) ?_ (fun _ _ _ h => h) (by rfl) (fun w' => ?_) ?_ ?_ ?_;rotate_left;go_simp;with_reducible rfl;rotate_left;simp only [P_,A_,B_,C_,i64_w,i32_w];rfl
    refine pz_ 10 27 19 1333 HT_ rfl rfl (by kernel_rfl) ?_ (fun _ _ _ h => h) (by rfl) (fun w' => ?_) ?_ ?_ ?_;rotate_left;go_simp;with_reducible rfl;rotate_left;simp only [P_,A_,B_,C_,i64_w,i32_w];rfl
    refine pz_ 12 29 19 5429 HT_ rfl rfl (by kernel_rfl) ?_ (fun _ _ _ h => h) (by rfl) (fun w' => ?_) ?_ ?_ ?_;rotate_left;go_simp;with_reducible rfl;rotate_left;simp only [P_,A_,B_,C_,i64_w,i32_w];rfl
    refine pz_ 13 30 19 13621 HT_ rfl rfl (by kernel_rfl) ?_ (fun _ _ _ h => h) (by rfl) (fun w' => ?_) ?_ ?_ ?_;rotate_left;go_simp;with_reducible rfl;rotate_left;simp only [P_,A_,B_,C_,i64_w,i32_w];rfl
    refine tz_ 1 18 19 13623 HT_ HW_ rfl rfl (by kernel_rfl) hHeld ?_ (fun _ _ _ h => h) (by rfl) (fun w' ⟨s0, s1, s2, s3⟩ => ?_) ?_ ?_ ?_;rotate_left;go_simp;with_reducible rfl;rotate_left;simp only [P_,A_,B_,C_,i64_w,i32_w];rfl
    refine tz_ 3 20 19 13631 HT_ HW_ rfl rfl (by kernel_rfl) hHeld ?_ (fun _ _ _ h => h) (by rfl) (fun w' ⟨s0, s1, s2, s3⟩ => ?_) ?_ ?_ ?_;rotate_left;go_simp;with_reducible rfl;rotate_left;simp only [P_,A_,B_,C_,i64_w,i32_w];rfl
    refine pz_ 6 23 19 13695 HT_ rfl rfl (by kernel_rfl) ?_ (fun _ _ _ h => h) (by rfl) (fun w' => ?_) ?_ ?_ ?_;rotate_left;go_simp;with_reducible rfl;rotate_left;simp only [P_,A_,B_,C_,i64_w,i32_w];rfl
    refine tz_ 9 26 19 14207 HT_ HW_ rfl rfl (by kernel_rfl) hHeld ?_ (fun _ _ _ h => h) (by rfl) (fun w' ⟨s0, s1, s2, s3⟩ => ?_) ?_ ?_ ?_;rotate_left;go_simp;with_reducible rfl;rotate_left;simp only [P_,A_,B_,C_,i64_w,i32_w];rfl
    refine tz_ 11 28 19 16255 HT_ HW_ rfl rfl (by kernel_rfl) hHeld ?_ (fun _ _ _ h => h) (by rfl) (fun w' ⟨s0, s1, s2, s3⟩ => ?_) ?_ ?_ ?_;rotate_left;go_simp;with_reducible rfl;rotate_left;simp only [P_,A_,B_,C_,i64_w,i32_w];rfl
    refine pz_ 14 31 19 32639 HT_ rfl rfl (by kernel_rfl) ?_ (fun _ _ _ h => h) (by rfl) (fun w' => ?_) ?_ ?_ ?_;rotate_left;go_simp;with_reducible rfl;rotate_left;simp only [P_,A_,B_,C_,i64_w,i32_w];rfl
    refine join_ (σ := Nat) 1 #[T_,T_,T_,T_,T_,T_,T_,T_,T_,T_,T_,T_,T_,T_,T_,T_,T_,T_,F_] (fun s_ => [(24, .agg #[.bool t146, .int .u64 t147, .int .u64 t148]), (32, .agg #[.bool t149, .int .u64 t150, .int .u64 t151]), (33, .agg #[.bool t152, .int .u64 t153, .int .u64 t154]), (7, .pointer (some ⟨s_, 0, none⟩))]) (fun s_ w' => (w'.cell? ⟨gb139, 0, none⟩ = some (.int .i64 a0_0) ∧ w'.cell? ⟨gb139, 1, none⟩ = some (.int .i64 a0_1) ∧ w'.cell? ⟨gb140, 0, none⟩ = some (.int .i64 a1_0) ∧ w'.cell? ⟨gb140, 1, none⟩ = some (.int .i64 a1_1)) ∧ (Kd.R (Kd.int .u64) 49 w' w.heap.size (fun _ => True) (.slice Ao55 y142.length co55) y142) ∧ (w'.heap[gb139]? = some (.cells #[.int .i64 a0_0, .int .i64 a0_1] 25 (0, 0))) ∧ (w'.heap[gb140]? = some (.cells #[.int .i64 a1_0, .int .i64 a1_1] 25 (0, 0))) ∧ (w'.heap[gb141]? = some (.cells #[.int .i64 0, .int .i64 0] 25 (0, 0))) ∧ (w'.heap[s_]? = some (.cells #[.bool false, .int .u64 0, .int .u64 0] 51 (0, 0))) ∧ (w.heap.size ≤ s_) ∧ (w.heap.size ≤ s_) ∧ (gb139 ≠ s_) ∧ (s_ ≠ gb139) ∧ (gb140 ≠ s_) ∧ (s_ ≠ gb140) ∧ (gb141 ≠ s_) ∧ (s_ ≠ gb141) ∧ (Below w.heap.size w w')) ?_ ?_
    rotate_left
    ·intro hCont
     refine two_ (i := 7) (j := 17) (Ni := some 24) (Nj := some 7) #[T_,T_,T_,T_,T_,T_,T_,T_,T_,T_,T_,T_,T_,T_,T_,F_,F_,F_,F_] #[T_,T_,T_,T_,T_,T_,T_,F_,T_,T_,T_,T_,T_,T_,T_,F_,F_,T_,F_] rfl rfl rfl rfl (two_of HT_.out (by kernel_rfl)) (by decide) (by decide) (fun K hK => ?_) (fun K hK => ?_)
     ·skip
      refine goes_ Tryd.func30 (by kernel_rfl) rfl #[.int .i64 a0_0, .int .i64 (wrap64 (Int.tdiv a1_1 (wrap64 (t145))))] (by rfl) rfl rfl (by (try simp only [List.map_toArray, List.map_cons, List.map_nil]); first | done | rfl | (simp only [List.length_drop, List.length_take]; rfl)) ?_
      with_reducible refine (fraction_times.calls a0_0 (wrap64 (Int.tdiv a1_1 (wrap64 (t145)))) t146 t147 t148 _ A5.out).mono ?_
      rintro e w58 ⟨rfl, hb⟩
      refine ⟨_, rfl, ?_⟩
      replace HO144 := Aside0.mk (Kd.R_below HO144.out hb)
      replace BK139 := Aside0.mk (blk_below BK139.out hb)
      replace BK140 := Aside0.mk (blk_below BK140.out hb)
      replace BK141 := Aside0.mk (blk_below BK141.out hb)
      replace HB := Aside0.mk (below_step HB.out hb)
      (try clear hb)
      (try clear A5)
      refine hK.out _ _ ⟨(blk_cell BK139.out 0).trans rfl, (blk_cell BK139.out 1).trans rfl, (blk_cell BK140.out 0).trans rfl, (blk_cell BK140.out 1).trans rfl⟩ (fun hHeld => ?_)
      clear hK K
      refine norm_ (a' := ?_) ?_ ?_
      rotate_left
      ·show Act.put _ (some 24) _ = _
       simp only [Act.put, List.setIfInBounds_toArray, List.set_cons_zero, List.set_cons_succ, i64_w, i32_w]
       rfl
      refine two_ (i := 15) (j := 17) (Ni := some 32) (Nj := some 7) #[T_,T_,T_,T_,T_,T_,T_,T_,T_,T_,T_,T_,T_,T_,T_,T_,F_,F_,F_] #[T_,T_,T_,T_,T_,T_,T_,T_,T_,T_,T_,T_,T_,T_,T_,F_,F_,T_,F_] rfl rfl rfl rfl (two_of HT_.out (by kernel_rfl)) (by decide) (by decide) (fun K hK => ?_) (fun K hK => ?_)
      ·skip
       refine goes_ Tryd.func30 (by kernel_rfl) rfl #[.int .i64 a1_0, .int .i64 (wrap64 (Int.tdiv a0_1 (wrap64 (t145))))] (by rfl) rfl rfl (by (try simp only [List.map_toArray, List.map_cons, List.map_nil]); first | done | rfl | (simp only [List.length_drop, List.length_take]; rfl)) ?_
       with_reducible refine (fraction_times.calls a1_0 (wrap64 (Int.tdiv a0_1 (wrap64 (t145)))) t149 t150 t151 _ A6.out).mono ?_
       rintro e w59 ⟨rfl, hb⟩
       refine ⟨_, rfl, ?_⟩
       replace HO144 := Aside0.mk (Kd.R_below HO144.out hb)
       replace BK139 := Aside0.mk (blk_below BK139.out hb)
       replace BK140 := Aside0.mk (blk_below BK140.out hb)
       replace BK141 := Aside0.mk (blk_below BK141.out hb)
       replace HB := Aside0.mk (below_step HB.out hb)
       (try clear hb)
       (try clear A6)
       refine hK.out _ _ ⟨(blk_cell BK139.out 0).trans rfl, (blk_cell BK139.out 1).trans rfl, (blk_cell BK140.out 0).trans rfl, (blk_cell BK140.out 1).trans rfl⟩ (fun hHeld => ?_)
       clear hK K
       refine norm_ (a' := ?_) ?_ ?_
       rotate_left
       ·show Act.put _ (some 32) _ = _
        simp only [Act.put, List.setIfInBounds_toArray, List.set_cons_zero, List.set_cons_succ, i64_w, i32_w]
        rfl
       refine two_ (i := 16) (j := 17) (Ni := some 33) (Nj := some 7) #[T_,T_,T_,T_,T_,T_,T_,T_,T_,T_,T_,T_,T_,T_,T_,T_,T_,F_,F_] #[T_,T_,T_,T_,T_,T_,T_,T_,T_,T_,T_,T_,T_,T_,T_,T_,F_,T_,F_] rfl rfl rfl rfl (two_of HT_.out (by kernel_rfl)) (by decide) (by decide) (fun K hK => ?_) (fun K hK => ?_)
       ·skip
        refine goes_ Tryd.func31 (by kernel_rfl) rfl #[.agg #[.bool t146, .int .u64 t147, .int .u64 t148], .agg #[.bool t149, .int .u64 t150, .int .u64 t151]] (by rfl) rfl rfl (by (try simp only [List.map_toArray, List.map_cons, List.map_nil]); first | done | rfl | (simp only [List.length_drop, List.length_take]; rfl)) ?_
        with_reducible refine (fraction_wide_plus.calls t146 t147 t148 t149 t150 t151 t152 t153 t154 _ A7.out).mono ?_
        rintro e w60 ⟨rfl, hb⟩
        refine ⟨_, rfl, ?_⟩
        replace HO144 := Aside0.mk (Kd.R_below HO144.out hb)
        replace BK139 := Aside0.mk (blk_below BK139.out hb)
        replace BK140 := Aside0.mk (blk_below BK140.out hb)
        replace BK141 := Aside0.mk (blk_below BK141.out hb)
        replace HB := Aside0.mk (below_step HB.out hb)
        (try clear hb)
        (try clear A7)
        refine hK.out _ _ ⟨(blk_cell BK139.out 0).trans rfl, (blk_cell BK139.out 1).trans rfl, (blk_cell BK140.out 0).trans rfl, (blk_cell BK140.out 1).trans rfl⟩ (fun hHeld => ?_)
        clear hK K
        refine norm_ (a' := ?_) ?_ ?_
        rotate_left
        ·show Act.put _ (some 33) _ = _
         simp only [Act.put, List.setIfInBounds_toArray, List.set_cons_zero, List.set_cons_succ, i64_w, i32_w]
         rfl
        refine one_ (i := 17) (N := some 7) #[T_,T_,T_,T_,T_,T_,T_,T_,T_,T_,T_,T_,T_,T_,T_,T_,T_,T_,F_] rfl rfl (one_of HT_.out (by kernel_rfl)) (by decide) (fun K hK => ?_)
        refine box_step ?hg (N := 7) ?hd (cs := #[.bool false, .int .u64 0, .int .u64 0]) (t := 51) ?hr ?_; (case hd => rfl); (case hg => rfl); (case hr => first | (go_simp; done) | (go_simp; rfl))
        intro gb155 hg w61 hbox hb
        replace HO144 := Aside0.mk (Kd.R_below HO144.out hb)
        have BK155 := Aside0.mk (hbox)
        have GW155 := Aside0.mk ((by rw [hg]; exact (below_size HB.out) : w.heap.size ≤ gb155))
        have GE155 := GW155
        replace HB := Aside0.mk (below_step HB.out hb)
        have NB139_155 := Aside0.mk ((by rw [hg]; exact Nat.ne_of_lt (blk_lt BK139.out) : gb139 ≠ gb155))
        have NB155_139 := Aside0.mk ((by rw [hg]; exact Nat.ne_of_gt (blk_lt BK139.out) : gb155 ≠ gb139))
        replace BK139 := Aside0.mk (blk_below BK139.out hb)
        have NB140_155 := Aside0.mk ((by rw [hg]; exact Nat.ne_of_lt (blk_lt BK140.out) : gb140 ≠ gb155))
        have NB155_140 := Aside0.mk ((by rw [hg]; exact Nat.ne_of_gt (blk_lt BK140.out) : gb155 ≠ gb140))
        replace BK140 := Aside0.mk (blk_below BK140.out hb)
        have NB141_155 := Aside0.mk ((by rw [hg]; exact Nat.ne_of_lt (blk_lt BK141.out) : gb141 ≠ gb155))
        have NB155_141 := Aside0.mk ((by rw [hg]; exact Nat.ne_of_gt (blk_lt BK141.out) : gb155 ≠ gb141))
        replace BK141 := Aside0.mk (blk_below BK141.out hb)
        clear hb hbox hg
        refine hK.out _ _ ⟨(blk_cell BK139.out 0).trans rfl, (blk_cell BK139.out 1).trans rfl, (blk_cell BK140.out 0).trans rfl, (blk_cell BK140.out 1).trans rfl⟩ (fun hHeld => ?_)
        clear hK K
        refine norm_ (a' := ?_) ?_ ?_
        rotate_left
        ·show Act.put _ (some 7) _ = _
         simp only [Act.put, List.setIfInBounds_toArray, List.set_cons_zero, List.set_cons_succ, i64_w, i32_w]
         rfl
        exact norm_ (by simp only [putAll, Act.put, List.setIfInBounds_toArray, List.set_cons_zero, List.set_cons_succ]) (hCont (gb155) _ ⟨hHeld, HO144.out, BK139.out, BK140.out, BK141.out, BK155.out, GW155.out, GE155.out, NB139_155.out, NB155_139.out, NB140_155.out, NB155_140.out, NB141_155.out, NB155_141.out, HB.out⟩)
       ·skip
        refine box_step ?hg (N := 7) ?hd (cs := #[.bool false, .int .u64 0, .int .u64 0]) (t := 51) ?hr ?_; (case hd => rfl); (case hg => rfl); (case hr => first | (go_simp; done) | (go_simp; rfl))
        intro gb155 hg w60 hbox hb
        replace HO144 := Aside0.mk (Kd.R_below HO144.out hb)
        have BK155 := Aside0.mk (hbox)
        have GW155 := Aside0.mk ((by rw [hg]; exact (below_size HB.out) : w.heap.size ≤ gb155))
        have GE155 := GW155
        replace HB := Aside0.mk (below_step HB.out hb)
        have NB139_155 := Aside0.mk ((by rw [hg]; exact Nat.ne_of_lt (blk_lt BK139.out) : gb139 ≠ gb155))
        have NB155_139 := Aside0.mk ((by rw [hg]; exact Nat.ne_of_gt (blk_lt BK139.out) : gb155 ≠ gb139))
        replace BK139 := Aside0.mk (blk_below BK139.out hb)
        have NB140_155 := Aside0.mk ((by rw [hg]; exact Nat.ne_of_lt (blk_lt BK140.out) : gb140 ≠ gb155))
        have NB155_140 := Aside0.mk ((by rw [hg]; exact Nat.ne_of_gt (blk_lt BK140.out) : gb155 ≠ gb140))
        replace BK140 := Aside0.mk (blk_below BK140.out hb)
        have NB141_155 := Aside0.mk ((by rw [hg]; exact Nat.ne_of_lt (blk_lt BK141.out) : gb141 ≠ gb155))
        have NB155_141 := Aside0.mk ((by rw [hg]; exact Nat.ne_of_gt (blk_lt BK141.out) : gb155 ≠ gb141))
        replace BK141 := Aside0.mk (blk_below BK141.out hb)
        clear hb hbox hg
        refine hK.out _ _ ⟨(blk_cell BK139.out 0).trans rfl, (blk_cell BK139.out 1).trans rfl, (blk_cell BK140.out 0).trans rfl, (blk_cell BK140.out 1).trans rfl⟩ (fun hHeld => ?_)
        clear hK K
        refine norm_ (a' := ?_) ?_ ?_
        rotate_left
        ·show Act.put _ (some 7) _ = _
         simp only [Act.put, List.setIfInBounds_toArray, List.set_cons_zero, List.set_cons_succ, i64_w, i32_w]
         rfl
        refine one_ (i := 16) (N := some 33) #[T_,T_,T_,T_,T_,T_,T_,T_,T_,T_,T_,T_,T_,T_,T_,T_,T_,T_,F_] rfl rfl (one_of HT_.out (by kernel_rfl)) (by decide) (fun K hK => ?_)
        refine goes_ Tryd.func31 (by kernel_rfl) rfl #[.agg #[.bool t146, .int .u64 t147, .int .u64 t148], .agg #[.bool t149, .int .u64 t150, .int .u64 t151]] (by rfl) rfl rfl (by (try simp only [List.map_toArray, List.map_cons, List.map_nil]); first | done | rfl | (simp only [List.length_drop, List.length_take]; rfl)) ?_
        with_reducible refine (fraction_wide_plus.calls t146 t147 t148 t149 t150 t151 t152 t153 t154 _ A7.out).mono ?_
        rintro e w61 ⟨rfl, hb⟩
        refine ⟨_, rfl, ?_⟩
        replace HO144 := Aside0.mk (Kd.R_below HO144.out hb)
        replace BK139 := Aside0.mk (blk_below BK139.out hb)
        replace BK140 := Aside0.mk (blk_below BK140.out hb)
        replace BK141 := Aside0.mk (blk_below BK141.out hb)
        replace BK155 := Aside0.mk (blk_below BK155.out hb)
        replace HB := Aside0.mk (below_step HB.out hb)
        (try clear hb)
        (try clear A7)
        refine hK.out _ _ ⟨(blk_cell BK139.out 0).trans rfl, (blk_cell BK139.out 1).trans rfl, (blk_cell BK140.out 0).trans rfl, (blk_cell BK140.out 1).trans rfl⟩ (fun hHeld => ?_)
        clear hK K
        refine norm_ (a' := ?_) ?_ ?_
        rotate_left
        ·show Act.put _ (some 33) _ = _
         simp only [Act.put, List.setIfInBounds_toArray, List.set_cons_zero, List.set_cons_succ, i64_w, i32_w]
         rfl
        exact norm_ (by simp only [putAll, Act.put, List.setIfInBounds_toArray, List.set_cons_zero, List.set_cons_succ]) (hCont (gb155) _ ⟨hHeld, HO144.out, BK139.out, BK140.out, BK141.out, BK155.out, GW155.out, GE155.out, NB139_155.out, NB155_139.out, NB140_155.out, NB155_140.out, NB141_155.out, NB155_141.out, HB.out⟩)
      ·skip
       refine box_step ?hg (N := 7) ?hd (cs := #[.bool false, .int .u64 0, .int .u64 0]) (t := 51) ?hr ?_; (case hd => rfl); (case hg => rfl); (case hr => first | (go_simp; done) | (go_simp; rfl))
       intro gb155 hg w59 hbox hb
       replace HO144 := Aside0.mk (Kd.R_below HO144.out hb)
       have BK155 := Aside0.mk (hbox)
       have GW155 := Aside0.mk ((by rw [hg]; exact (below_size HB.out) : w.heap.size ≤ gb155))
       have GE155 := GW155
       replace HB := Aside0.mk (below_step HB.out hb)
       have NB139_155 := Aside0.mk ((by rw [hg]; exact Nat.ne_of_lt (blk_lt BK139.out) : gb139 ≠ gb155))
       have NB155_139 := Aside0.mk ((by rw [hg]; exact Nat.ne_of_gt (blk_lt BK139.out) : gb155 ≠ gb139))
       replace BK139 := Aside0.mk (blk_below BK139.out hb)
       have NB140_155 := Aside0.mk ((by rw [hg]; exact Nat.ne_of_lt (blk_lt BK140.out) : gb140 ≠ gb155))
       have NB155_140 := Aside0.mk ((by rw [hg]; exact Nat.ne_of_gt (blk_lt BK140.out) : gb155 ≠ gb140))
       replace BK140 := Aside0.mk (blk_below BK140.out hb)
       have NB141_155 := Aside0.mk ((by rw [hg]; exact Nat.ne_of_lt (blk_lt BK141.out) : gb141 ≠ gb155))
       have NB155_141 := Aside0.mk ((by rw [hg]; exact Nat.ne_of_gt (blk_lt BK141.out) : gb155 ≠ gb141))
       replace BK141 := Aside0.mk (blk_below BK141.out hb)
       clear hb hbox hg
       refine hK.out _ _ ⟨(blk_cell BK139.out 0).trans rfl, (blk_cell BK139.out 1).trans rfl, (blk_cell BK140.out 0).trans rfl, (blk_cell BK140.out 1).trans rfl⟩ (fun hHeld => ?_)
       clear hK K
       refine norm_ (a' := ?_) ?_ ?_
       rotate_left
       ·show Act.put _ (some 7) _ = _
        simp only [Act.put, List.setIfInBounds_toArray, List.set_cons_zero, List.set_cons_succ, i64_w, i32_w]
        rfl
       refine one_ (i := 15) (N := some 32) #[T_,T_,T_,T_,T_,T_,T_,T_,T_,T_,T_,T_,T_,T_,T_,T_,F_,T_,F_] rfl rfl (one_of HT_.out (by kernel_rfl)) (by decide) (fun K hK => ?_)
       refine goes_ Tryd.func30 (by kernel_rfl) rfl #[.int .i64 a1_0, .int .i64 (wrap64 (Int.tdiv a0_1 (wrap64 (t145))))] (by rfl) rfl rfl (by (try simp only [List.map_toArray, List.map_cons, List.map_nil]); first | done | rfl | (simp only [List.length_drop, List.length_take]; rfl)) ?_
       with_reducible refine (fraction_times.calls a1_0 (wrap64 (Int.tdiv a0_1 (wrap64 (t145)))) t149 t150 t151 _ A6.out).mono ?_
       rintro e w60 ⟨rfl, hb⟩
       refine ⟨_, rfl, ?_⟩
       replace HO144 := Aside0.mk (Kd.R_below HO144.out hb)
       replace BK139 := Aside0.mk (blk_below BK139.out hb)
       replace BK140 := Aside0.mk (blk_below BK140.out hb)
       replace BK141 := Aside0.mk (blk_below BK141.out hb)
       replace BK155 := Aside0.mk (blk_below BK155.out hb)
       replace HB := Aside0.mk (below_step HB.out hb)
       (try clear hb)
       (try clear A6)
       refine hK.out _ _ ⟨(blk_cell BK139.out 0).trans rfl, (blk_cell BK139.out 1).trans rfl, (blk_cell BK140.out 0).trans rfl, (blk_cell BK140.out 1).trans rfl⟩ (fun hHeld => ?_)
       clear hK K
       refine norm_ (a' := ?_) ?_ ?_
       rotate_left
       ·show Act.put _ (some 32) _ = _
        simp only [Act.put, List.setIfInBounds_toArray, List.set_cons_zero, List.set_cons_succ, i64_w, i32_w]
        rfl
       refine one_ (i := 16) (N := some 33) #[T_,T_,T_,T_,T_,T_,T_,T_,T_,T_,T_,T_,T_,T_,T_,T_,T_,T_,F_] rfl rfl (one_of HT_.out (by kernel_rfl)) (by decide) (fun K hK => ?_)
       refine goes_ Tryd.func31 (by kernel_rfl) rfl #[.agg #[.bool t146, .int .u64 t147, .int .u64 t148], .agg #[.bool t149, .int .u64 t150, .int .u64 t151]] (by rfl) rfl rfl (by (try simp only [List.map_toArray, List.map_cons, List.map_nil]); first | done | rfl | (simp only [List.length_drop, List.length_take]; rfl)) ?_
       with_reducible refine (fraction_wide_plus.calls t146 t147 t148 t149 t150 t151 t152 t153 t154 _ A7.out).mono ?_
       rintro e w61 ⟨rfl, hb⟩
       refine ⟨_, rfl, ?_⟩
       replace HO144 := Aside0.mk (Kd.R_below HO144.out hb)
       replace BK139 := Aside0.mk (blk_below BK139.out hb)
       replace BK140 := Aside0.mk (blk_below BK140.out hb)
       replace BK141 := Aside0.mk (blk_below BK141.out hb)
       replace BK155 := Aside0.mk (blk_below BK155.out hb)
       replace HB := Aside0.mk (below_step HB.out hb)
       (try clear hb)
       (try clear A7)
       refine hK.out _ _ ⟨(blk_cell BK139.out 0).trans rfl, (blk_cell BK139.out 1).trans rfl, (blk_cell BK140.out 0).trans rfl, (blk_cell BK140.out 1).trans rfl⟩ (fun hHeld => ?_)
       clear hK K
       refine norm_ (a' := ?_) ?_ ?_
       rotate_left
       ·show Act.put _ (some 33) _ = _
        simp only [Act.put, List.setIfInBounds_toArray, List.set_cons_zero, List.set_cons_succ, i64_w, i32_w]
        rfl
       exact norm_ (by simp only [putAll, Act.put, List.setIfInBounds_toArray, List.set_cons_zero, List.set_cons_succ]) (hCont (gb155) _ ⟨hHeld, HO144.out, BK139.out, BK140.out, BK141.out, BK155.out, GW155.out, GE155.out, NB139_155.out, NB155_139.out, NB140_155.out, NB155_140.out, NB141_155.out, NB155_141.out, HB.out⟩)
     ·skip
      refine box_step ?hg (N := 7) ?hd (cs := #[.bool false, .int .u64 0, .int .u64 0]) (t := 51) ?hr ?_; (case hd => rfl); (case hg => rfl); (case hr => first | (go_simp; done) | (go_simp; rfl))
      intro gb155 hg w58 hbox hb
      replace HO144 := Aside0.mk (Kd.R_below HO144.out hb)
      have BK155 := Aside0.mk (hbox)
      have GW155 := Aside0.mk ((by rw [hg]; exact (below_size HB.out) : w.heap.size ≤ gb155))
      have GE155 := GW155
      replace HB := Aside0.mk (below_step HB.out hb)
      have NB139_155 := Aside0.mk ((by rw [hg]; exact Nat.ne_of_lt (blk_lt BK139.out) : gb139 ≠ gb155))
      have NB155_139 := Aside0.mk ((by rw [hg]; exact Nat.ne_of_gt (blk_lt BK139.out) : gb155 ≠ gb139))
      replace BK139 := Aside0.mk (blk_below BK139.out hb)
      have NB140_155 := Aside0.mk ((by rw [hg]; exact Nat.ne_of_lt (blk_lt BK140.out) : gb140 ≠ gb155))
      have NB155_140 := Aside0.mk ((by rw [hg]; exact Nat.ne_of_gt (blk_lt BK140.out) : gb155 ≠ gb140))
      replace BK140 := Aside0.mk (blk_below BK140.out hb)
      have NB141_155 := Aside0.mk ((by rw [hg]; exact Nat.ne_of_lt (blk_lt BK141.out) : gb141 ≠ gb155))
      have NB155_141 := Aside0.mk ((by rw [hg]; exact Nat.ne_of_gt (blk_lt BK141.out) : gb155 ≠ gb141))
      replace BK141 := Aside0.mk (blk_below BK141.out hb)
      clear hb hbox hg
      refine hK.out _ _ ⟨(blk_cell BK139.out 0).trans rfl, (blk_cell BK139.out 1).trans rfl, (blk_cell BK140.out 0).trans rfl, (blk_cell BK140.out 1).trans rfl⟩ (fun hHeld => ?_)
      clear hK K
      refine norm_ (a' := ?_) ?_ ?_
      rotate_left
      ·show Act.put _ (some 7) _ = _
       simp only [Act.put, List.setIfInBounds_toArray, List.set_cons_zero, List.set_cons_succ, i64_w, i32_w]
       rfl
      refine one_ (i := 7) (N := some 24) #[T_,T_,T_,T_,T_,T_,T_,T_,T_,T_,T_,T_,T_,T_,T_,F_,F_,T_,F_] rfl rfl (one_of HT_.out (by kernel_rfl)) (by decide) (fun K hK => ?_)
      refine goes_ Tryd.func30 (by kernel_rfl) rfl #[.int .i64 a0_0, .int .i64 (wrap64 (Int.tdiv a1_1 (wrap64 (t145))))] (by rfl) rfl rfl (by (try simp only [List.map_toArray, List.map_cons, List.map_nil]); first | done | rfl | (simp only [List.length_drop, List.length_take]; rfl)) ?_
      with_reducible refine (fraction_times.calls a0_0 (wrap64 (Int.tdiv a1_1 (wrap64 (t145)))) t146 t147 t148 _ A5.out).mono ?_
      rintro e w59 ⟨rfl, hb⟩
      refine ⟨_, rfl, ?_⟩
      replace HO144 := Aside0.mk (Kd.R_below HO144.out hb)
      replace BK139 := Aside0.mk (blk_below BK139.out hb)
      replace BK140 := Aside0.mk (blk_below BK140.out hb)
      replace BK141 := Aside0.mk (blk_below BK141.out hb)
      replace BK155 := Aside0.mk (blk_below BK155.out hb)
      replace HB := Aside0.mk (below_step HB.out hb)
      (try clear hb)
      (try clear A5)
      refine hK.out _ _ ⟨(blk_cell BK139.out 0).trans rfl, (blk_cell BK139.out 1).trans rfl, (blk_cell BK140.out 0).trans rfl, (blk_cell BK140.out 1).trans rfl⟩ (fun hHeld => ?_)
      clear hK K
      refine norm_ (a' := ?_) ?_ ?_
      rotate_left
      ·show Act.put _ (some 24) _ = _
       simp only [Act.put, List.setIfInBounds_toArray, List.set_cons_zero, List.set_cons_succ, i64_w, i32_w]
       rfl
      refine one_ (i := 15) (N := some 32) #[T_,T_,T_,T_,T_,T_,T_,T_,T_,T_,T_,T_,T_,T_,T_,T_,F_,T_,F_] rfl rfl (one_of HT_.out (by kernel_rfl)) (by decide) (fun K hK => ?_)
      refine goes_ Tryd.func30 (by kernel_rfl) rfl #[.int .i64 a1_0, .int .i64 (wrap64 (Int.tdiv a0_1 (wrap64 (t145))))] (by rfl) rfl rfl (by (try simp only [List.map_toArray, List.map_cons, List.map_nil]); first | done | rfl | (simp only [List.length_drop, List.length_take]; rfl)) ?_
      with_reducible refine (fraction_times.calls a1_0 (wrap64 (Int.tdiv a0_1 (wrap64 (t145)))) t149 t150 t151 _ A6.out).mono ?_
      rintro e w60 ⟨rfl, hb⟩
      refine ⟨_, rfl, ?_⟩
      replace HO144 := Aside0.mk (Kd.R_below HO144.out hb)
      replace BK139 := Aside0.mk (blk_below BK139.out hb)
      replace BK140 := Aside0.mk (blk_below BK140.out hb)
      replace BK141 := Aside0.mk (blk_below BK141.out hb)
      replace BK155 := Aside0.mk (blk_below BK155.out hb)
      replace HB := Aside0.mk (below_step HB.out hb)
      (try clear hb)
      (try clear A6)
      refine hK.out _ _ ⟨(blk_cell BK139.out 0).trans rfl, (blk_cell BK139.out 1).trans rfl, (blk_cell BK140.out 0).trans rfl, (blk_cell BK140.out 1).trans rfl⟩ (fun hHeld => ?_)
      clear hK K
      refine norm_ (a' := ?_) ?_ ?_
      rotate_left
      ·show Act.put _ (some 32) _ = _
       simp only [Act.put, List.setIfInBounds_toArray, List.set_cons_zero, List.set_cons_succ, i64_w, i32_w]
       rfl
      refine one_ (i := 16) (N := some 33) #[T_,T_,T_,T_,T_,T_,T_,T_,T_,T_,T_,T_,T_,T_,T_,T_,T_,T_,F_] rfl rfl (one_of HT_.out (by kernel_rfl)) (by decide) (fun K hK => ?_)
      refine goes_ Tryd.func31 (by kernel_rfl) rfl #[.agg #[.bool t146, .int .u64 t147, .int .u64 t148], .agg #[.bool t149, .int .u64 t150, .int .u64 t151]] (by rfl) rfl rfl (by (try simp only [List.map_toArray, List.map_cons, List.map_nil]); first | done | rfl | (simp only [List.length_drop, List.length_take]; rfl)) ?_
      with_reducible refine (fraction_wide_plus.calls t146 t147 t148 t149 t150 t151 t152 t153 t154 _ A7.out).mono ?_
      rintro e w61 ⟨rfl, hb⟩
      refine ⟨_, rfl, ?_⟩
      replace HO144 := Aside0.mk (Kd.R_below HO144.out hb)
      replace BK139 := Aside0.mk (blk_below BK139.out hb)
      replace BK140 := Aside0.mk (blk_below BK140.out hb)
      replace BK141 := Aside0.mk (blk_below BK141.out hb)
      replace BK155 := Aside0.mk (blk_below BK155.out hb)
      replace HB := Aside0.mk (below_step HB.out hb)
      (try clear hb)
      (try clear A7)
      refine hK.out _ _ ⟨(blk_cell BK139.out 0).trans rfl, (blk_cell BK139.out 1).trans rfl, (blk_cell BK140.out 0).trans rfl, (blk_cell BK140.out 1).trans rfl⟩ (fun hHeld => ?_)
      clear hK K
      refine norm_ (a' := ?_) ?_ ?_
      rotate_left
      ·show Act.put _ (some 33) _ = _
       simp only [Act.put, List.setIfInBounds_toArray, List.set_cons_zero, List.set_cons_succ, i64_w, i32_w]
       rfl
      exact norm_ (by simp only [putAll, Act.put, List.setIfInBounds_toArray, List.set_cons_zero, List.set_cons_succ]) (hCont (gb155) _ ⟨hHeld, HO144.out, BK139.out, BK140.out, BK141.out, BK155.out, GW155.out, GE155.out, NB139_155.out, NB155_139.out, NB140_155.out, NB155_140.out, NB141_155.out, NB155_141.out, HB.out⟩)
    rintro gb155 w62 ⟨hS_, h0_, h1_, h2_, h3_, h4_, h5_, h6_, h7_, h8_, h9_, h10_, h11_, h12_, h13_⟩
    have n0_ : Aside0 (Kd.R (Kd.int .u64) 49 w62 w.heap.size (fun _ => True) (.slice Ao55 y142.length co55) y142) := ⟨h0_⟩
    have n1_ : Aside0 (w62.heap[gb139]? = some (.cells #[.int .i64 a0_0, .int .i64 a0_1] 25 (0, 0))) := ⟨h1_⟩
    have n2_ : Aside0 (w62.heap[gb140]? = some (.cells #[.int .i64 a1_0, .int .i64 a1_1] 25 (0, 0))) := ⟨h2_⟩
    have n3_ : Aside0 (w62.heap[gb141]? = some (.cells #[.int .i64 0, .int .i64 0] 25 (0, 0))) := ⟨h3_⟩
    have n4_ : Aside0 (w62.heap[gb155]? = some (.cells #[.bool false, .int .u64 0, .int .u64 0] 51 (0, 0))) := ⟨h4_⟩
    have n5_ : Aside0 (w.heap.size ≤ gb155) := ⟨h5_⟩
    have n6_ : Aside0 (w.heap.size ≤ gb155) := ⟨h6_⟩
    have n7_ : Aside0 (gb139 ≠ gb155) := ⟨h7_⟩
    have n8_ : Aside0 (gb155 ≠ gb139) := ⟨h8_⟩
    have n9_ : Aside0 (gb140 ≠ gb155) := ⟨h9_⟩
    have n10_ : Aside0 (gb155 ≠ gb140) := ⟨h10_⟩
    have n11_ : Aside0 (gb141 ≠ gb155) := ⟨h11_⟩
    have n12_ : Aside0 (gb155 ≠ gb141) := ⟨h12_⟩
    have n13_ : Aside0 (Below w.heap.size w w62) := ⟨h13_⟩
    clear HO144
    clear BK139
    clear BK140
    clear BK141
    clear HB
    clear h0_ h1_ h2_ h3_ h4_ h5_ h6_ h7_ h8_ h9_ h10_ h11_ h12_ h13_
    have HO144 := n0_
    have BK139 := n1_
    have BK140 := n2_
    have BK141 := n3_
    have BK155 := n4_
    have GW155 := n5_
    have GE155 := n6_
    have NB139_155 := n7_
    have NB155_139 := n8_
    have NB140_155 := n9_
    have NB155_140 := n10_
    have NB141_155 := n11_
    have NB155_141 := n12_
    have HB := n13_
    clear n0_ n1_ n2_ n3_ n4_ n5_ n6_ n7_ n8_ n9_ n10_ n11_ n12_ n13_
    have hHeld : w62.cell? ⟨gb139, 0, none⟩ = some (.int .i64 a0_0) ∧ w62.cell? ⟨gb139, 1, none⟩ = some (.int .i64 a0_1) ∧ w62.cell? ⟨gb140, 0, none⟩ = some (.int .i64 a1_0) ∧ w62.cell? ⟨gb140, 1, none⟩ = some (.int .i64 a1_1) := hS_
    refine norm_ (a' := ?_) ?_ ?_
    rotate_left
    ·simp only [putAll, Act.put, List.setIfInBounds_toArray, List.set_cons_zero, List.set_cons_succ]
     rfl
    refine one_ (i := 18) (N := none) #[T_,T_,T_,T_,T_,T_,T_,T_,T_,T_,T_,T_,T_,T_,T_,T_,T_,T_,T_] rfl rfl (one_of HT_.out (by kernel_rfl)) (by decide) (fun K hK => ?_)
    have hs63 : w62.cell? ⟨gb155, 0, none⟩ = some (.bool false) := (blk_cell BK155.out 0).trans rfl
    have hfs63 := blk_frozen BK155.out 0
    have hns63_0 := NB139_155.out
    have hns63_1 := NB140_155.out
    have hns63_2 := NB141_155.out
    have hms63_0 := NB155_139.out
    have hms63_1 := NB155_140.out
    have hms63_2 := NB155_141.out
    have hs64 : w62.cell? ⟨gb155, 1, none⟩ = some (.int .u64 0) := (blk_cell BK155.out 1).trans rfl
    have hfs64 := blk_frozen BK155.out 1
    have hns64_0 := NB139_155.out
    have hns64_1 := NB140_155.out
    have hns64_2 := NB141_155.out
    have hms64_0 := NB155_139.out
    have hms64_1 := NB155_140.out
    have hms64_2 := NB155_141.out
    have hs65 : w62.cell? ⟨gb155, 2, none⟩ = some (.int .u64 0) := (blk_cell BK155.out 2).trans rfl
    have hfs65 := blk_frozen BK155.out 2
    have hns65_0 := NB139_155.out
    have hns65_1 := NB140_155.out
    have hns65_2 := NB141_155.out
    have hms65_0 := NB155_139.out
    have hms65_1 := NB155_140.out
    have hms65_2 := NB155_141.out
    refine skip_ (w1 := ?_) (by rfl) rfl ?_ ?_
    rotate_left
    ·go_simp
     rfl
    refine hK.out _ _ ⟨((cell_far (p := ⟨gb155, _, none⟩) NB139_155.out _).trans (((cell_far (p := ⟨gb155, _, none⟩) NB139_155.out _).trans (((cell_far (p := ⟨gb155, _, none⟩) NB139_155.out _).trans (hHeld.1)))))), ((cell_far (p := ⟨gb155, _, none⟩) NB139_155.out _).trans (((cell_far (p := ⟨gb155, _, none⟩) NB139_155.out _).trans (((cell_far (p := ⟨gb155, _, none⟩) NB139_155.out _).trans (hHeld.2.1)))))), ((cell_far (p := ⟨gb155, _, none⟩) NB140_155.out _).trans (((cell_far (p := ⟨gb155, _, none⟩) NB140_155.out _).trans (((cell_far (p := ⟨gb155, _, none⟩) NB140_155.out _).trans (hHeld.2.2.1)))))), ((cell_far (p := ⟨gb155, _, none⟩) NB140_155.out _).trans (((cell_far (p := ⟨gb155, _, none⟩) NB140_155.out _).trans (((cell_far (p := ⟨gb155, _, none⟩) NB140_155.out _).trans (hHeld.2.2.2))))))⟩ (fun hHeld => ?_)
    clear hK K
    refine done_ (done_of HT_.out (by kernel_rfl)) ?_
    have hnb66 := NB155_139.out
    have hnc66 := NB139_155.out
    have hnb67 := NB155_140.out
    have hnc67 := NB140_155.out
    have hnb68 := NB155_141.out
    have hnc68 := NB141_155.out
    have hcz69_0 : w62.cell? ⟨gb155, 0, none⟩ = some (.bool false) := (blk_cell BK155.out 0).trans rfl
    have hcz69_1 : w62.cell? ⟨gb155, 1, none⟩ = some (.int .u64 0) := (blk_cell BK155.out 1).trans rfl
    have hcz69_2 : w62.cell? ⟨gb155, 2, none⟩ = some (.int .u64 0) := (blk_cell BK155.out 2).trans rfl
    have hfz69_0 := blk_frozen BK155.out 0
    have hfz69_1 := blk_frozen BK155.out 1
    have hfz69_2 := blk_frozen BK155.out 2
    try go_wp2_with (first | ((with_reducible refine gate_callee (f := 51) rfl ?_); refine goesL_ (some 35) rfl rfl Tryd.func51 (by kernel_rfl) rfl #[.agg #[.bool t152, .int .u64 t153, .int .u64 t154]] rfl (by (try simp only [List.map_toArray, List.map_cons, List.map_nil]); first | done | rfl | (simp only [List.length_drop, List.length_take]; rfl)) ?_; (with_reducible refine (fraction_wide_zero.calls t152 t153 t154 false _ A8.out).mono ?_); rintro e w70 ⟨rfl, hb⟩; refine ⟨_, rfl, ?_⟩; replace HO144 := Aside0.mk (Kd.R_below (by (with_reducible repeat (first | apply Kd.R_alloc | apply Kd.R_drewN | apply Kd.R_drew)); exact (Kd.R_mono (Kd.R_far (p := ⟨gb155, 2, none⟩) (Kd.R_far (p := ⟨gb155, 1, none⟩) (Kd.R_far (p := ⟨gb155, 0, none⟩) (Kd.R_types HO144.out BK155.out (by decide)) (fun _ hk => hk.2) (.bool t152)) (fun _ hk => hk.2) (.int .u64 t153)) (fun _ hk => hk.2) (.int .u64 t154)) (fun _ h_ => h_.1))) hb); replace BK139 := Aside0.mk (blk_below (g := gb139) (o := .cells #[.int .i64 a0_0, .int .i64 a0_1] 25 (0, 0)) (by repeat first | (with_reducible first | refine blk_drewN ?_ _ | refine blk_drew ?_ | refine blk_alloc ?_ _) | refine blk_far ?_ NB139_155.out _ | exact BK139.out) hb); replace BK140 := Aside0.mk (blk_below (g := gb140) (o := .cells #[.int .i64 a1_0, .int .i64 a1_1] 25 (0, 0)) (by repeat first | (with_reducible first | refine blk_drewN ?_ _ | refine blk_drew ?_ | refine blk_alloc ?_ _) | refine blk_far ?_ NB140_155.out _ | exact BK140.out) hb); replace BK141 := Aside0.mk (blk_below (g := gb141) (o := .cells #[.int .i64 0, .int .i64 0] 25 (0, 0)) (by repeat first | (with_reducible first | refine blk_drewN ?_ _ | refine blk_drew ?_ | refine blk_alloc ?_ _) | refine blk_far ?_ NB141_155.out _ | exact BK141.out) hb); replace BK155 := Aside0.mk (blk_below (g := gb155) (o := .cells #[.bool t152, .int .u64 t153, .int .u64 t154] 51 (0, 0)) (by (with_reducible repeat (first | refine blk_drewN ?_ _ | refine blk_drew ?_ | refine blk_alloc ?_ _)); refine blk_put (cs := #[.bool t152, .int .u64 t153, .int .u64 0]) ?_ 2 _ rfl; (with_reducible repeat (first | refine blk_drewN ?_ _ | refine blk_drew ?_ | refine blk_alloc ?_ _)); refine blk_put (cs := #[.bool t152, .int .u64 0, .int .u64 0]) ?_ 1 _ rfl; (with_reducible repeat (first | refine blk_drewN ?_ _ | refine blk_drew ?_ | refine blk_alloc ?_ _)); refine blk_put (cs := #[.bool false, .int .u64 0, .int .u64 0]) ?_ 0 _ rfl; (with_reducible repeat (first | refine blk_drewN ?_ _ | refine blk_drew ?_ | refine blk_alloc ?_ _)); exact BK155.out) hb); replace HB := Aside0.mk (below_step (by repeat (first | (with_reducible first | exact HB.out | apply below_alloc | apply pw_below_drewN | apply below_drew1 | refine below_set ?_ GE139.out | refine below_set ?_ GE140.out | refine below_set ?_ GE141.out | refine below_set ?_ GE155.out) | exact HB.out)) hb); (try clear hb); (try clear A8); have hcz71_0 : w70.cell? ⟨gb155, 0, none⟩ = some (.bool t152) := (blk_cell BK155.out 0).trans rfl; have hcz71_1 : w70.cell? ⟨gb155, 1, none⟩ = some (.int .u64 t153) := (blk_cell BK155.out 1).trans rfl; have hcz71_2 : w70.cell? ⟨gb155, 2, none⟩ = some (.int .u64 t154) := (blk_cell BK155.out 2).trans rfl; have hfz71_0 := blk_frozen BK155.out 0; have hfz71_1 := blk_frozen BK155.out 1; have hfz71_2 := blk_frozen BK155.out 2) | ((with_reducible refine gate_callee (f := 53) rfl ?_); refine goesL_ (some 44) rfl rfl Tryd.func53 (by kernel_rfl) rfl #[.int .u64 t153, .int .u64 t154, .int .u64 t145] rfl (by (try simp only [List.map_toArray, List.map_cons, List.map_nil]); first | done | rfl | (simp only [List.length_drop, List.length_take]; rfl)) ?_; (with_reducible refine (bits_Rem64.calls k t153 t154 t145 t160 _ A39.out).mono ?_); rintro e w72 ⟨rfl, hb⟩; refine ⟨_, rfl, ?_⟩; replace HO144 := Aside0.mk (Kd.R_below (by (with_reducible repeat (first | apply Kd.R_alloc | apply Kd.R_drewN | apply Kd.R_drew)); exact HO144.out) hb); replace BK139 := Aside0.mk (blk_below (g := gb139) (o := .cells #[.int .i64 a0_0, .int .i64 a0_1] 25 (0, 0)) (by (with_reducible repeat (first | refine blk_drewN ?_ _ | refine blk_drew ?_ | refine blk_alloc ?_ _)); exact BK139.out) hb); replace BK140 := Aside0.mk (blk_below (g := gb140) (o := .cells #[.int .i64 a1_0, .int .i64 a1_1] 25 (0, 0)) (by (with_reducible repeat (first | refine blk_drewN ?_ _ | refine blk_drew ?_ | refine blk_alloc ?_ _)); exact BK140.out) hb); replace BK141 := Aside0.mk (blk_below (g := gb141) (o := .cells #[.int .i64 0, .int .i64 0] 25 (0, 0)) (by (with_reducible repeat (first | refine blk_drewN ?_ _ | refine blk_drew ?_ | refine blk_alloc ?_ _)); exact BK141.out) hb); replace BK155 := Aside0.mk (blk_below (g := gb155) (o := .cells #[.bool t152, .int .u64 t153, .int .u64 t154] 51 (0, 0)) (by (with_reducible repeat (first | refine blk_drewN ?_ _ | refine blk_drew ?_ | refine blk_alloc ?_ _)); exact BK155.out) hb); replace HB := Aside0.mk (below_step (by repeat (first | (with_reducible first | exact HB.out | apply below_alloc | apply pw_below_drewN | apply below_drew1 | refine below_set ?_ GE139.out | refine below_set ?_ GE140.out | refine below_set ?_ GE141.out | refine below_set ?_ GE155.out) | exact HB.out)) hb); (try clear hb); (try clear A39)) | ((with_reducible refine gate_dst (N := 46) rfl ?_); refine Kd.R_lit (Kd.int .u64) _ 49 ?hg (N := 46) ?hd (xs := ([t160, t145] : List Int)) (inner := [.int .u64 t160, .int .u64 t145]) (ok := fun _ => True) (okp := fun _ => True) ?hr ?hp (fun _ hk => hk) trivial (Below.refl _ _) (Nat.le_refl _) (by simp) ?_; (case hd => rfl); (case hg => rfl); (case hr => first | (go_simp; done) | (go_simp; rfl)); (case hp => exact (Reps.one (show Kd.M (Kd.int .u64) _ _ _ t160 [.int .u64 t160] from rfl) (Reps.one (show Kd.M (Kd.int .u64) _ _ _ t145 [.int .u64 t145] from rfl) (Reps.none _ _)))); intro v162 w73 ho74 hb hg_ hnew_; clear hg_ hnew_; (first | rw [← Ny161.out] at ho74 | (simp only [Int.reduceToNat] at ho74; rw [← Ny161.out] at ho74)); have HO163 := Aside0.mk (Kd.R_lower (Kd.R_new' ho74 (Kd.R_lt (by (with_reducible repeat (first | apply Kd.R_alloc | apply Kd.R_drewN | apply Kd.R_drew)); exact HO144.out))) (below_size (by repeat (first | (with_reducible first | exact HB.out | apply below_alloc | apply pw_below_drewN | apply below_drew1 | refine below_set ?_ GE139.out | refine below_set ?_ GE140.out | refine below_set ?_ GE141.out | refine below_set ?_ GE155.out) | exact HB.out)))); replace HO144 := Aside0.mk (Kd.R_elder' (by (with_reducible repeat (first | apply Kd.R_alloc | apply Kd.R_drewN | apply Kd.R_drew)); exact HO144.out) (Kd.R_base ho74) hb); replace BK139 := Aside0.mk (blk_below (g := gb139) (o := .cells #[.int .i64 a0_0, .int .i64 a0_1] 25 (0, 0)) (by (with_reducible repeat (first | refine blk_drewN ?_ _ | refine blk_drew ?_ | refine blk_alloc ?_ _)); exact BK139.out) hb); replace BK140 := Aside0.mk (blk_below (g := gb140) (o := .cells #[.int .i64 a1_0, .int .i64 a1_1] 25 (0, 0)) (by (with_reducible repeat (first | refine blk_drewN ?_ _ | refine blk_drew ?_ | refine blk_alloc ?_ _)); exact BK140.out) hb); replace BK141 := Aside0.mk (blk_below (g := gb141) (o := .cells #[.int .i64 0, .int .i64 0] 25 (0, 0)) (by (with_reducible repeat (first | refine blk_drewN ?_ _ | refine blk_drew ?_ | refine blk_alloc ?_ _)); exact BK141.out) hb); replace BK155 := Aside0.mk (blk_below (g := gb155) (o := .cells #[.bool t152, .int .u64 t153, .int .u64 t154] 51 (0, 0)) (by (with_reducible repeat (first | refine blk_drewN ?_ _ | refine blk_drew ?_ | refine blk_alloc ?_ _)); exact BK155.out) hb); replace HB := Aside0.mk (below_step (by repeat (first | (with_reducible first | exact HB.out | apply below_alloc | apply pw_below_drewN | apply below_drew1 | refine below_set ?_ GE139.out | refine below_set ?_ GE140.out | refine below_set ?_ GE141.out | refine below_set ?_ GE155.out) | exact HB.out)) hb); clear hb ho74; obtain ⟨Ao75, co75, eo75⟩ := Kd.R_slice HO163.out; subst eo75) | ((with_reducible refine gate_callee (f := 42) rfl ?_); refine goesL_ (some 47) rfl rfl Tryd.func42 (by kernel_rfl) rfl #[.slice Ao75 y161.length co75] rfl (by (try simp only [List.map_toArray, List.map_cons, List.map_nil]); first | done | rfl | (simp only [List.length_drop, List.length_take]; rfl)) ?_; (with_reducible refine (fraction_gcd.calls _ _ y161 t164 _ ?side1 ?side2 A40.out).mono ?_); (case side1 => repeat (first | exact (Kd.R_reads' HO163.out).2.2 | (with_reducible refine Kd.C_alloc ?_ _) | (with_reducible refine Kd.C_drewN ?_ _) | (with_reducible refine Kd.C_drew ?_))); (case side2 => exact (Kd.R_reads' HO163.out).2.1); rintro e w76 ⟨rfl, hb⟩; refine ⟨_, rfl, ?_⟩; replace HO144 := Aside0.mk (Kd.R_below (by (with_reducible repeat (first | apply Kd.R_alloc | apply Kd.R_drewN | apply Kd.R_drew)); exact HO144.out) hb); replace HO163 := Aside0.mk (Kd.R_below (by (with_reducible repeat (first | apply Kd.R_alloc | apply Kd.R_drewN | apply Kd.R_drew)); exact HO163.out) hb); replace BK139 := Aside0.mk (blk_below (g := gb139) (o := .cells #[.int .i64 a0_0, .int .i64 a0_1] 25 (0, 0)) (by (with_reducible repeat (first | refine blk_drewN ?_ _ | refine blk_drew ?_ | refine blk_alloc ?_ _)); exact BK139.out) hb); replace BK140 := Aside0.mk (blk_below (g := gb140) (o := .cells #[.int .i64 a1_0, .int .i64 a1_1] 25 (0, 0)) (by (with_reducible repeat (first | refine blk_drewN ?_ _ | refine blk_drew ?_ | refine blk_alloc ?_ _)); exact BK140.out) hb); replace BK141 := Aside0.mk (blk_below (g := gb141) (o := .cells #[.int .i64 0, .int .i64 0] 25 (0, 0)) (by (with_reducible repeat (first | refine blk_drewN ?_ _ | refine blk_drew ?_ | refine blk_alloc ?_ _)); exact BK141.out) hb); replace BK155 := Aside0.mk (blk_below (g := gb155) (o := .cells #[.bool t152, .int .u64 t153, .int .u64 t154] 51 (0, 0)) (by (with_reducible repeat (first | refine blk_drewN ?_ _ | refine blk_drew ?_ | refine blk_alloc ?_ _)); exact BK155.out) hb); replace HB := Aside0.mk (below_step (by repeat (first | (with_reducible first | exact HB.out | apply below_alloc | apply pw_below_drewN | apply below_drew1 | refine below_set ?_ GE139.out | refine below_set ?_ GE140.out | refine below_set ?_ GE141.out | refine below_set ?_ GE155.out) | exact HB.out)) hb); (try clear hb); (try clear A40)))
    replace HO144 := Aside0.mk (Kd.R_drew HO144.out)
    replace HO163 := Aside0.mk (Kd.R_drew HO163.out)
    replace BK139 := Aside0.mk (blk_drew BK139.out)
    replace BK140 := Aside0.mk (blk_drew BK140.out)
    replace BK141 := Aside0.mk (blk_drew BK141.out)
    replace BK155 := Aside0.mk (blk_drew BK155.out)
    replace HB := Aside0.mk (below_drew1 HB.out)
    refine start_ (n := 19) (S := fun w' => w'.cell? ⟨gb155, 0, none⟩ = some (.bool t152) ∧ w'.cell? ⟨gb155, 1, none⟩ = some (.int .u64 t153) ∧ w'.cell? ⟨gb155, 2, none⟩ = some (.int .u64 t154) ∧ w'.cell? ⟨gb139, 0, none⟩ = some (.int .i64 a0_0) ∧ w'.cell? ⟨gb139, 1, none⟩ = some (.int .i64 a0_1) ∧ w'.cell? ⟨gb140, 0, none⟩ = some (.int .i64 a1_0) ∧ w'.cell? ⟨gb140, 1, none⟩ = some (.int .i64 a1_1)) (ds := []) #[F_,F_,F_,F_,F_,F_,F_,F_,F_,F_,F_,F_,F_,F_,F_,F_,F_,F_,F_] (by kernel_rfl) rfl rfl ⟨(blk_cell BK155.out 0).trans rfl, (blk_cell BK155.out 1).trans rfl, (blk_cell BK155.out 2).trans rfl, (blk_cell BK139.out 0).trans rfl, (blk_cell BK139.out 1).trans rfl, (blk_cell BK140.out 0).trans rfl, (blk_cell BK140.out 1).trans rfl⟩ (fun hHeld => ?_); refine with_tabW fraction_Add.tab6 fraction_Add.bits6 (fun HT_ HW_ => ?_)
    generalize w76.drew = w77 at HO144 HO163 BK139 BK140 BK141 BK155 HB hHeld ⊢
    refine pz_ 1 49 19 2 HT_ rfl rfl (by kernel_rfl) ?_ (fun _ _ _ h => h) (by rfl) (fun w' => ?_) ?_ ?_ ?_;rotate_left;go_simp;with_reducible rfl;rotate_left;simp only [P_,A_,B_,C_,i64_w,i32_w];rfl
    refine pz_ 3 51 19 10 HT_ rfl rfl (by kernel_rfl) ?_ (fun _ _ _ h => h) (by rfl) (fun w' => ?_) ?_ ?_ ?_;rotate_left;go_simp;with_reducible rfl;rotate_left;simp only [P_,A_,B_,C_,i64_w,i32_w];rfl
    refine pz_ 5 53 19 42 HT_ rfl rfl (by kernel_rfl) ?_ (fun _ _ _ h => h) (by rfl) (fun w' => ?_) ?_ ?_ ?_;rotate_left;go_simp;with_reducible rfl;rotate_left;simp only [P_,A_,B_,C_,i64_w,i32_w];rfl
    refine pz_ 6 54 19 106 HT_ rfl rfl (by kernel_rfl) ?_ (fun _ _ _ h => h) (by rfl) (fun w' => ?_) ?_ ?_ ?_;rotate_left;go_simp;with_reducible rfl;rotate_left;simp only [P_,A_,B_,C_,i64_w,i32_w];rfl
    refine pz_ 8 56 19 362 HT_ rfl rfl (by kernel_rfl) ?_ (fun _ _ _ h => h) (by rfl) (fun w' => ?_) ?_ ?_ ?_;rotate_left;go_simp;with_reducible rfl;rotate_left;simp only [P_,A_,B_,C_,i64_w,i32_w];rfl
    refine pz_ 10 58 19 1386 HT_ rfl rfl (by kernel_rfl) ?_ (fun _ _ _ h => h) (by rfl) (fun w' => ?_) ?_ ?_ ?_;rotate_left;go_simp;with_reducible rfl;rotate_left;simp only [P_,A_,B_,C_,i64_w,i32_w];rfl
    refine pz_ 11 59 19 3434 HT_ rfl rfl (by kernel_rfl) ?_ (fun _ _ _ h => h) (by rfl) (fun w' => ?_) ?_ ?_ ?_;rotate_left;go_simp;with_reducible rfl;rotate_left;simp only [P_,A_,B_,C_,i64_w,i32_w];rfl
    refine tz_ 0 48 19 3435 HT_ HW_ rfl rfl (by kernel_rfl) hHeld ?_ (fun _ _ _ h => h) (by rfl) (fun w' ⟨s0, s1, s2, s3, s4, s5, s6⟩ => ?_) ?_ ?_ ?_;rotate_left;go_simp;with_reducible rfl;rotate_left;simp only [P_,A_,B_,C_,i64_w,i32_w];rfl
    refine tz_ 4 52 19 3451 HT_ HW_ rfl rfl (by kernel_rfl) hHeld ?_ (fun _ _ _ h => h) (by rfl) (fun w' ⟨s0, s1, s2, s3, s4, s5, s6⟩ => ?_) ?_ ?_ ?_;rotate_left;go_simp;with_reducible rfl;rotate_left;simp only [P_,A_,B_,C_,i64_w,i32_w];rfl
    refine pz_ 7 55 19 3579 HT_ rfl rfl (by kernel_rfl) ?_ (fun _ _ _ h => h) (by rfl) (fun w' => ?_) ?_ ?_ ?_;rotate_left;go_simp;with_reducible rfl;rotate_left;simp only [P_,A_,B_,C_,i64_w,i32_w];rfl
    refine tz_ 9 57 19 4091 HT_ HW_ rfl rfl (by kernel_rfl) hHeld ?_ (fun _ _ _ h => h) (by rfl) (fun w' ⟨s0, s1, s2, s3, s4, s5, s6⟩ => ?_) ?_ ?_ ?_;rotate_left;go_simp;with_reducible rfl;rotate_left;simp only [P_,A_,B_,C_,i64_w,i32_w];rfl
    refine pz_ 12 60 19 8187 HT_ rfl rfl (by kernel_rfl) ?_ (fun _ _ _ h => h) (by rfl) (fun w' => ?_) ?_ ?_ ?_;rotate_left;go_simp;with_reducible rfl;rotate_left;simp only [P_,A_,B_,C_,i64_w,i32_w];rfl
    refine one_ (i := 2) (N := some 50) #[T_,T_,T_,T_,T_,T_,T_,T_,T_,T_,T_,T_,T_,F_,F_,F_,F_,F_,F_] rfl rfl (one_of HT_.out (by kernel_rfl)) (by decide) (fun K hK => ?_)
    refine goes_ Tryd.func55 (by kernel_rfl) rfl #[.agg #[.bool t152, .int .u64 t153, .int .u64 t154], .int .u64 t164] (by rfl) rfl rfl (by (try simp only [List.map_toArray, List.map_cons, List.map_nil]); first | done | rfl | (simp only [List.length_drop, List.length_take]; rfl)) ?_
    with_reducible refine (fraction_wide_over.calls k t152 t153 t154 t164 t165 t166 t167 _ A41.out).mono ?_
    rintro e w78 ⟨rfl, hb⟩
    refine ⟨_, rfl, ?_⟩
    replace HO144 := Aside0.mk (Kd.R_below HO144.out hb)
    replace HO163 := Aside0.mk (Kd.R_below HO163.out hb)
    replace BK139 := Aside0.mk (blk_below BK139.out hb)
    replace BK140 := Aside0.mk (blk_below BK140.out hb)
    replace BK141 := Aside0.mk (blk_below BK141.out hb)
    replace BK155 := Aside0.mk (blk_below BK155.out hb)
    replace HB := Aside0.mk (below_step HB.out hb)
    (try clear hb)
    (try clear A41)
    refine hK.out _ _ ⟨(blk_cell BK155.out 0).trans rfl, (blk_cell BK155.out 1).trans rfl, (blk_cell BK155.out 2).trans rfl, (blk_cell BK139.out 0).trans rfl, (blk_cell BK139.out 1).trans rfl, (blk_cell BK140.out 0).trans rfl, (blk_cell BK140.out 1).trans rfl⟩ (fun hHeld => ?_)
    clear hK K
    refine norm_ (a' := ?_) ?_ ?_
    rotate_left
    ·show Act.put _ (some 50) _ = _
     simp only [Act.put, List.setIfInBounds_toArray, List.set_cons_zero, List.set_cons_succ, i64_w, i32_w]
     rfl
    refine one_ (i := 13) (N := some 61) #[T_,T_,T_,T_,T_,T_,T_,T_,T_,T_,T_,T_,T_,T_,F_,F_,F_,F_,F_] rfl rfl (one_of HT_.out (by kernel_rfl)) (by decide) (fun K hK => ?_)
    refine goes_ Tryd.func30 (by kernel_rfl) rfl #[.int .i64 (wrap64 (Int.tdiv a0_1 (wrap64 (t145)))), .int .i64 (wrap64 (Int.tdiv a1_1 (wrap64 (t164))))] (by rfl) rfl rfl (by (try simp only [List.map_toArray, List.map_cons, List.map_nil]); first | done | rfl | (simp only [List.length_drop, List.length_take]; rfl)) ?_
    with_reducible refine (fraction_times.calls (wrap64 (Int.tdiv a0_1 (wrap64 (t145)))) (wrap64 (Int.tdiv a1_1 (wrap64 (t164)))) t168 t169 t170 _ A43.out).mono ?_
    rintro e w79 ⟨rfl, hb⟩
    refine ⟨_, rfl, ?_⟩
    replace HO144 := Aside0.mk (Kd.R_below HO144.out hb)
    replace HO163 := Aside0.mk (Kd.R_below HO163.out hb)
    replace BK139 := Aside0.mk (blk_below BK139.out hb)
    replace BK140 := Aside0.mk (blk_below BK140.out hb)
    replace BK141 := Aside0.mk (blk_below BK141.out hb)
    replace BK155 := Aside0.mk (blk_below BK155.out hb)
    replace HB := Aside0.mk (below_step HB.out hb)
    (try clear hb)
    (try clear A43)
    refine hK.out _ _ ⟨(blk_cell BK155.out 0).trans rfl, (blk_cell BK155.out 1).trans rfl, (blk_cell BK155.out 2).trans rfl, (blk_cell BK139.out 0).trans rfl, (blk_cell BK139.out 1).trans rfl, (blk_cell BK140.out 0).trans rfl, (blk_cell BK140.out 1).trans rfl⟩ (fun hHeld => ?_)
    clear hK K
    refine norm_ (a' := ?_) ?_ ?_
    rotate_left
    ·show Act.put _ (some 61) _ = _
     simp only [Act.put, List.setIfInBounds_toArray, List.set_cons_zero, List.set_cons_succ, i64_w, i32_w]
     rfl
    refine one_ (i := 14) (N := some 62) #[T_,T_,T_,T_,T_,T_,T_,T_,T_,T_,T_,T_,T_,T_,T_,F_,F_,F_,F_] rfl rfl (one_of HT_.out (by kernel_rfl)) (by decide) (fun K hK => ?_)
    refine goes_ Tryd.func54 (by kernel_rfl) rfl #[.agg #[.bool t165, .int .u64 t166, .int .u64 t167], .agg #[.bool t168, .int .u64 t169, .int .u64 t170]] (by rfl) rfl rfl (by (try simp only [List.map_toArray, List.map_cons, List.map_nil]); first | done | rfl | (simp only [List.length_drop, List.length_take]; rfl)) ?_
    with_reducible refine (fraction_made.calls k t165 t166 t167 t168 t169 t170 t171 t172 t173 _ A44.out).mono ?_
    rintro e w80 ⟨rfl, hb⟩
    refine ⟨_, rfl, ?_⟩
    replace HO144 := Aside0.mk (Kd.R_below HO144.out hb)
    replace HO163 := Aside0.mk (Kd.R_below HO163.out hb)
    replace BK139 := Aside0.mk (blk_below BK139.out hb)
    replace BK140 := Aside0.mk (blk_below BK140.out hb)
    replace BK141 := Aside0.mk (blk_below BK141.out hb)
    replace BK155 := Aside0.mk (blk_below BK155.out hb)
    replace HB := Aside0.mk (below_step HB.out hb)
    (try clear hb)
    (try clear A44)
    refine hK.out _ _ ⟨(blk_cell BK155.out 0).trans rfl, (blk_cell BK155.out 1).trans rfl, (blk_cell BK155.out 2).trans rfl, (blk_cell BK139.out 0).trans rfl, (blk_cell BK139.out 1).trans rfl, (blk_cell BK140.out 0).trans rfl, (blk_cell BK140.out 1).trans rfl⟩ (fun hHeld => ?_)
    clear hK K
    refine norm_ (a' := ?_) ?_ ?_
    rotate_left
    ·show Act.put _ (some 62) _ = _
     simp only [Act.put, List.setIfInBounds_toArray, List.set_cons_zero, List.set_cons_succ, i64_w, i32_w]
     rfl
    refine pz_ 15 63 19 65535 HT_ rfl rfl (by kernel_rfl) ?_ (fun _ _ _ h => h) (by rfl) (fun w' => ?_) ?_ ?_ ?_;rotate_left;go_simp;with_reducible rfl;rotate_left;simp only [P_,A_,B_,C_,i64_w,i32_w];rfl
    refine pz_ 16 64 19 131071 HT_ rfl rfl (by kernel_rfl) ?_ (fun _ _ _ h => h) (by rfl) (fun w' => ?_) ?_ ?_ ?_;rotate_left;go_simp;with_reducible rfl;rotate_left;simp only [P_,A_,B_,C_,i64_w,i32_w];rfl
    refine one_ (i := 17) (N := none) #[T_,T_,T_,T_,T_,T_,T_,T_,T_,T_,T_,T_,T_,T_,T_,T_,T_,T_,F_] rfl rfl (one_of HT_.out (by kernel_rfl)) (by decide) (fun K hK => ?_)
    have hs81 : w80.cell? ⟨gb141, 0, none⟩ = some (.int .i64 0) := (blk_cell BK141.out 0).trans rfl
    have hfs81 := blk_frozen BK141.out 0
    have hns81_0 := NB139_141.out
    have hns81_1 := NB140_141.out
    have hns81_3 := NB155_141.out
    have hms81_0 := NB141_139.out
    have hms81_1 := NB141_140.out
    have hms81_3 := NB141_155.out
    have hs82 : w80.cell? ⟨gb141, 1, none⟩ = some (.int .i64 0) := (blk_cell BK141.out 1).trans rfl
    have hfs82 := blk_frozen BK141.out 1
    have hns82_0 := NB139_141.out
    have hns82_1 := NB140_141.out
    have hns82_3 := NB155_141.out
    have hms82_0 := NB141_139.out
    have hms82_1 := NB141_140.out
    have hms82_3 := NB141_155.out
    refine skip_ (w1 := ?_) (by rfl) rfl ?_ ?_
    rotate_left
    ·go_simp
     rfl
    refine hK.out _ _ ⟨((cell_far (p := ⟨gb141, _, none⟩) NB155_141.out _).trans (((cell_far (p := ⟨gb141, _, none⟩) NB155_141.out _).trans (hHeld.1)))), ((cell_far (p := ⟨gb141, _, none⟩) NB155_141.out _).trans (((cell_far (p := ⟨gb141, _, none⟩) NB155_141.out _).trans (hHeld.2.1)))), ((cell_far (p := ⟨gb141, _, none⟩) NB155_141.out _).trans (((cell_far (p := ⟨gb141, _, none⟩) NB155_141.out _).trans (hHeld.2.2.1)))), ((cell_far (p := ⟨gb141, _, none⟩) NB139_141.out _).trans (((cell_far (p := ⟨gb141, _, none⟩) NB139_141.out _).trans (hHeld.2.2.2.1)))), ((cell_far (p := ⟨gb141, _, none⟩) NB139_141.out _).trans (((cell_far (p := ⟨gb141, _, none⟩) NB139_141.out _).trans (hHeld.2.2.2.2.1)))), ((cell_far (p := ⟨gb141, _, none⟩) NB140_141.out _).trans (((cell_far (p := ⟨gb141, _, none⟩) NB140_141.out _).trans (hHeld.2.2.2.2.2.1)))), ((cell_far (p := ⟨gb141, _, none⟩) NB140_141.out _).trans (((cell_far (p := ⟨gb141, _, none⟩) NB140_141.out _).trans (hHeld.2.2.2.2.2.2))))⟩ (fun hHeld => ?_)
    clear hK K
    refine pz_ 18 5 19 524287 HT_ rfl rfl (by kernel_rfl) ?_ (fun _ _ _ h => h) (by rfl) (fun w' => ?_) ?_ ?_ ?_;rotate_left;go_simp;with_reducible rfl;rotate_left;simp only [P_,A_,B_,C_,i64_w,i32_w];rfl
    refine done_ (done_of HT_.out (by kernel_rfl)) ?_
    try go_wp2
    refine bodyPost_ret (results_ct rfl _ _ gb141 25 #[.int .i64 t171, .int .i64 t172] (0, 0) _ rfl (by (with_reducible repeat (first | refine blk_drewN ?_ _ | refine blk_drew ?_ | refine blk_alloc ?_ _)); refine blk_put (cs := #[.int .i64 t171, .int .i64 0]) ?_ 1 _ rfl; (with_reducible repeat (first | refine blk_drewN ?_ _ | refine blk_drew ?_ | refine blk_alloc ?_ _)); refine blk_put (cs := #[.int .i64 0, .int .i64 0]) ?_ 0 _ rfl; (with_reducible repeat (first | refine blk_drewN ?_ _ | refine blk_drew ?_ | refine blk_alloc ?_ _)); exact BK141.out) Tryd.underlying25 rfl (by kernel_rfl)) rfl ?_
    exact ⟨by first | rfl | (simp [errW_none, errW_some] <;> rfl) | (simp [*, errW_none, errW_some] <;> rfl), by repeat (first | (with_reducible first | exact HB.out | apply below_alloc | apply pw_below_drewN | apply below_drew1 | refine below_set ?_ GE139.out | refine below_set ?_ GE140.out | refine below_set ?_ GE141.out | refine below_set ?_ GE155.out) | exact HB.out)⟩

/-! ### wireloomlaw02_add: function 14 -/
def wireloomlaw02_add.f (k : Nat) (a0_0 : Int) (a0_1 : Int) (a1_0 : Int) (a1_1 : Int) : Option (Int × Int × Int) := (fraction_Add.f k a0_0 a0_1 a1_0 a1_1).bind fun bt177 => (some (bt177.1, bt177.2.1, bt177.2.2))
theorem wireloomlaw02_add.mono : ∀ a0 a1 a2 a3 k, LeO (wireloomlaw02_add.f k a0 a1 a2 a3) (wireloomlaw02_add.f (k + 1) a0 a1 a2 a3) := by
 intro a0 a1 a2 a3 k
 unfold wireloomlaw02_add.f
 repeat' first
   | (with_reducible exact fraction_Add.mono _ _ _ _ _)
   | (with_reducible exact LeO.refl _)
   | (with_reducible exact LeO.none _)
   | (with_reducible refine LeO.ite ?_ ?_)
   | (with_reducible refine LeO.bind ?_ (fun _ => ?_))
   | exact fraction_Add.mono _ _ _ _ _
   | exact LeO.none _
   | refine LeO.ite ?_ ?_
   | refine LeO.bind ?_ (fun _ => ?_)
set_option maxHeartbeats 8000000 in
set_option maxRecDepth 100000 in
theorem wireloomlaw02_add.calls (k : Nat) (a0_0 : Int) (a0_1 : Int) (a1_0 : Int) (a1_1 : Int) (r1 : Int) (r2 : Int) (r3 : Int) (w : World) (h : wireloomlaw02_add.f k a0_0 a0_1 a1_0 a1_1 = some (r1, r2, r3)) :
  Calls Tryd.prog 14 #[.agg #[.int .i64 a0_0, .int .i64 a0_1], .agg #[.int .i64 a1_0, .int .i64 a1_1]] w fun e w' => e = .returned (.agg #[.int .i64 r1, .int .i64 r2, .int .i64 r3]) ∧ Below w.heap.size w w' := by
 have hu25 := Tryd.underlying25
 have hu31 := Tryd.underlying31
 have HB := Aside0.mk (Below.refl w.heap.size w)
 have H : ((fraction_Add.f k a0_0 a0_1 a1_0 a1_1).bind fun bt177 => (some (bt177.1, bt177.2.1, bt177.2.2))) = some (r1, r2, r3) := h
 clear h
 replace H := Option.bind_eq_some_iff.mp H
 obtain ⟨⟨t177, t178, t179⟩, A30, H⟩ := H
 replace H : (some (t177, t178, t179)) = some (r1, r2, r3) := H
 have A3 := Aside0.mk A30
 clear A30
 simp only [Option.some.injEq, Prod.mk.injEq] at H
 obtain ⟨rfl, rfl, rfl⟩ := H
 go_enter Tryd.func14, Tryd.ntmps14
 go_wp2_with (first | ((with_reducible refine gate_dst (N := 2) rfl ?_); refine box_event ?hg (N := 2) ?hd (cs := #[.int .i64 a0_0, .int .i64 a0_1]) (t := 25) ?hr ?_; (case hd => rfl); (case hg => rfl); (case hr => first | (go_simp; done) | (go_simp; rfl)); intro gb174 hg w4 hbox hb; have BK174 := Aside0.mk (hbox); have GW174 := Aside0.mk ((by rw [hg]; exact (below_size HB.out) : w.heap.size ≤ gb174)); have GE174 := Aside0.mk ((by rw [hg]; exact (below_size HB.out) : w.heap.size ≤ gb174)); replace HB := Aside0.mk (below_step HB.out hb); clear hb hbox hg) | ((with_reducible refine gate_dst (N := 3) rfl ?_); refine box_event ?hg (N := 3) ?hd (cs := #[.int .i64 a1_0, .int .i64 a1_1]) (t := 25) ?hr ?_; (case hd => rfl); (case hg => rfl); (case hr => first | (go_simp; done) | (go_simp; rfl)); intro gb175 hg w5 hbox hb; have BK175 := Aside0.mk (hbox); have GW175 := Aside0.mk ((by rw [hg]; exact (below_size HB.out) : w.heap.size ≤ gb175)); have GE175 := Aside0.mk ((by rw [hg]; exact (below_size HB.out) : w.heap.size ≤ gb175)); replace HB := Aside0.mk (below_step HB.out hb); have NB174_175 := Aside0.mk ((by rw [hg]; exact Nat.ne_of_lt (blk_lt BK174.out) : gb174 ≠ gb175)); have NB175_174 := Aside0.mk ((by rw [hg]; exact Nat.ne_of_gt (blk_lt BK174.out) : gb175 ≠ gb174)); replace BK174 := Aside0.mk (blk_below BK174.out hb); clear hb hbox hg) | ((with_reducible refine gate_dst (N := 4) rfl ?_); refine box_event ?hg (N := 4) ?hd (cs := #[.int .i64 0, .int .i64 0, .int .i64 0]) (t := 31) ?hr ?_; (case hd => rfl); (case hg => rfl); (case hr => first | (go_simp; done) | (go_simp; rfl)); intro gb176 hg w6 hbox hb; have BK176 := Aside0.mk (hbox); have GW176 := Aside0.mk ((by rw [hg]; exact (below_size HB.out) : w.heap.size ≤ gb176)); have GE176 := Aside0.mk ((by rw [hg]; exact (below_size HB.out) : w.heap.size ≤ gb176)); replace HB := Aside0.mk (below_step HB.out hb); have NB174_176 := Aside0.mk ((by rw [hg]; exact Nat.ne_of_lt (blk_lt BK174.out) : gb174 ≠ gb176)); have NB176_174 := Aside0.mk ((by rw [hg]; exact Nat.ne_of_gt (blk_lt BK174.out) : gb176 ≠ gb174)); replace BK174 := Aside0.mk (blk_below BK174.out hb); have NB175_176 := Aside0.mk ((by rw [hg]; exact Nat.ne_of_lt (blk_lt BK175.out) : gb175 ≠ gb176)); have NB176_175 := Aside0.mk ((by rw [hg]; exact Nat.ne_of_gt (blk_lt BK175.out) : gb176 ≠ gb175)); replace BK175 := Aside0.mk (blk_below BK175.out hb); clear hb hbox hg; have hnb7 := NB174_175.out; have hnc7 := NB175_174.out; have hnb8 := NB174_176.out; have hnc8 := NB176_174.out; have hcz9_0 : w6.cell? ⟨gb174, 0, none⟩ = some (.int .i64 a0_0) := (blk_cell BK174.out 0).trans rfl; have hcz9_1 : w6.cell? ⟨gb174, 1, none⟩ = some (.int .i64 a0_1) := (blk_cell BK174.out 1).trans rfl; have hfz9_0 := blk_frozen BK174.out 0; have hfz9_1 := blk_frozen BK174.out 1; have hnb10 := NB175_176.out; have hnc10 := NB176_175.out; have hcz11_0 : w6.cell? ⟨gb175, 0, none⟩ = some (.int .i64 a1_0) := (blk_cell BK175.out 0).trans rfl; have hcz11_1 : w6.cell? ⟨gb175, 1, none⟩ = some (.int .i64 a1_1) := (blk_cell BK175.out 1).trans rfl; have hfz11_0 := blk_frozen BK175.out 0; have hfz11_1 := blk_frozen BK175.out 1) | ((with_reducible refine gate_callee (f := 32) rfl ?_); refine goesL_ (some 10) rfl rfl Tryd.func32 (by kernel_rfl) rfl #[.agg #[.int .i64 a0_0, .int .i64 a0_1], .agg #[.int .i64 a1_0, .int .i64 a1_1]] rfl (by (try simp only [List.map_toArray, List.map_cons, List.map_nil]); first | done | rfl | (simp only [List.length_drop, List.length_take]; rfl)) ?_; (with_reducible refine (fraction_Add.calls k a0_0 a0_1 a1_0 a1_1 t177 t178 t179 _ A3.out).mono ?_); rintro e w12 ⟨rfl, hb⟩; refine ⟨_, rfl, ?_⟩; replace BK174 := Aside0.mk (blk_below BK174.out hb); replace BK175 := Aside0.mk (blk_below BK175.out hb); replace BK176 := Aside0.mk (blk_below BK176.out hb); replace HB := Aside0.mk (below_step HB.out hb); (try clear hb); (try clear A3)) | ((with_reducible refine gate_dst (N := 5) rfl ?_); refine box_event ?hg (N := 5) ?hd (cs := #[.int .i64 0, .int .i64 0]) (t := 25) ?hr ?_; (case hd => rfl); (case hg => rfl); (case hr => first | (go_simp; done) | (go_simp; rfl)); intro gb180 hg w13 hbox hb; have BK180 := Aside0.mk (hbox); have GW180 := Aside0.mk ((by rw [hg]; exact (below_size HB.out) : w.heap.size ≤ gb180)); have GE180 := Aside0.mk ((by rw [hg]; exact (below_size HB.out) : w.heap.size ≤ gb180)); replace HB := Aside0.mk (below_step HB.out hb); have NB174_180 := Aside0.mk ((by rw [hg]; exact Nat.ne_of_lt (blk_lt BK174.out) : gb174 ≠ gb180)); have NB180_174 := Aside0.mk ((by rw [hg]; exact Nat.ne_of_gt (blk_lt BK174.out) : gb180 ≠ gb174)); replace BK174 := Aside0.mk (blk_below BK174.out hb); have NB175_180 := Aside0.mk ((by rw [hg]; exact Nat.ne_of_lt (blk_lt BK175.out) : gb175 ≠ gb180)); have NB180_175 := Aside0.mk ((by rw [hg]; exact Nat.ne_of_gt (blk_lt BK175.out) : gb180 ≠ gb175)); replace BK175 := Aside0.mk (blk_below BK175.out hb); have NB176_180 := Aside0.mk ((by rw [hg]; exact Nat.ne_of_lt (blk_lt BK176.out) : gb176 ≠ gb180)); have NB180_176 := Aside0.mk ((by rw [hg]; exact Nat.ne_of_gt (blk_lt BK176.out) : gb180 ≠ gb176)); replace BK176 := Aside0.mk (blk_below BK176.out hb); clear hb hbox hg; have hnb14 := NB180_174.out; have hnc14 := NB174_180.out; have hnb15 := NB180_175.out; have hnc15 := NB175_180.out; have hnb16 := NB180_176.out; have hnc16 := NB176_180.out; have hcz17_0 : w13.cell? ⟨gb180, 0, none⟩ = some (.int .i64 0) := (blk_cell BK180.out 0).trans rfl; have hcz17_1 : w13.cell? ⟨gb180, 1, none⟩ = some (.int .i64 0) := (blk_cell BK180.out 1).trans rfl; have hfz17_0 := blk_frozen BK180.out 0; have hfz17_1 := blk_frozen BK180.out 1; have hcz18_0 : w13.cell? ⟨gb176, 0, none⟩ = some (.int .i64 0) := (blk_cell BK176.out 0).trans rfl; have hcz18_1 : w13.cell? ⟨gb176, 1, none⟩ = some (.int .i64 0) := (blk_cell BK176.out 1).trans rfl; have hcz18_2 : w13.cell? ⟨gb176, 2, none⟩ = some (.int .i64 0) := (blk_cell BK176.out 2).trans rfl; have hfz18_0 := blk_frozen BK176.out 0; have hfz18_1 := blk_frozen BK176.out 1; have hfz18_2 := blk_frozen BK176.out 2))
 refine bodyPost_ret (results_cell_row rfl _ _ gb176 31 #[.int .i64 t177, .int .i64 t178, .int .i64 t179] (0, 0) _ rfl (by (with_reducible repeat (first | refine blk_drewN ?_ _ | refine blk_drew ?_ | refine blk_alloc ?_ _)); refine blk_put (cs := #[.int .i64 t177, .int .i64 t178, .int .i64 0]) ?_ 2 _ rfl; (with_reducible repeat (first | refine blk_drewN ?_ _ | refine blk_drew ?_ | refine blk_alloc ?_ _)); refine blk_put (cs := #[.int .i64 t177, .int .i64 0, .int .i64 0]) ?_ 1 _ rfl; (with_reducible repeat (first | refine blk_drewN ?_ _ | refine blk_drew ?_ | refine blk_alloc ?_ _)); refine blk_put (cs := #[.int .i64 0, .int .i64 0, .int .i64 0]) ?_ 0 _ rfl; repeat first | (with_reducible first | refine blk_drewN ?_ _ | refine blk_drew ?_ | refine blk_alloc ?_ _) | refine blk_far ?_ NB176_180.out _ | exact BK176.out) Tryd.underlying31 rfl (by kernel_rfl)) rfl ?_
 exact ⟨by first | rfl | (simp [errW_none, errW_some] <;> rfl) | (simp [*, errW_none, errW_some] <;> rfl), by repeat (first | (with_reducible first | exact HB.out | apply below_alloc | apply pw_below_drewN | apply below_drew1 | refine below_set ?_ GE174.out | refine below_set ?_ GE175.out | refine below_set ?_ GE176.out | refine below_set ?_ GE180.out) | exact HB.out)⟩

end Go.Proofs.YtndfjpnpdnnpkaaDoor.F
