-- made by a program of this claim (wip/myprint.sh); Lean checks it
import Derived.Test.YtndfjpnpdnnpkaaDoorFx0
import Derived.Test.YtndfjpnpdnnpkaaDoorSt
import Derived.Test.YtndfjpnpdnnpkaaDoorFx2
import Derived.Test.YtndfjpnpdnnpkaaDoorFx5
import Derived.Test.YtndfjpnpdnnpkaaDoorFx6
import Derived.Test.YtndfjpnpdnnpkaaDoorFx7
import Derived.Test.YtndfjpnpdnnpkaaDoorFx8
import Derived.Test.YtndfjpnpdnnpkaaDoorGiven
namespace Go.Proofs.YtndfjpnpdnnpkaaDoor.F
open Go.RowKit Go.Proofs.YtndfjpnpdnnpkaaDoorW.PrintWords Go.Proofs.YtndfjpnpdnnpkaaDoorW.PrintLast Go.Proofs.YtndfjpnpdnnpkaaDoorW.PrintMore
attribute [local go_sem] max2_int min2_int max_two min_two max_three min_three max_four min_four   -- for this text's walks alone
set_option linter.unusedVariables false
set_option linter.unusedSimpArgs false

attribute [local go_sem high] eqA31
/-! ### fraction_Sub: function 39 -/
def fraction_Sub.f (k : Nat) (a0_0 : Int) (a0_1 : Int) (a1_0 : Int) (a1_1 : Int) : Option (Int × Int × Int) := (fraction_Add.f k a0_0 a0_1 (wrap64 (-a1_0)) a1_1).bind fun bt453 => (some (bt453.1, bt453.2.1, bt453.2.2))
theorem fraction_Sub.mono : ∀ a0 a1 a2 a3 k, LeO (fraction_Sub.f k a0 a1 a2 a3) (fraction_Sub.f (k + 1) a0 a1 a2 a3) := by
 intro a0 a1 a2 a3 k
 unfold fraction_Sub.f
 repeat' first
   | (with_reducible exact fraction_Add.mono _ _ _ _ _)
   | (with_reducible exact LeO.refl _)
   | (with_reducible exact LeO.none _)
   | (with_reducible refine LeO.ite ?_ ?_)
   | (with_reducible refine LeO.bind ?_ (fun _ => ?_))
   | exact fraction_Add.mono _ _ _ _ _
   | exact LeO.none _
   | refine LeO.ite ?_ ?_
   | refine LeO.bind ?_ (fun _ => ?_)
set_option maxHeartbeats 8000000 in
set_option maxRecDepth 100000 in
theorem fraction_Sub.calls (k : Nat) (a0_0 : Int) (a0_1 : Int) (a1_0 : Int) (a1_1 : Int) (r1 : Int) (r2 : Int) (r3 : Int) (w : World) (h : fraction_Sub.f k a0_0 a0_1 a1_0 a1_1 = some (r1, r2, r3)) :
  Calls Tryd.prog 39 #[.agg #[.int .i64 a0_0, .int .i64 a0_1], .agg #[.int .i64 a1_0, .int .i64 a1_1]] w fun e w' => e = .returned (.tuple #[.agg #[.int .i64 r1, .int .i64 r2], .int .i64 r3]) ∧ Below w.heap.size w w' := by
 have hu25 := Tryd.underlying25
 have HB := Aside0.mk (Below.refl w.heap.size w)
 have H : ((fraction_Add.f k a0_0 a0_1 (wrap64 (-a1_0)) a1_1).bind fun bt453 => (some (bt453.1, bt453.2.1, bt453.2.2))) = some (r1, r2, r3) := h
 clear h
 replace H := Option.bind_eq_some_iff.mp H
 obtain ⟨⟨t453, t454, t455⟩, A30, H⟩ := H
 replace H : (some (t453, t454, t455)) = some (r1, r2, r3) := H
 have A3 := Aside0.mk A30
 clear A30
 simp only [Option.some.injEq, Prod.mk.injEq] at H
 obtain ⟨rfl, rfl, rfl⟩ := H
 go_enter Tryd.func39, Tryd.ntmps39
 go_wp2_with (first | ((with_reducible refine gate_dst (N := 2) rfl ?_); refine box_event ?hg (N := 2) ?hd (cs := #[.int .i64 a0_0, .int .i64 a0_1]) (t := 25) ?hr ?_; (case hd => rfl); (case hg => rfl); (case hr => first | (go_simp; done) | (go_simp; rfl)); intro gb450 hg w4 hbox hb; have BK450 := Aside0.mk (hbox); have GW450 := Aside0.mk ((by rw [hg]; exact (below_size HB.out) : w.heap.size ≤ gb450)); have GE450 := Aside0.mk ((by rw [hg]; exact (below_size HB.out) : w.heap.size ≤ gb450)); replace HB := Aside0.mk (below_step HB.out hb); clear hb hbox hg) | ((with_reducible refine gate_dst (N := 3) rfl ?_); refine box_event ?hg (N := 3) ?hd (cs := #[.int .i64 a1_0, .int .i64 a1_1]) (t := 25) ?hr ?_; (case hd => rfl); (case hg => rfl); (case hr => first | (go_simp; done) | (go_simp; rfl)); intro gb451 hg w5 hbox hb; have BK451 := Aside0.mk (hbox); have GW451 := Aside0.mk ((by rw [hg]; exact (below_size HB.out) : w.heap.size ≤ gb451)); have GE451 := Aside0.mk ((by rw [hg]; exact (below_size HB.out) : w.heap.size ≤ gb451)); replace HB := Aside0.mk (below_step HB.out hb); have NB450_451 := Aside0.mk ((by rw [hg]; exact Nat.ne_of_lt (blk_lt BK450.out) : gb450 ≠ gb451)); have NB451_450 := Aside0.mk ((by rw [hg]; exact Nat.ne_of_gt (blk_lt BK450.out) : gb451 ≠ gb450)); replace BK450 := Aside0.mk (blk_below BK450.out hb); clear hb hbox hg) | ((with_reducible refine gate_dst (N := 4) rfl ?_); refine box_event ?hg (N := 4) ?hd (cs := #[.int .i64 0, .int .i64 0]) (t := 25) ?hr ?_; (case hd => rfl); (case hg => rfl); (case hr => first | (go_simp; done) | (go_simp; rfl)); intro gb452 hg w6 hbox hb; have BK452 := Aside0.mk (hbox); have GW452 := Aside0.mk ((by rw [hg]; exact (below_size HB.out) : w.heap.size ≤ gb452)); have GE452 := Aside0.mk ((by rw [hg]; exact (below_size HB.out) : w.heap.size ≤ gb452)); replace HB := Aside0.mk (below_step HB.out hb); have NB450_452 := Aside0.mk ((by rw [hg]; exact Nat.ne_of_lt (blk_lt BK450.out) : gb450 ≠ gb452)); have NB452_450 := Aside0.mk ((by rw [hg]; exact Nat.ne_of_gt (blk_lt BK450.out) : gb452 ≠ gb450)); replace BK450 := Aside0.mk (blk_below BK450.out hb); have NB451_452 := Aside0.mk ((by rw [hg]; exact Nat.ne_of_lt (blk_lt BK451.out) : gb451 ≠ gb452)); have NB452_451 := Aside0.mk ((by rw [hg]; exact Nat.ne_of_gt (blk_lt BK451.out) : gb452 ≠ gb451)); replace BK451 := Aside0.mk (blk_below BK451.out hb); clear hb hbox hg; have hnb7 := NB450_451.out; have hnc7 := NB451_450.out; have hnb8 := NB450_452.out; have hnc8 := NB452_450.out; have hcz9_0 : w6.cell? ⟨gb450, 0, none⟩ = some (.int .i64 a0_0) := (blk_cell BK450.out 0).trans rfl; have hcz9_1 : w6.cell? ⟨gb450, 1, none⟩ = some (.int .i64 a0_1) := (blk_cell BK450.out 1).trans rfl; have hfz9_0 := blk_frozen BK450.out 0; have hfz9_1 := blk_frozen BK450.out 1; have hnb10 := NB451_452.out; have hnc10 := NB452_451.out; have hcz11_0 : w6.cell? ⟨gb451, 0, none⟩ = some (.int .i64 a1_0) := (blk_cell BK451.out 0).trans rfl; have hcz11_1 : w6.cell? ⟨gb451, 1, none⟩ = some (.int .i64 a1_1) := (blk_cell BK451.out 1).trans rfl; have hfz11_0 := blk_frozen BK451.out 0; have hfz11_1 := blk_frozen BK451.out 1) | ((with_reducible refine gate_callee (f := 32) rfl ?_); refine goesL_ (some 13) rfl rfl Tryd.func32 (by kernel_rfl) rfl #[.agg #[.int .i64 a0_0, .int .i64 a0_1], .agg #[.int .i64 (wrap64 (-a1_0)), .int .i64 a1_1]] rfl (by (try simp only [List.map_toArray, List.map_cons, List.map_nil]); first | done | rfl | (simp only [List.length_drop, List.length_take]; rfl)) ?_; (with_reducible refine (fraction_Add.calls k a0_0 a0_1 (wrap64 (-a1_0)) a1_1 t453 t454 t455 _ A3.out).mono ?_); rintro e w12 ⟨rfl, hb⟩; refine ⟨_, rfl, ?_⟩; replace BK450 := Aside0.mk (blk_below BK450.out hb); replace BK451 := Aside0.mk (blk_below BK451.out hb); replace BK452 := Aside0.mk (blk_below BK452.out hb); replace HB := Aside0.mk (below_step HB.out hb); (try clear hb); (try clear A3); have hcz13_0 : w12.cell? ⟨gb452, 0, none⟩ = some (.int .i64 0) := (blk_cell BK452.out 0).trans rfl; have hcz13_1 : w12.cell? ⟨gb452, 1, none⟩ = some (.int .i64 0) := (blk_cell BK452.out 1).trans rfl; have hfz13_0 := blk_frozen BK452.out 0; have hfz13_1 := blk_frozen BK452.out 1))
 refine bodyPost_ret (results_ct rfl _ _ gb452 25 #[.int .i64 t453, .int .i64 t454] (0, 0) _ rfl (by (with_reducible repeat (first | refine blk_drewN ?_ _ | refine blk_drew ?_ | refine blk_alloc ?_ _)); refine blk_put (cs := #[.int .i64 t453, .int .i64 0]) ?_ 1 _ rfl; (with_reducible repeat (first | refine blk_drewN ?_ _ | refine blk_drew ?_ | refine blk_alloc ?_ _)); refine blk_put (cs := #[.int .i64 0, .int .i64 0]) ?_ 0 _ rfl; (with_reducible repeat (first | refine blk_drewN ?_ _ | refine blk_drew ?_ | refine blk_alloc ?_ _)); exact BK452.out) Tryd.underlying25 rfl (by kernel_rfl)) rfl ?_
 exact ⟨by first | rfl | (simp [errW_none, errW_some] <;> rfl) | (simp [*, errW_none, errW_some] <;> rfl), by repeat (first | (with_reducible first | exact HB.out | apply below_alloc | apply pw_below_drewN | apply below_drew1 | refine below_set ?_ GE450.out | refine below_set ?_ GE451.out | refine below_set ?_ GE452.out) | exact HB.out)⟩

/-! ### wireloomlaw02_sub: function 21 -/
def wireloomlaw02_sub.f (k : Nat) (a0_0 : Int) (a0_1 : Int) (a1_0 : Int) (a1_1 : Int) : Option (Int × Int × Int) := (fraction_Sub.f k a0_0 a0_1 a1_0 a1_1).bind fun bt459 => (some (bt459.1, bt459.2.1, bt459.2.2))
theorem wireloomlaw02_sub.mono : ∀ a0 a1 a2 a3 k, LeO (wireloomlaw02_sub.f k a0 a1 a2 a3) (wireloomlaw02_sub.f (k + 1) a0 a1 a2 a3) := by
 intro a0 a1 a2 a3 k
 unfold wireloomlaw02_sub.f
 repeat' first
   | (with_reducible exact fraction_Sub.mono _ _ _ _ _)
   | (with_reducible exact LeO.refl _)
   | (with_reducible exact LeO.none _)
   | (with_reducible refine LeO.ite ?_ ?_)
   | (with_reducible refine LeO.bind ?_ (fun _ => ?_))
   | exact fraction_Sub.mono _ _ _ _ _
   | exact LeO.none _
   | refine LeO.ite ?_ ?_
   | refine LeO.bind ?_ (fun _ => ?_)
set_option maxHeartbeats 8000000 in
set_option maxRecDepth 100000 in
theorem wireloomlaw02_sub.calls (k : Nat) (a0_0 : Int) (a0_1 : Int) (a1_0 : Int) (a1_1 : Int) (r1 : Int) (r2 : Int) (r3 : Int) (w : World) (h : wireloomlaw02_sub.f k a0_0 a0_1 a1_0 a1_1 = some (r1, r2, r3)) :
  Calls Tryd.prog 21 #[.agg #[.int .i64 a0_0, .int .i64 a0_1], .agg #[.int .i64 a1_0, .int .i64 a1_1]] w fun e w' => e = .returned (.agg #[.int .i64 r1, .int .i64 r2, .int .i64 r3]) ∧ Below w.heap.size w w' := by
 have hu25 := Tryd.underlying25
 have hu31 := Tryd.underlying31
 have HB := Aside0.mk (Below.refl w.heap.size w)
 have H : ((fraction_Sub.f k a0_0 a0_1 a1_0 a1_1).bind fun bt459 => (some (bt459.1, bt459.2.1, bt459.2.2))) = some (r1, r2, r3) := h
 clear h
 replace H := Option.bind_eq_some_iff.mp H
 obtain ⟨⟨t459, t460, t461⟩, A30, H⟩ := H
 replace H : (some (t459, t460, t461)) = some (r1, r2, r3) := H
 have A3 := Aside0.mk A30
 clear A30
 simp only [Option.some.injEq, Prod.mk.injEq] at H
 obtain ⟨rfl, rfl, rfl⟩ := H
 go_enter Tryd.func21, Tryd.ntmps21
 go_wp2_with (first | ((with_reducible refine gate_dst (N := 2) rfl ?_); refine box_event ?hg (N := 2) ?hd (cs := #[.int .i64 a0_0, .int .i64 a0_1]) (t := 25) ?hr ?_; (case hd => rfl); (case hg => rfl); (case hr => first | (go_simp; done) | (go_simp; rfl)); intro gb456 hg w4 hbox hb; have BK456 := Aside0.mk (hbox); have GW456 := Aside0.mk ((by rw [hg]; exact (below_size HB.out) : w.heap.size ≤ gb456)); have GE456 := Aside0.mk ((by rw [hg]; exact (below_size HB.out) : w.heap.size ≤ gb456)); replace HB := Aside0.mk (below_step HB.out hb); clear hb hbox hg) | ((with_reducible refine gate_dst (N := 3) rfl ?_); refine box_event ?hg (N := 3) ?hd (cs := #[.int .i64 a1_0, .int .i64 a1_1]) (t := 25) ?hr ?_; (case hd => rfl); (case hg => rfl); (case hr => first | (go_simp; done) | (go_simp; rfl)); intro gb457 hg w5 hbox hb; have BK457 := Aside0.mk (hbox); have GW457 := Aside0.mk ((by rw [hg]; exact (below_size HB.out) : w.heap.size ≤ gb457)); have GE457 := Aside0.mk ((by rw [hg]; exact (below_size HB.out) : w.heap.size ≤ gb457)); replace HB := Aside0.mk (below_step HB.out hb); have NB456_457 := Aside0.mk ((by rw [hg]; exact Nat.ne_of_lt (blk_lt BK456.out) : gb456 ≠ gb457)); have NB457_456 := Aside0.mk ((by rw [hg]; exact Nat.ne_of_gt (blk_lt BK456.out) : gb457 ≠ gb456)); replace BK456 := Aside0.mk (blk_below BK456.out hb); clear hb hbox hg) | ((with_reducible refine gate_dst (N := 4) rfl ?_); refine box_event ?hg (N := 4) ?hd (cs := #[.int .i64 0, .int .i64 0, .int .i64 0]) (t := 31) ?hr ?_; (case hd => rfl); (case hg => rfl); (case hr => first | (go_simp; done) | (go_simp; rfl)); intro gb458 hg w6 hbox hb; have BK458 := Aside0.mk (hbox); have GW458 := Aside0.mk ((by rw [hg]; exact (below_size HB.out) : w.heap.size ≤ gb458)); have GE458 := Aside0.mk ((by rw [hg]; exact (below_size HB.out) : w.heap.size ≤ gb458)); replace HB := Aside0.mk (below_step HB.out hb); have NB456_458 := Aside0.mk ((by rw [hg]; exact Nat.ne_of_lt (blk_lt BK456.out) : gb456 ≠ gb458)); have NB458_456 := Aside0.mk ((by rw [hg]; exact Nat.ne_of_gt (blk_lt BK456.out) : gb458 ≠ gb456)); replace BK456 := Aside0.mk (blk_below BK456.out hb); have NB457_458 := Aside0.mk ((by rw [hg]; exact Nat.ne_of_lt (blk_lt BK457.out) : gb457 ≠ gb458)); have NB458_457 := Aside0.mk ((by rw [hg]; exact Nat.ne_of_gt (blk_lt BK457.out) : gb458 ≠ gb457)); replace BK457 := Aside0.mk (blk_below BK457.out hb); clear hb hbox hg; have hnb7 := NB456_457.out; have hnc7 := NB457_456.out; have hnb8 := NB456_458.out; have hnc8 := NB458_456.out; have hcz9_0 : w6.cell? ⟨gb456, 0, none⟩ = some (.int .i64 a0_0) := (blk_cell BK456.out 0).trans rfl; have hcz9_1 : w6.cell? ⟨gb456, 1, none⟩ = some (.int .i64 a0_1) := (blk_cell BK456.out 1).trans rfl; have hfz9_0 := blk_frozen BK456.out 0; have hfz9_1 := blk_frozen BK456.out 1; have hnb10 := NB457_458.out; have hnc10 := NB458_457.out; have hcz11_0 : w6.cell? ⟨gb457, 0, none⟩ = some (.int .i64 a1_0) := (blk_cell BK457.out 0).trans rfl; have hcz11_1 : w6.cell? ⟨gb457, 1, none⟩ = some (.int .i64 a1_1) := (blk_cell BK457.out 1).trans rfl; have hfz11_0 := blk_frozen BK457.out 0; have hfz11_1 := blk_frozen BK457.out 1) | ((with_reducible refine gate_callee (f := 39) rfl ?_); refine goesL_ (some 10) rfl rfl Tryd.func39 (by kernel_rfl) rfl #[.agg #[.int .i64 a0_0, .int .i64 a0_1], .agg #[.int .i64 a1_0, .int .i64 a1_1]] rfl (by (try simp only [List.map_toArray, List.map_cons, List.map_nil]); first | done | rfl | (simp only [List.length_drop, List.length_take]; rfl)) ?_; (with_reducible refine (fraction_Sub.calls k a0_0 a0_1 a1_0 a1_1 t459 t460 t461 _ A3.out).mono ?_); rintro e w12 ⟨rfl, hb⟩; refine ⟨_, rfl, ?_⟩; replace BK456 := Aside0.mk (blk_below BK456.out hb); replace BK457 := Aside0.mk (blk_below BK457.out hb); replace BK458 := Aside0.mk (blk_below BK458.out hb); replace HB := Aside0.mk (below_step HB.out hb); (try clear hb); (try clear A3)) | ((with_reducible refine gate_dst (N := 5) rfl ?_); refine box_event ?hg (N := 5) ?hd (cs := #[.int .i64 0, .int .i64 0]) (t := 25) ?hr ?_; (case hd => rfl); (case hg => rfl); (case hr => first | (go_simp; done) | (go_simp; rfl)); intro gb462 hg w13 hbox hb; have BK462 := Aside0.mk (hbox); have GW462 := Aside0.mk ((by rw [hg]; exact (below_size HB.out) : w.heap.size ≤ gb462)); have GE462 := Aside0.mk ((by rw [hg]; exact (below_size HB.out) : w.heap.size ≤ gb462)); replace HB := Aside0.mk (below_step HB.out hb); have NB456_462 := Aside0.mk ((by rw [hg]; exact Nat.ne_of_lt (blk_lt BK456.out) : gb456 ≠ gb462)); have NB462_456 := Aside0.mk ((by rw [hg]; exact Nat.ne_of_gt (blk_lt BK456.out) : gb462 ≠ gb456)); replace BK456 := Aside0.mk (blk_below BK456.out hb); have NB457_462 := Aside0.mk ((by rw [hg]; exact Nat.ne_of_lt (blk_lt BK457.out) : gb457 ≠ gb462)); have NB462_457 := Aside0.mk ((by rw [hg]; exact Nat.ne_of_gt (blk_lt BK457.out) : gb462 ≠ gb457)); replace BK457 := Aside0.mk (blk_below BK457.out hb); have NB458_462 := Aside0.mk ((by rw [hg]; exact Nat.ne_of_lt (blk_lt BK458.out) : gb458 ≠ gb462)); have NB462_458 := Aside0.mk ((by rw [hg]; exact Nat.ne_of_gt (blk_lt BK458.out) : gb462 ≠ gb458)); replace BK458 := Aside0.mk (blk_below BK458.out hb); clear hb hbox hg; have hnb14 := NB462_456.out; have hnc14 := NB456_462.out; have hnb15 := NB462_457.out; have hnc15 := NB457_462.out; have hnb16 := NB462_458.out; have hnc16 := NB458_462.out; have hcz17_0 : w13.cell? ⟨gb462, 0, none⟩ = some (.int .i64 0) := (blk_cell BK462.out 0).trans rfl; have hcz17_1 : w13.cell? ⟨gb462, 1, none⟩ = some (.int .i64 0) := (blk_cell BK462.out 1).trans rfl; have hfz17_0 := blk_frozen BK462.out 0; have hfz17_1 := blk_frozen BK462.out 1; have hcz18_0 : w13.cell? ⟨gb458, 0, none⟩ = some (.int .i64 0) := (blk_cell BK458.out 0).trans rfl; have hcz18_1 : w13.cell? ⟨gb458, 1, none⟩ = some (.int .i64 0) := (blk_cell BK458.out 1).trans rfl; have hcz18_2 : w13.cell? ⟨gb458, 2, none⟩ = some (.int .i64 0) := (blk_cell BK458.out 2).trans rfl; have hfz18_0 := blk_frozen BK458.out 0; have hfz18_1 := blk_frozen BK458.out 1; have hfz18_2 := blk_frozen BK458.out 2))
 refine bodyPost_ret (results_cell_row rfl _ _ gb458 31 #[.int .i64 t459, .int .i64 t460, .int .i64 t461] (0, 0) _ rfl (by (with_reducible repeat (first | refine blk_drewN ?_ _ | refine blk_drew ?_ | refine blk_alloc ?_ _)); refine blk_put (cs := #[.int .i64 t459, .int .i64 t460, .int .i64 0]) ?_ 2 _ rfl; (with_reducible repeat (first | refine blk_drewN ?_ _ | refine blk_drew ?_ | refine blk_alloc ?_ _)); refine blk_put (cs := #[.int .i64 t459, .int .i64 0, .int .i64 0]) ?_ 1 _ rfl; (with_reducible repeat (first | refine blk_drewN ?_ _ | refine blk_drew ?_ | refine blk_alloc ?_ _)); refine blk_put (cs := #[.int .i64 0, .int .i64 0, .int .i64 0]) ?_ 0 _ rfl; repeat first | (with_reducible first | refine blk_drewN ?_ _ | refine blk_drew ?_ | refine blk_alloc ?_ _) | refine blk_far ?_ NB458_462.out _ | exact BK458.out) Tryd.underlying31 rfl (by kernel_rfl)) rfl ?_
 exact ⟨by first | rfl | (simp [errW_none, errW_some] <;> rfl) | (simp [*, errW_none, errW_some] <;> rfl), by repeat (first | (with_reducible first | exact HB.out | apply below_alloc | apply pw_below_drewN | apply below_drew1 | refine below_set ?_ GE456.out | refine below_set ?_ GE457.out | refine below_set ?_ GE458.out | refine below_set ?_ GE462.out) | exact HB.out)⟩

end Go.Proofs.YtndfjpnpdnnpkaaDoor.F
