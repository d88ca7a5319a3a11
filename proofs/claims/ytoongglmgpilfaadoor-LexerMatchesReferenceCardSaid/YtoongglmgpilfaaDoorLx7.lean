-- made by a program of this claim (wip/myprint.sh); Lean checks it
import Derived.Test.YtoongglmgpilfaaDoorLx0
import Derived.Test.YtoongglmgpilfaaDoorSt
import Derived.Test.YtoongglmgpilfaaDoorLx5
import Derived.Test.YtoongglmgpilfaaDoorLx6
import Derived.Test.YtoongglmgpilfaaDoorGiven
namespace Go.Proofs.YtoongglmgpilfaaDoor.L
open Go.RowKit Go.Proofs.YtoongglmgpilfaaDoorW.PrintWords Go.Proofs.YtoongglmgpilfaaDoorW.PrintLast Go.Proofs.YtoongglmgpilfaaDoorW.PrintMore
attribute [local go_sem] max2_int min2_int max_two min_two max_three min_three max_four min_four   -- for this text's walks alone
set_option linter.unusedVariables false
set_option linter.unusedSimpArgs false

/-! ### wireloomref08_LexIn: function 15 -/
mutual
def wireloomref08_LexIn.l0 : Nat → ByteArray → Int → List (S39) → Int → Int → Option ((List (S39)) × Int × Int)
 | 0, _, _, _, _, _ => none
 | k + 1, x0, x4, x205000, x205001, x205002 => if x4 < (x0.size : Int) then (wireloomref08_LexIn.l1 k x0 x4 x4 x205000 x205001 x205002) else (if x205000.length < 4398046511104 then (some ((x205000 ++ [(⟨4, (⟨#[]⟩ : ByteArray), (x0.size : Int)⟩ : S39)]), x205001, x205002)) else (none))
def wireloomref08_LexIn.j2 : Nat → ByteArray → Int → Int → List (S39) → Int → Int → Option ((List (S39)) × Int × Int)
 | 0, _, _, _, _, _, _ => none
 | k + 1, x0, x4, x5, x205000, x205001, x205002 => if 0 ≤ x4 then (if x4 ≤ x5 then (if x5 ≤ (x0.size : Int) then ((wireloomref08_kind.f k (x0.extract (x4 : Int).toNat (x5 : Int).toNat)).bind fun t210 => (if x5 = x4 then ((wireloomref08_sign.f k x0 x4).bind fun t211 => (if (wrap64 (x4 + t211)) = x4 then (some (([] : List (S39)), x4, 5)) else (if 3 = 0 then (some (([] : List (S39)), x4, 5)) else (if x4 ≤ (wrap64 (x4 + t211)) then (if (wrap64 (x4 + t211)) ≤ (x0.size : Int) then (if x205000.length < 4398046511104 then ((wireloomref08_blank.f k x0 (wrap64 (x4 + t211))).bind fun t215 => (wireloomref08_LexIn.l0 k x0 t215 (x205000 ++ [(⟨3, x0.extract (x4 : Int).toNat ((wrap64 (x4 + t211)) : Int).toNat, x4⟩ : S39)]) x205001 x205002)) else (none)) else (none)) else (none))))) else (if t210 = 0 then (some (([] : List (S39)), x4, 5)) else (if x205000.length < 4398046511104 then ((wireloomref08_blank.f k x0 x5).bind fun t219 => (wireloomref08_LexIn.l0 k x0 t219 (x205000 ++ [(⟨t210, x0.extract (x4 : Int).toNat (x5 : Int).toNat, x4⟩ : S39)]) x205001 x205002)) else (none))))) else (none)) else (none)) else (none)
def wireloomref08_LexIn.l1 : Nat → ByteArray → Int → Int → List (S39) → Int → Int → Option ((List (S39)) × Int × Int)
 | 0, _, _, _, _, _, _ => none
 | k + 1, x0, x4, x5, x205000, x205001, x205002 => if x5 < (x0.size : Int) then (if 0 ≤ x5 then ((wireloomref08_word.f (bt x0 x5)).bind fun t209 => (if t209 = true then (wireloomref08_LexIn.l1 k x0 x4 (wrap64 (x5 + 1)) x205000 x205001 x205002) else (wireloomref08_LexIn.j2 k x0 x4 x5 x205000 x205001 x205002))) else (none)) else (wireloomref08_LexIn.j2 k x0 x4 x5 x205000 x205001 x205002)
end
def wireloomref08_LexIn.f (k : Nat) (a0 : ByteArray) : Option ((List (S39)) × Int × Int) := if (a0.size : Int) > 8000 then (some (([] : List (S39)), 0, 2)) else ((wireloomref08_blank.f k a0 0).bind fun t205 => (wireloomref08_LexIn.l0 k a0 t205 ([] : List (S39)) 0 0))
theorem wireloomref08_LexIn.mono_l : ∀ k, (∀ y0 y1 y2 y3 y4, LeO (wireloomref08_LexIn.l0 k y0 y1 y2 y3 y4) (wireloomref08_LexIn.l0 (k + 1) y0 y1 y2 y3 y4)) ∧ (∀ y0 y1 y2 y3 y4 y5, LeO (wireloomref08_LexIn.j2 k y0 y1 y2 y3 y4 y5) (wireloomref08_LexIn.j2 (k + 1) y0 y1 y2 y3 y4 y5)) ∧ (∀ y0 y1 y2 y3 y4 y5, LeO (wireloomref08_LexIn.l1 k y0 y1 y2 y3 y4 y5) (wireloomref08_LexIn.l1 (k + 1) y0 y1 y2 y3 y4 y5))
 | 0 => ⟨fun _ _ _ _ _ r h => by simp [wireloomref08_LexIn.l0] at h, fun _ _ _ _ _ _ r h => by simp [wireloomref08_LexIn.j2] at h, fun _ _ _ _ _ _ r h => by simp [wireloomref08_LexIn.l1] at h⟩
 | k + 1 => by
  obtain ⟨ih0, ih1, ih2⟩ := wireloomref08_LexIn.mono_l k
  refine ⟨?_, ?_, ?_⟩
  ·intro y0 y1 y2 y3 y4
   unfold wireloomref08_LexIn.l0
   repeat' first
   | (with_reducible exact ih0 _ _ _ _ _)
   | (with_reducible exact ih1 _ _ _ _ _ _)
   | (with_reducible exact ih2 _ _ _ _ _ _)
   | (with_reducible exact wireloomref08_blank.mono _ _ _)
   | (with_reducible exact wireloomref08_kind.mono _ _)
   | (with_reducible exact wireloomref08_sign.mono _ _ _)
   | (with_reducible exact LeO.refl _)
   | (with_reducible exact LeO.none _)
   | (with_reducible refine LeO.ite ?_ ?_)
   | (with_reducible refine LeO.bind ?_ (fun _ => ?_))
   | exact ih0 _ _ _ _ _
   | exact ih1 _ _ _ _ _ _
   | exact ih2 _ _ _ _ _ _
   | exact wireloomref08_blank.mono _ _ _
   | exact wireloomref08_kind.mono _ _
   | exact wireloomref08_sign.mono _ _ _
   | exact LeO.none _
   | refine LeO.ite ?_ ?_
   | refine LeO.bind ?_ (fun _ => ?_)
  ·intro y0 y1 y2 y3 y4 y5
   unfold wireloomref08_LexIn.j2
   repeat' first
   | (with_reducible exact ih0 _ _ _ _ _)
   | (with_reducible exact ih1 _ _ _ _ _ _)
   | (with_reducible exact ih2 _ _ _ _ _ _)
   | (with_reducible exact wireloomref08_blank.mono _ _ _)
   | (with_reducible exact wireloomref08_kind.mono _ _)
   | (with_reducible exact wireloomref08_sign.mono _ _ _)
   | (with_reducible exact LeO.refl _)
   | (with_reducible exact LeO.none _)
   | (with_reducible refine LeO.ite ?_ ?_)
   | (with_reducible refine LeO.bind ?_ (fun _ => ?_))
   | exact ih0 _ _ _ _ _
   | exact ih1 _ _ _ _ _ _
   | exact ih2 _ _ _ _ _ _
   | exact wireloomref08_blank.mono _ _ _
   | exact wireloomref08_kind.mono _ _
   | exact wireloomref08_sign.mono _ _ _
   | exact LeO.none _
   | refine LeO.ite ?_ ?_
   | refine LeO.bind ?_ (fun _ => ?_)
  ·intro y0 y1 y2 y3 y4 y5
   unfold wireloomref08_LexIn.l1
   repeat' first
   | (with_reducible exact ih0 _ _ _ _ _)
   | (with_reducible exact ih1 _ _ _ _ _ _)
   | (with_reducible exact ih2 _ _ _ _ _ _)
   | (with_reducible exact wireloomref08_blank.mono _ _ _)
   | (with_reducible exact wireloomref08_kind.mono _ _)
   | (with_reducible exact wireloomref08_sign.mono _ _ _)
   | (with_reducible exact LeO.refl _)
   | (with_reducible exact LeO.none _)
   | (with_reducible refine LeO.ite ?_ ?_)
   | (with_reducible refine LeO.bind ?_ (fun _ => ?_))
   | exact ih0 _ _ _ _ _
   | exact ih1 _ _ _ _ _ _
   | exact ih2 _ _ _ _ _ _
   | exact wireloomref08_blank.mono _ _ _
   | exact wireloomref08_kind.mono _ _
   | exact wireloomref08_sign.mono _ _ _
   | exact LeO.none _
   | refine LeO.ite ?_ ?_
   | refine LeO.bind ?_ (fun _ => ?_)
theorem wireloomref08_LexIn.mono : ∀ a0 k, LeO (wireloomref08_LexIn.f k a0) (wireloomref08_LexIn.f (k + 1) a0) := by
 intro a0 k
 obtain ⟨ih0, ih1, ih2⟩ := wireloomref08_LexIn.mono_l k
 unfold wireloomref08_LexIn.f
 repeat' first
   | (with_reducible exact ih0 _ _ _ _ _)
   | (with_reducible exact ih1 _ _ _ _ _ _)
   | (with_reducible exact ih2 _ _ _ _ _ _)
   | (with_reducible exact wireloomref08_blank.mono _ _ _)
   | (with_reducible exact wireloomref08_kind.mono _ _)
   | (with_reducible exact wireloomref08_sign.mono _ _ _)
   | (with_reducible exact LeO.refl _)
   | (with_reducible exact LeO.none _)
   | (with_reducible refine LeO.ite ?_ ?_)
   | (with_reducible refine LeO.bind ?_ (fun _ => ?_))
   | exact ih0 _ _ _ _ _
   | exact ih1 _ _ _ _ _ _
   | exact ih2 _ _ _ _ _ _
   | exact wireloomref08_blank.mono _ _ _
   | exact wireloomref08_kind.mono _ _
   | exact wireloomref08_sign.mono _ _ _
   | exact LeO.none _
   | refine LeO.ite ?_ ?_
   | refine LeO.bind ?_ (fun _ => ?_)
def wireloomref08_LexIn.T15 : Bool × List (List Nat × List Nat) := (true, [([], []), ([0], [0]), ([], []), ([], []), ([], []), ([], []), ([3, 4, 5], [3, 4, 5]), ([], []), ([2, 6, 7], [2, 6, 7]), ([8], [8]), ([1, 9], [1, 9]), ([0, 1, 2, 3, 4, 5, 6, 7, 8, 9, 10], []), ([11, 10, 10, 0, 1, 2, 3, 4, 5, 6, 7, 8, 9, 10], [10, 11])])
def wireloomref08_LexIn.B15 : List Nat := [0, 1, 0, 0, 0, 0, 56, 0, 252, 508, 1023, 2047, 4095]
theorem wireloomref08_LexIn.tab15 : rtab .any (opsOf Tryd.f15 15) = wireloomref08_LexIn.T15 := by kernel_rfl
theorem wireloomref08_LexIn.bits15 : waitsOk wireloomref08_LexIn.T15.2 wireloomref08_LexIn.B15 = true := by kernel_rfl
set_option maxHeartbeats 8000000 in
set_option maxRecDepth 100000 in
theorem wireloomref08_LexIn.calls (k : Nat) (a0 : ByteArray) (r1 : List (S39)) (r2 : Int) (r3 : Int) (w : World) (h : wireloomref08_LexIn.f k a0 = some (r1, r2, r3)) :
  Calls Tryd.prog 15 #[.string a0] w fun e w' => ∃ v0_ : Value, e = .returned (.agg #[v0_, .int .i64 r2, .int .i64 r3]) ∧ Kd.R k39 39 w' w.heap.size (fun _ => True) v0_ r1 ∧ Below w.heap.size w w' := by
 have hu29 := Tryd.underlying29
 have hu39 := Tryd.underlying39
 have HB := Aside0.mk (Below.refl w.heap.size w)
 have H : (if (a0.size : Int) > 8000 then (some (([] : List (S39)), 0, 2)) else ((wireloomref08_blank.f k a0 0).bind fun t205 => (wireloomref08_LexIn.l0 k a0 t205 ([] : List (S39)) 0 0))) = some (r1, r2, r3) := h
 clear h
 by_cases c2 : (a0.size : Int) > 8000
 ·rw [if_pos c2] at H
  have c2b0 : decide (8000 < (a0.size : Int)) = true := decide_eq_true c2
  have c2b1 : decide (8000 < a0.size) = true := decide_eq_true (by omega)
  clear c2
  simp only [Option.some.injEq, Prod.mk.injEq] at H
  obtain ⟨rfl, rfl, rfl⟩ := H
  go_enter Tryd.func15, Tryd.ntmps15
  go_wp2_with (first | ((with_reducible refine gate_dst (N := 2) rfl ?_); refine box_event ?hg (N := 2) ?hd (cs := #[.slice none 0 0, .int .i64 0, .int .i64 0]) (t := 29) ?hr ?_; (case hd => rfl); (case hg => rfl); (case hr => first | (go_simp; done) | (go_simp; rfl)); intro gb203 hg w3 hbox hb; have n0_ := Aside0.mk (below_step (by repeat (first | (with_reducible first | exact HB.out | apply below_alloc | apply pw_below_drewN | apply below_drew1) | exact HB.out)) hb); have n1_ := Aside0.mk (hbox); have n2_ := Aside0.mk ((by rw [hg]; exact (below_size (by repeat (first | (with_reducible first | exact HB.out | apply below_alloc | apply pw_below_drewN | apply below_drew1) | exact HB.out))) : w.heap.size ≤ gb203)); have n3_ := Aside0.mk ((by rw [hg]; exact (below_size (by repeat (first | (with_reducible first | exact HB.out | apply below_alloc | apply pw_below_drewN | apply below_drew1) | exact HB.out))) : w.heap.size ≤ gb203)); clear HB; have HB := n0_; have BK203 := n1_; have GW203 := n2_; have GE203 := n3_; clear n0_ n1_ n2_ n3_; clear hb hbox hg; have hcz4_0 : w3.cell? ⟨gb203, 0, none⟩ = some (.slice none 0 0) := (blk_cell BK203.out 0).trans rfl; have hcz4_1 : w3.cell? ⟨gb203, 1, none⟩ = some (.int .i64 0) := (blk_cell BK203.out 1).trans rfl; have hcz4_2 : w3.cell? ⟨gb203, 2, none⟩ = some (.int .i64 0) := (blk_cell BK203.out 2).trans rfl; have hfz4_0 := blk_frozen BK203.out 0; have hfz4_1 := blk_frozen BK203.out 1; have hfz4_2 := blk_frozen BK203.out 2))
  refine bodyPost_ret (results_cell_row rfl _ _ gb203 29 #[.slice none 0 0, .int .i64 0, .int .i64 2] (0, 0) _ rfl (by (with_reducible repeat (first | refine blk_drewN ?_ _ | refine blk_drew ?_ | refine blk_alloc ?_ _)); refine blk_put (cs := #[.slice none 0 0, .int .i64 0, .int .i64 0]) ?_ 2 _ rfl; (with_reducible repeat (first | refine blk_drewN ?_ _ | refine blk_drew ?_ | refine blk_alloc ?_ _)); refine blk_put (cs := #[.slice none 0 0, .int .i64 0, .int .i64 0]) ?_ 1 _ rfl; (with_reducible repeat (first | refine blk_drewN ?_ _ | refine blk_drew ?_ | refine blk_alloc ?_ _)); refine blk_put (cs := #[.slice none 0 0, .int .i64 0, .int .i64 0]) ?_ 0 _ rfl; (with_reducible repeat (first | refine blk_drewN ?_ _ | refine blk_drew ?_ | refine blk_alloc ?_ _)); exact BK203.out) Tryd.underlying29 rfl (by kernel_rfl)) rfl ?_
  exact ⟨_, by first | rfl | (simp [errW_none, errW_some] <;> rfl) | (simp [*, errW_none, errW_some] <;> rfl), by first | exact Kd.R_nil _ _ _ _ _ | exact Kd.N_nil _ _ _ _ _ | exact Kd.V_nil _ _ _ _ _ | exact Kd.Q_nil _ _ _ _ _ | exact Kd.S_nil _ _ _ _ _, by repeat (first | (with_reducible first | exact HB.out | apply below_alloc | apply pw_below_drewN | apply below_drew1 | refine below_set ?_ GE203.out) | exact HB.out)⟩
 ·rw [if_neg c2] at H
  have c2b0 : decide (8000 < (a0.size : Int)) = false := decide_eq_false c2
  have c2b1 : decide (8000 < a0.size) = false := decide_eq_false (by omega)
  clear c2
  replace H := Option.bind_eq_some_iff.mp H
  obtain ⟨t205, A50, H⟩ := H
  replace H : (wireloomref08_LexIn.l0 k a0 t205 ([] : List (S39)) 0 0) = some (r1, r2, r3) := H
  have A5 := Aside0.mk A50
  clear A50
  have H' := Aside0.mk H
  clear H
  go_enter Tryd.func15, Tryd.ntmps15
  go_wp2_with (first | ((with_reducible refine gate_dst (N := 2) rfl ?_); refine box_event ?hg (N := 2) ?hd (cs := #[.slice none 0 0, .int .i64 0, .int .i64 0]) (t := 29) ?hr ?_; (case hd => rfl); (case hg => rfl); (case hr => first | (go_simp; done) | (go_simp; rfl)); intro gb203 hg w6 hbox hb; have n0_ := Aside0.mk (below_step (by repeat (first | (with_reducible first | exact HB.out | apply below_alloc | apply pw_below_drewN | apply below_drew1) | exact HB.out)) hb); have n1_ := Aside0.mk (hbox); have n2_ := Aside0.mk ((by rw [hg]; exact (below_size (by repeat (first | (with_reducible first | exact HB.out | apply below_alloc | apply pw_below_drewN | apply below_drew1) | exact HB.out))) : w.heap.size ≤ gb203)); have n3_ := Aside0.mk ((by rw [hg]; exact (below_size (by repeat (first | (with_reducible first | exact HB.out | apply below_alloc | apply pw_below_drewN | apply below_drew1) | exact HB.out))) : w.heap.size ≤ gb203)); clear HB; have HB := n0_; have BK203 := n1_; have GW203 := n2_; have GE203 := n3_; clear n0_ n1_ n2_ n3_; clear hb hbox hg) | ((with_reducible refine gate_dst (N := 3) rfl ?_); refine box_event ?hg (N := 3) ?hd (cs := #[.slice none 0 0, .int .i64 0, .int .i64 0]) (t := 29) ?hr ?_; (case hd => rfl); (case hg => rfl); (case hr => first | (go_simp; done) | (go_simp; rfl)); intro gb204 hg w7 hbox hb; have n0_ := Aside0.mk (blk_below (g := gb203) (o := .cells #[.slice none 0 0, .int .i64 0, .int .i64 0] 29 (0, 0)) (by (with_reducible repeat (first | refine blk_drewN ?_ _ | refine blk_drew ?_ | refine blk_alloc ?_ _)); exact BK203.out) hb); have n1_ := Aside0.mk (below_step (by repeat (first | (with_reducible first | exact HB.out | apply below_alloc | apply pw_below_drewN | apply below_drew1 | refine below_set ?_ GE203.out) | exact HB.out)) hb); have n2_ := Aside0.mk (hbox); have n3_ := Aside0.mk ((by rw [hg]; exact (below_size (by repeat (first | (with_reducible first | exact HB.out | apply below_alloc | apply pw_below_drewN | apply below_drew1 | refine below_set ?_ GE203.out) | exact HB.out))) : w.heap.size ≤ gb204)); have n4_ := Aside0.mk ((by rw [hg]; exact (below_size (by repeat (first | (with_reducible first | exact HB.out | apply below_alloc | apply pw_below_drewN | apply below_drew1 | refine below_set ?_ GE203.out) | exact HB.out))) : w.heap.size ≤ gb204)); have n5_ := Aside0.mk ((by rw [hg]; exact Nat.ne_of_lt (blk_lt (g := gb203) (o := .cells #[.slice none 0 0, .int .i64 0, .int .i64 0] 29 (0, 0)) (by (with_reducible repeat (first | refine blk_drewN ?_ _ | refine blk_drew ?_ | refine blk_alloc ?_ _)); exact BK203.out)) : gb203 ≠ gb204)); have n6_ := Aside0.mk ((by rw [hg]; exact Nat.ne_of_gt (blk_lt (g := gb203) (o := .cells #[.slice none 0 0, .int .i64 0, .int .i64 0] 29 (0, 0)) (by (with_reducible repeat (first | refine blk_drewN ?_ _ | refine blk_drew ?_ | refine blk_alloc ?_ _)); exact BK203.out)) : gb204 ≠ gb203)); clear BK203; clear HB; have BK203 := n0_; have HB := n1_; have BK204 := n2_; have GW204 := n3_; have GE204 := n4_; have NB203_204 := n5_; have NB204_203 := n6_; clear n0_ n1_ n2_ n3_ n4_ n5_ n6_; clear hb hbox hg; have hnb8 := NB204_203.out; have hnc8 := NB203_204.out; have hcz9_0 : w7.cell? ⟨gb204, 0, none⟩ = some (.slice none 0 0) := (blk_cell BK204.out 0).trans rfl; have hcz9_1 : w7.cell? ⟨gb204, 1, none⟩ = some (.int .i64 0) := (blk_cell BK204.out 1).trans rfl; have hcz9_2 : w7.cell? ⟨gb204, 2, none⟩ = some (.int .i64 0) := (blk_cell BK204.out 2).trans rfl; have hfz9_0 := blk_frozen BK204.out 0; have hfz9_1 := blk_frozen BK204.out 1; have hfz9_2 := blk_frozen BK204.out 2) | ((with_reducible refine gate_callee (f := 27) rfl ?_); refine goesL_ (some 13) rfl rfl Tryd.func27 (by kernel_rfl) rfl #[.string a0, .int .i64 0] rfl (by (try simp only [List.map_toArray, List.map_cons, List.map_nil]); first | done | rfl | (simp only [List.length_drop, List.length_take]; rfl)) ?_; (with_reducible refine (wireloomref08_blank.calls k a0 0 t205 _ A5.out).mono ?_); rintro e w' ⟨rfl, ⟨nd, rfl⟩⟩; refine ⟨_, rfl, ?_⟩))
  go_loopg [4] k (fun kq v4 w' => ∃ (x4_1 : Int) (x204001_1 : Int) (x204002_1 : Int) (x205000_1 : List (S39)) (u205000 : Value), v4 = .int .i64 x4_1 ∧ Aside0 (wireloomref08_LexIn.l0 kq a0 x4_1 x205000_1 0 0 = some (r1, r2, r3)) ∧ Aside0 (kq ≤ k) ∧ Aside0 (Kd.R k39 39 w' w.heap.size (fun _ => True) u205000 x205000_1) ∧ Aside0 (w'.heap[gb203]? = some (.cells #[(.slice none 0 0), .int .i64 x204001_1, .int .i64 x204002_1] 29 (0, 0))) ∧ Aside0 (w'.heap[gb204]? = some (.cells #[u205000, .int .i64 0, .int .i64 0] 29 (0, 0))) ∧ Aside0 (Below w.heap.size w w'))
  case atStart => exact ⟨(t205), (0), (0), (([] : List (S39))), (.slice none 0 0), (by first | rfl | (simp; done) | (simp [*]; done)), H', ⟨Nat.le_refl _⟩, ⟨by first | exact Kd.R_nil _ _ _ _ _ | exact Kd.N_nil _ _ _ _ _ | exact Kd.V_nil _ _ _ _ _ | exact Kd.Q_nil _ _ _ _ _ | exact Kd.S_nil _ _ _ _ _⟩, ⟨by (with_reducible repeat (first | refine blk_drewN ?_ _ | refine blk_drew ?_ | refine blk_alloc ?_ _)); refine blk_far ?_ NB203_204.out _; (with_reducible repeat (first | refine blk_drewN ?_ _ | refine blk_drew ?_ | refine blk_alloc ?_ _)); refine blk_far ?_ NB203_204.out _; (with_reducible repeat (first | refine blk_drewN ?_ _ | refine blk_drew ?_ | refine blk_alloc ?_ _)); refine blk_far ?_ NB203_204.out _; (with_reducible repeat (first | refine blk_drewN ?_ _ | refine blk_drew ?_ | refine blk_alloc ?_ _)); exact BK203.out⟩, ⟨by (with_reducible repeat (first | refine blk_drewN ?_ _ | refine blk_drew ?_ | refine blk_alloc ?_ _)); refine blk_put (cs := #[.slice none 0 0, .int .i64 0, .int .i64 0]) ?_ 2 _ rfl; (with_reducible repeat (first | refine blk_drewN ?_ _ | refine blk_drew ?_ | refine blk_alloc ?_ _)); refine blk_put (cs := #[.slice none 0 0, .int .i64 0, .int .i64 0]) ?_ 1 _ rfl; (with_reducible repeat (first | refine blk_drewN ?_ _ | refine blk_drew ?_ | refine blk_alloc ?_ _)); refine blk_put (cs := #[.slice none 0 0, .int .i64 0, .int .i64 0]) ?_ 0 _ rfl; (with_reducible repeat (first | refine blk_drewN ?_ _ | refine blk_drew ?_ | refine blk_alloc ?_ _)); exact BK204.out⟩, ⟨by repeat (first | (with_reducible first | exact HB.out | apply below_alloc | apply pw_below_drewN | apply below_drew1 | refine below_set ?_ GE203.out | refine below_set ?_ GE204.out) | exact HB.out)⟩⟩
  case round =>
   clear H'
   try clear c1
   try clear c2
   try clear c2b0
   try clear c2b1
   try clear p2
   try clear c8
   try clear hcz4_0
   try clear hcz4_1
   try clear hcz4_2
   try clear hcz9_0
   try clear hcz9_1
   try clear hcz9_2
   try clear hfz4_0
   try clear hfz4_1
   try clear hfz4_2
   try clear hfz9_0
   try clear hfz9_1
   try clear hfz9_2
   obtain ⟨x4_1, x204001_1, x204002_1, x205000_1, u205000, rfl, HA, HK1, HO_205000, BK203, BK204, HB⟩ := hrel
   cases gk with
   | zero => exact absurd HA.out (by simp [wireloomref08_LexIn.l0])
   | succ k1 =>
    have H := HA.out
    clear HA
    simp only [wireloomref08_LexIn.l0] at H
    by_cases c10 : x4_1 < (a0.size : Int)
    ·rw [if_pos c10] at H
     have c10b0 : decide (x4_1 < (a0.size : Int)) = true := decide_eq_true c10
     clear c10
     have HC11 := Aside0.mk H
     clear H
     go_upto_block 2 with (fail)
     go_cut [5] (fun v5 wc => ∃ (kq : Nat) (x5_10 : Int), v5 = .int .i64 x5_10 ∧ Aside0 (wireloomref08_LexIn.j2 kq a0 x4_1 x5_10 x205000_1 0 0 = some (r1, r2, r3)) ∧ Aside0 (kq ≤ k1) ∧ Aside0 (Kd.R k39 39 wc w.heap.size (fun _ => True) u205000 x205000_1) ∧ Aside0 (wc.heap[gb203]? = some (.cells #[(.slice none 0 0), .int .i64 x204001_1, .int .i64 x204002_1] 29 (0, 0))) ∧ Aside0 (wc.heap[gb204]? = some (.cells #[u205000, .int .i64 0, .int .i64 0] 29 (0, 0))) ∧ Aside0 (Below w.heap.size w wc))
     case first =>
      have H := HC11.out
      clear HC11
      have H' := Aside0.mk H
      clear H
      go_wp2
      go_loopg [5] k1 (fun kq v5 w' => ∃ (x5_2 : Int), v5 = .int .i64 x5_2 ∧ Aside0 (wireloomref08_LexIn.l1 kq a0 x4_1 x5_2 x205000_1 0 0 = some (r1, r2, r3)) ∧ Aside0 (kq ≤ k1) ∧ Aside0 (Kd.R k39 39 w' w.heap.size (fun _ => True) u205000 x205000_1) ∧ Aside0 (w'.heap[gb203]? = some (.cells #[(.slice none 0 0), .int .i64 x204001_1, .int .i64 x204002_1] 29 (0, 0))) ∧ Aside0 (w'.heap[gb204]? = some (.cells #[u205000, .int .i64 0, .int .i64 0] 29 (0, 0))) ∧ Aside0 (Below w.heap.size w w'))
      case atStart => exact ⟨(x4_1), (by first | rfl | (simp; done) | (simp [*]; done)), H', ⟨Nat.le_refl _⟩, ⟨by (with_reducible repeat (first | apply Kd.R_alloc | apply Kd.R_drewN | apply Kd.R_drew)); exact HO_205000.out⟩, ⟨by (with_reducible repeat (first | refine blk_drewN ?_ _ | refine blk_drew ?_ | refine blk_alloc ?_ _)); exact BK203.out⟩, ⟨by (with_reducible repeat (first | refine blk_drewN ?_ _ | refine blk_drew ?_ | refine blk_alloc ?_ _)); exact BK204.out⟩, ⟨by repeat (first | (with_reducible first | exact HB.out | apply below_alloc | apply pw_below_drewN | apply below_drew1 | refine below_set ?_ GE203.out | refine below_set ?_ GE204.out) | exact HB.out)⟩⟩
      case round =>
       clear H'
       try clear c1
       try clear c2
       try clear c2b0
       try clear c2b1
       try clear p2
       try clear c8
       try clear c10
       try clear c10b0
       try clear hcz4_0
       try clear hcz4_1
       try clear hcz4_2
       try clear hcz9_0
       try clear hcz9_1
       try clear hcz9_2
       try clear hfz4_0
       try clear hfz4_1
       try clear hfz4_2
       try clear hfz9_0
       try clear hfz9_1
       try clear hfz9_2
       try clear p2
       obtain ⟨x5_2, rfl, HA, HK2, HO_205000, BK203, BK204, HB⟩ := hrel
       cases gk with
       | zero => exact absurd HA.out (by simp [wireloomref08_LexIn.l1])
       | succ k2 =>
        have H := HA.out
        clear HA
        simp only [wireloomref08_LexIn.l1] at H
        by_cases c12 : x5_2 < (a0.size : Int)
        ·rw [if_pos c12] at H
         have c12b0 : decide (x5_2 < (a0.size : Int)) = true := decide_eq_true c12
         clear c12
         (first | rw [c12b0] | (simp only [i64_w, i32_w]; rw [c12b0]) | skip)
         by_cases c13 : 0 ≤ x5_2
         ·rw [if_pos c13] at H
          have c13b0 : decide (0 ≤ x5_2) = true := decide_eq_true c13
          clear c13
          replace H := Option.bind_eq_some_iff.mp H
          obtain ⟨t209, A150, H⟩ := H
          replace H : (if t209 = true then (wireloomref08_LexIn.l1 k2 a0 x4_1 (wrap64 (x5_2 + 1)) x205000_1 0 0) else (wireloomref08_LexIn.j2 k2 a0 x4_1 x5_2 x205000_1 0 0)) = some (r1, r2, r3) := H
          have A15 := Aside0.mk A150
          clear A150
          by_cases c16 : t209 = true
          ·subst c16
           have H1 : (wireloomref08_LexIn.l1 k2 a0 x4_1 (wrap64 (x5_2 + 1)) x205000_1 0 0) = some (r1, r2, r3) := by rw [if_pos rfl] at H; exact H
           clear H
           have H := H1
           clear H1
           have H' := Aside0.mk H
           clear H
           have p14 : 0 ≤ (x5_2 : Int) := of_decide_eq_true (by first | (with_reducible assumption) | assumption)
           have q14 : x5_2 < (a0.size : Int) := of_decide_eq_true (by first | (with_reducible assumption) | assumption)
           have hx14 := bt_at a0 x5_2
           replace p14 := eq_true p14
           replace q14 := eq_true q14
           go_wp2_with (first | (go_at_call 28; (with_reducible refine (wireloomref08_word.calls (bt a0 x5_2) true _ A15.out).mono ?_); rintro e w' ⟨rfl, ⟨nd, rfl⟩⟩))
           go_roundg k2
           case measure => have := HK1.out; have := HK2.out; omega
           case rel => exact ⟨(wrap64 (x5_2 + 1)), (by first | rfl | (simp; done) | (simp [*]; done)), H', ⟨by have := HK1.out; have := HK2.out; omega⟩, ⟨by (with_reducible repeat (first | apply Kd.R_alloc | apply Kd.R_drewN | apply Kd.R_drew)); exact HO_205000.out⟩, ⟨by (with_reducible repeat (first | refine blk_drewN ?_ _ | refine blk_drew ?_ | refine blk_alloc ?_ _)); exact BK203.out⟩, ⟨by (with_reducible repeat (first | refine blk_drewN ?_ _ | refine blk_drew ?_ | refine blk_alloc ?_ _)); exact BK204.out⟩, ⟨by repeat (first | (with_reducible first | exact HB.out | apply below_alloc | apply pw_below_drewN | apply below_drew1 | refine below_set ?_ GE203.out | refine below_set ?_ GE204.out) | exact HB.out)⟩⟩
          ·replace c16 := Bool.eq_false_iff.mpr c16
           subst c16
           have H1 : (wireloomref08_LexIn.j2 k2 a0 x4_1 x5_2 x205000_1 0 0) = some (r1, r2, r3) := by rw [if_neg (show ¬ (false = true) by decide)] at H; exact H
           clear H
           have H := H1
           clear H1
           have H' := Aside0.mk H
           clear H
           have p14 : 0 ≤ (x5_2 : Int) := of_decide_eq_true (by first | (with_reducible assumption) | assumption)
           have q14 : x5_2 < (a0.size : Int) := of_decide_eq_true (by first | (with_reducible assumption) | assumption)
           have hx14 := bt_at a0 x5_2
           replace p14 := eq_true p14
           replace q14 := eq_true q14
           go_wp2_with (first | (go_at_call 28; (with_reducible refine (wireloomref08_word.calls (bt a0 x5_2) false _ A15.out).mono ?_); rintro e w' ⟨rfl, ⟨nd, rfl⟩⟩))
           go_meet
           case rel => exact ⟨_, (x5_2), (by first | rfl | (simp; done) | (simp [*]; done)), H', ⟨by have := HK1.out; have := HK2.out; first | omega | exact Nat.le_refl _⟩, ⟨by (with_reducible repeat (first | apply Kd.R_alloc | apply Kd.R_drewN | apply Kd.R_drew)); exact HO_205000.out⟩, ⟨by (with_reducible repeat (first | refine blk_drewN ?_ _ | refine blk_drew ?_ | refine blk_alloc ?_ _)); exact BK203.out⟩, ⟨by (with_reducible repeat (first | refine blk_drewN ?_ _ | refine blk_drew ?_ | refine blk_alloc ?_ _)); exact BK204.out⟩, ⟨by repeat (first | (with_reducible first | exact HB.out | apply below_alloc | apply pw_below_drewN | apply below_drew1 | refine below_set ?_ GE203.out | refine below_set ?_ GE204.out) | exact HB.out)⟩⟩
         ·rw [if_neg c13] at H
          exact absurd H (by simp)
        ·rw [if_neg c12] at H
         have c12b0 : decide (x5_2 < (a0.size : Int)) = false := decide_eq_false c12
         clear c12
         (first | rw [c12b0] | (simp only [i64_w, i32_w]; rw [c12b0]) | skip)
         have H' := Aside0.mk H
         clear H
         go_wp2
         go_meet
         case rel => exact ⟨_, (x5_2), (by first | rfl | (simp; done) | (simp [*]; done)), H', ⟨by have := HK1.out; have := HK2.out; first | omega | exact Nat.le_refl _⟩, ⟨by (with_reducible repeat (first | apply Kd.R_alloc | apply Kd.R_drewN | apply Kd.R_drew)); exact HO_205000.out⟩, ⟨by (with_reducible repeat (first | refine blk_drewN ?_ _ | refine blk_drew ?_ | refine blk_alloc ?_ _)); exact BK203.out⟩, ⟨by (with_reducible repeat (first | refine blk_drewN ?_ _ | refine blk_drew ?_ | refine blk_alloc ?_ _)); exact BK204.out⟩, ⟨by repeat (first | (with_reducible first | exact HB.out | apply below_alloc | apply pw_below_drewN | apply below_drew1 | refine below_set ?_ GE203.out | refine below_set ?_ GE204.out) | exact HB.out)⟩⟩
     case rest =>
      clear HC11
      try clear c1
      try clear p1
      try clear q1
      try clear hx1
      try clear c2
      try clear c2b0
      try clear c2b1
      try clear p2
      try clear p6
      try clear c8
      try clear c10
      try clear c10b0
      try clear c12
      try clear c12b0
      try clear c13
      try clear c13b0
      try clear p14
      try clear q14
      try clear hx14
      try clear c15
      try clear c16
      try clear hcz4_0
      try clear hcz4_1
      try clear hcz4_2
      try clear hcz9_0
      try clear hcz9_1
      try clear hcz9_2
      try clear hfz4_0
      try clear hfz4_1
      try clear hfz4_2
      try clear hfz9_0
      try clear hfz9_1
      try clear hfz9_2
      try clear p14
      try clear p2
      try clear q14
      obtain ⟨kq, x5_10, rfl, HA, HJ10, HO_205000, BK203, BK204, HB⟩ := hcut
      cases kq with
      | zero => exact absurd HA.out (by simp [wireloomref08_LexIn.j2])
      | succ kj10 =>
       have H := HA.out
       clear HA
       simp only [wireloomref08_LexIn.j2] at H
       by_cases c17 : 0 ≤ x4_1
       ·rw [if_pos c17] at H
        have c17b0 := eq_true c17
        have c17b1 : decide (0 ≤ x4_1) = true := decide_eq_true c17
        clear c17
        by_cases c18 : x4_1 ≤ x5_10
        ·rw [if_pos c18] at H
         have c18b0 := eq_true c18
         have c18b1 : decide (x4_1 ≤ x5_10) = true := decide_eq_true c18
         clear c18
         by_cases c19 : x5_10 ≤ (a0.size : Int)
         ·rw [if_pos c19] at H
          have c19b0 := eq_true c19
          have c19b1 : decide (x5_10 ≤ (a0.size : Int)) = true := decide_eq_true c19
          clear c19
          replace H := Option.bind_eq_some_iff.mp H
          obtain ⟨t210, A200, H⟩ := H
          replace H : (if x5_10 = x4_1 then ((wireloomref08_sign.f kj10 a0 x4_1).bind fun t211 => (if (wrap64 (x4_1 + t211)) = x4_1 then (some (([] : List (S39)), x4_1, 5)) else (if 3 = 0 then (some (([] : List (S39)), x4_1, 5)) else (if x4_1 ≤ (wrap64 (x4_1 + t211)) then (if (wrap64 (x4_1 + t211)) ≤ (a0.size : Int) then (if x205000_1.length < 4398046511104 then ((wireloomref08_blank.f kj10 a0 (wrap64 (x4_1 + t211))).bind fun t215 => (wireloomref08_LexIn.l0 kj10 a0 t215 (x205000_1 ++ [(⟨3, a0.extract (x4_1 : Int).toNat ((wrap64 (x4_1 + t211)) : Int).toNat, x4_1⟩ : S39)]) 0 0)) else (none)) else (none)) else (none))))) else (if t210 = 0 then (some (([] : List (S39)), x4_1, 5)) else (if x205000_1.length < 4398046511104 then ((wireloomref08_blank.f kj10 a0 x5_10).bind fun t219 => (wireloomref08_LexIn.l0 kj10 a0 t219 (x205000_1 ++ [(⟨t210, a0.extract (x4_1 : Int).toNat (x5_10 : Int).toNat, x4_1⟩ : S39)]) 0 0)) else (none)))) = some (r1, r2, r3) := H
          have A20 := Aside0.mk A200
          clear A200
          by_cases c21 : x5_10 = x4_1
          ·rw [if_pos c21] at H
           have c21b0 : (x5_10 == x4_1) = true := beq_iff_eq.mpr c21
           have c21b1 : (x5_10 != x4_1) = false := bne_eq_false_iff_eq.mpr c21
           clear c21
           replace H := Option.bind_eq_some_iff.mp H
           obtain ⟨t211, A220, H⟩ := H
           replace H : (if (wrap64 (x4_1 + t211)) = x4_1 then (some (([] : List (S39)), x4_1, 5)) else (if 3 = 0 then (some (([] : List (S39)), x4_1, 5)) else (if x4_1 ≤ (wrap64 (x4_1 + t211)) then (if (wrap64 (x4_1 + t211)) ≤ (a0.size : Int) then (if x205000_1.length < 4398046511104 then ((wireloomref08_blank.f kj10 a0 (wrap64 (x4_1 + t211))).bind fun t215 => (wireloomref08_LexIn.l0 kj10 a0 t215 (x205000_1 ++ [(⟨3, a0.extract (x4_1 : Int).toNat ((wrap64 (x4_1 + t211)) : Int).toNat, x4_1⟩ : S39)]) 0 0)) else (none)) else (none)) else (none)))) = some (r1, r2, r3) := H
           have A22 := Aside0.mk A220
           clear A220
           by_cases c23 : (wrap64 (x4_1 + t211)) = x4_1
           ·rw [if_pos c23] at H
            have c23b0 : ((wrap64 (x4_1 + t211)) == x4_1) = true := beq_iff_eq.mpr c23
            have c23b1 : ((wrap64 (x4_1 + t211)) != x4_1) = false := bne_eq_false_iff_eq.mpr c23
            clear c23
            simp only [Option.some.injEq, Prod.mk.injEq] at H
            obtain ⟨rfl, rfl, rfl⟩ := H
            go_wp2_with (first | ((with_reducible refine gate_callee (f := 29) rfl ?_); refine goesL_ (some 35) rfl rfl Tryd.func29 (by kernel_rfl) rfl #[.string (a0.extract (x4_1 : Int).toNat (x5_10 : Int).toNat)] rfl (by (try simp only [List.map_toArray, List.map_cons, List.map_nil]); first | done | rfl | (simp only [List.length_drop, List.length_take]; rfl)) ?_; (with_reducible refine (wireloomref08_kind.calls kj10 (a0.extract (x4_1 : Int).toNat (x5_10 : Int).toNat) t210 _ A20.out).mono ?_); rintro e w' ⟨rfl, ⟨nd, rfl⟩⟩; refine ⟨_, rfl, ?_⟩; (try (rw [drewN_self wc]; generalize hq_ : World.drewN wc _ = wc; have n0_ : Aside0 (Kd.R k39 39 wc w.heap.size (fun _ => True) u205000 x205000_1) := ⟨by rw [← hq_]; exact (by (with_reducible repeat (first | apply Kd.R_alloc | apply Kd.R_drewN | apply Kd.R_drew)); exact HO_205000.out)⟩; have n1_ : Aside0 (wc.heap[gb203]? = some (.cells #[.slice none 0 0, .int .i64 x204001_1, .int .i64 x204002_1] 29 (0, 0))) := ⟨by rw [← hq_]; exact (by (with_reducible repeat (first | refine blk_drewN ?_ _ | refine blk_drew ?_ | refine blk_alloc ?_ _)); exact BK203.out)⟩; have n2_ : Aside0 (wc.heap[gb204]? = some (.cells #[u205000, .int .i64 0, .int .i64 0] 29 (0, 0))) := ⟨by rw [← hq_]; exact (by (with_reducible repeat (first | refine blk_drewN ?_ _ | refine blk_drew ?_ | refine blk_alloc ?_ _)); exact BK204.out)⟩; have n3_ : Aside0 (Below w.heap.size w wc) := ⟨by rw [← hq_]; exact (by repeat (first | (with_reducible first | exact HB.out | apply below_alloc | apply pw_below_drewN | apply below_drew1 | refine below_set ?_ GE203.out | refine below_set ?_ GE204.out) | exact HB.out))⟩; clear HO_205000 BK203 BK204 HB hq_; have HO_205000 := n0_; have BK203 := n1_; have BK204 := n2_; have HB := n3_; clear n0_ n1_ n2_ n3_))) | ((with_reducible refine gate_callee (f := 30) rfl ?_); refine goesL_ (some 42) rfl rfl Tryd.func30 (by kernel_rfl) rfl #[.string a0, .int .i64 x4_1] rfl (by (try simp only [List.map_toArray, List.map_cons, List.map_nil]); first | done | rfl | (simp only [List.length_drop, List.length_take]; rfl)) ?_; (with_reducible refine (wireloomref08_sign.calls kj10 a0 x4_1 t211 _ A22.out).mono ?_); rintro e w' ⟨rfl, ⟨nd, rfl⟩⟩; refine ⟨_, rfl, ?_⟩; (try (rw [drewN_self wc]; generalize hq_ : World.drewN wc _ = wc; have n0_ : Aside0 (Kd.R k39 39 wc w.heap.size (fun _ => True) u205000 x205000_1) := ⟨by rw [← hq_]; exact (by (with_reducible repeat (first | apply Kd.R_alloc | apply Kd.R_drewN | apply Kd.R_drew)); exact HO_205000.out)⟩; have n1_ : Aside0 (wc.heap[gb203]? = some (.cells #[.slice none 0 0, .int .i64 x204001_1, .int .i64 x204002_1] 29 (0, 0))) := ⟨by rw [← hq_]; exact (by (with_reducible repeat (first | refine blk_drewN ?_ _ | refine blk_drew ?_ | refine blk_alloc ?_ _)); exact BK203.out)⟩; have n2_ : Aside0 (wc.heap[gb204]? = some (.cells #[u205000, .int .i64 0, .int .i64 0] 29 (0, 0))) := ⟨by rw [← hq_]; exact (by (with_reducible repeat (first | refine blk_drewN ?_ _ | refine blk_drew ?_ | refine blk_alloc ?_ _)); exact BK204.out)⟩; have n3_ : Aside0 (Below w.heap.size w wc) := ⟨by rw [← hq_]; exact (by repeat (first | (with_reducible first | exact HB.out | apply below_alloc | apply pw_below_drewN | apply below_drew1 | refine below_set ?_ GE203.out | refine below_set ?_ GE204.out) | exact HB.out))⟩; clear HO_205000 BK203 BK204 HB hq_; have HO_205000 := n0_; have BK203 := n1_; have BK204 := n2_; have HB := n3_; clear n0_ n1_ n2_ n3_)); have hnb24 := NB203_204.out; have hnc24 := NB204_203.out; have hcz25_0 : wc.cell? ⟨gb203, 0, none⟩ = some (.slice none 0 0) := (blk_cell BK203.out 0).trans rfl; have hcz25_1 : wc.cell? ⟨gb203, 1, none⟩ = some (.int .i64 x204001_1) := (blk_cell BK203.out 1).trans rfl; have hcz25_2 : wc.cell? ⟨gb203, 2, none⟩ = some (.int .i64 x204002_1) := (blk_cell BK203.out 2).trans rfl; have hfz25_0 := blk_frozen BK203.out 0; have hfz25_1 := blk_frozen BK203.out 1; have hfz25_2 := blk_frozen BK203.out 2))
            refine bodyPost_ret (results_cell_row rfl _ _ gb203 29 #[.slice none 0 0, .int .i64 x4_1, .int .i64 5] (0, 0) _ rfl (by (with_reducible repeat (first | refine blk_drewN ?_ _ | refine blk_drew ?_ | refine blk_alloc ?_ _)); refine blk_put (cs := #[.slice none 0 0, .int .i64 x4_1, .int .i64 x204002_1]) ?_ 2 _ rfl; (with_reducible repeat (first | refine blk_drewN ?_ _ | refine blk_drew ?_ | refine blk_alloc ?_ _)); refine blk_put (cs := #[.slice none 0 0, .int .i64 x204001_1, .int .i64 x204002_1]) ?_ 1 _ rfl; (with_reducible repeat (first | refine blk_drewN ?_ _ | refine blk_drew ?_ | refine blk_alloc ?_ _)); refine blk_put (cs := #[.slice none 0 0, .int .i64 x204001_1, .int .i64 x204002_1]) ?_ 0 _ rfl; (with_reducible repeat (first | refine blk_drewN ?_ _ | refine blk_drew ?_ | refine blk_alloc ?_ _)); exact BK203.out) Tryd.underlying29 rfl (by kernel_rfl)) rfl ?_
            exact ⟨_, by first | rfl | (simp [errW_none, errW_some] <;> rfl) | (simp [*, errW_none, errW_some] <;> rfl), by first | exact Kd.R_nil _ _ _ _ _ | exact Kd.N_nil _ _ _ _ _ | exact Kd.V_nil _ _ _ _ _ | exact Kd.Q_nil _ _ _ _ _ | exact Kd.S_nil _ _ _ _ _, by repeat (first | (with_reducible first | exact HB.out | apply below_alloc | apply pw_below_drewN | apply below_drew1 | refine below_set ?_ GE203.out | refine below_set ?_ GE204.out) | exact HB.out)⟩
           ·rw [if_neg c23] at H
            have c23b0 : ((wrap64 (x4_1 + t211)) == x4_1) = false := beq_eq_false_iff_ne.mpr c23
            have c23b1 : ((wrap64 (x4_1 + t211)) != x4_1) = true := bne_iff_ne.mpr c23
            by_cases c26 : 3 = 0
            ·exact absurd c26 (by decide)
            ·rw [if_neg c26] at H
             have c26b0 : (3 == 0) = false := beq_eq_false_iff_ne.mpr c26
             have c26b1 : (3 != 0) = true := bne_iff_ne.mpr c26
             have c29b0 := eq_true (of_decide_eq_true (by first | (with_reducible assumption) | assumption) : 0 ≤ x4_1)
             by_cases c30 : x4_1 ≤ (wrap64 (x4_1 + t211))
             ·rw [if_pos c30] at H
              have c30b0 := eq_true c30
              have c30b1 : decide (x4_1 ≤ (wrap64 (x4_1 + t211))) = true := decide_eq_true c30
              by_cases c31 : (wrap64 (x4_1 + t211)) ≤ (a0.size : Int)
              ·rw [if_pos c31] at H
               have c31b0 := eq_true c31
               have c31b1 : decide ((wrap64 (x4_1 + t211)) ≤ (a0.size : Int)) = true := decide_eq_true c31
               by_cases c32 : x205000_1.length < 4398046511104
               ·rw [if_pos c32] at H
                have LMc32 := Aside0.mk c32
                clear c32
                obtain ⟨y212, hy212⟩ : ∃ y_ : List (S39), y_ = (x205000_1 ++ [(⟨3, a0.extract (x4_1 : Int).toNat ((wrap64 (x4_1 + t211)) : Int).toNat, x4_1⟩ : S39)]) := ⟨_, rfl⟩
                replace H : ((wireloomref08_blank.f kj10 a0 (wrap64 (x4_1 + t211))).bind fun t215 => (wireloomref08_LexIn.l0 kj10 a0 t215 y212 0 0)) = some (r1, r2, r3) := by first | (rw [hy212]; with_reducible exact H) | (have H2_ := (Option.bind_some _ _).symm.trans H; rw [hy212]; with_reducible exact H2_) | (have H2_ := (Option.bind_some _ _).symm.trans H; with_reducible exact H2_) | with_reducible exact H | (rw [hy212]; exact H) | exact H
                have Ny212 := Aside0.mk hy212
                clear hy212
                replace H := Option.bind_eq_some_iff.mp H
                obtain ⟨t215, A330, H⟩ := H
                replace H : (wireloomref08_LexIn.l0 kj10 a0 t215 y212 0 0) = some (r1, r2, r3) := H
                have A33 := Aside0.mk A330
                clear A330
                have H' := Aside0.mk H
                clear H
                try go_wp2_with (first | ((with_reducible refine gate_callee (f := 29) rfl ?_); refine goesL_ (some 35) rfl rfl Tryd.func29 (by kernel_rfl) rfl #[.string (a0.extract (x4_1 : Int).toNat (x5_10 : Int).toNat)] rfl (by (try simp only [List.map_toArray, List.map_cons, List.map_nil]); first | done | rfl | (simp only [List.length_drop, List.length_take]; rfl)) ?_; (with_reducible refine (wireloomref08_kind.calls kj10 (a0.extract (x4_1 : Int).toNat (x5_10 : Int).toNat) t210 _ A20.out).mono ?_); rintro e w' ⟨rfl, ⟨nd, rfl⟩⟩; refine ⟨_, rfl, ?_⟩; (try (rw [drewN_self wc]; generalize hq_ : World.drewN wc _ = wc; have n0_ : Aside0 (Kd.R k39 39 wc w.heap.size (fun _ => True) u205000 x205000_1) := ⟨by rw [← hq_]; exact (by (with_reducible repeat (first | apply Kd.R_alloc | apply Kd.R_drewN | apply Kd.R_drew)); exact HO_205000.out)⟩; have n1_ : Aside0 (wc.heap[gb203]? = some (.cells #[.slice none 0 0, .int .i64 x204001_1, .int .i64 x204002_1] 29 (0, 0))) := ⟨by rw [← hq_]; exact (by (with_reducible repeat (first | refine blk_drewN ?_ _ | refine blk_drew ?_ | refine blk_alloc ?_ _)); exact BK203.out)⟩; have n2_ : Aside0 (wc.heap[gb204]? = some (.cells #[u205000, .int .i64 0, .int .i64 0] 29 (0, 0))) := ⟨by rw [← hq_]; exact (by (with_reducible repeat (first | refine blk_drewN ?_ _ | refine blk_drew ?_ | refine blk_alloc ?_ _)); exact BK204.out)⟩; have n3_ : Aside0 (Below w.heap.size w wc) := ⟨by rw [← hq_]; exact (by repeat (first | (with_reducible first | exact HB.out | apply below_alloc | apply pw_below_drewN | apply below_drew1 | refine below_set ?_ GE203.out | refine below_set ?_ GE204.out) | exact HB.out))⟩; clear HO_205000 BK203 BK204 HB hq_; have HO_205000 := n0_; have BK203 := n1_; have BK204 := n2_; have HB := n3_; clear n0_ n1_ n2_ n3_))) | ((with_reducible refine gate_callee (f := 30) rfl ?_); refine goesL_ (some 42) rfl rfl Tryd.func30 (by kernel_rfl) rfl #[.string a0, .int .i64 x4_1] rfl (by (try simp only [List.map_toArray, List.map_cons, List.map_nil]); first | done | rfl | (simp only [List.length_drop, List.length_take]; rfl)) ?_; (with_reducible refine (wireloomref08_sign.calls kj10 a0 x4_1 t211 _ A22.out).mono ?_); rintro e w' ⟨rfl, ⟨nd, rfl⟩⟩; refine ⟨_, rfl, ?_⟩; (try (rw [drewN_self wc]; generalize hq_ : World.drewN wc _ = wc; have n0_ : Aside0 (Kd.R k39 39 wc w.heap.size (fun _ => True) u205000 x205000_1) := ⟨by rw [← hq_]; exact (by (with_reducible repeat (first | apply Kd.R_alloc | apply Kd.R_drewN | apply Kd.R_drew)); exact HO_205000.out)⟩; have n1_ : Aside0 (wc.heap[gb203]? = some (.cells #[.slice none 0 0, .int .i64 x204001_1, .int .i64 x204002_1] 29 (0, 0))) := ⟨by rw [← hq_]; exact (by (with_reducible repeat (first | refine blk_drewN ?_ _ | refine blk_drew ?_ | refine blk_alloc ?_ _)); exact BK203.out)⟩; have n2_ : Aside0 (wc.heap[gb204]? = some (.cells #[u205000, .int .i64 0, .int .i64 0] 29 (0, 0))) := ⟨by rw [← hq_]; exact (by (with_reducible repeat (first | refine blk_drewN ?_ _ | refine blk_drew ?_ | refine blk_alloc ?_ _)); exact BK204.out)⟩; have n3_ : Aside0 (Below w.heap.size w wc) := ⟨by rw [← hq_]; exact (by repeat (first | (with_reducible first | exact HB.out | apply below_alloc | apply pw_below_drewN | apply below_drew1 | refine below_set ?_ GE203.out | refine below_set ?_ GE204.out) | exact HB.out))⟩; clear HO_205000 BK203 BK204 HB hq_; have HO_205000 := n0_; have BK203 := n1_; have BK204 := n2_; have HB := n3_; clear n0_ n1_ n2_ n3_))))
                have n0_ := Aside0.mk (Kd.R_drew HO_205000.out)
                have n1_ := Aside0.mk (blk_drew BK203.out)
                have n2_ := Aside0.mk (blk_drew BK204.out)
                have n3_ := Aside0.mk (below_drew1 HB.out)
                clear HO_205000
                clear BK203
                clear BK204
                clear HB
                have HO_205000 := n0_
                have BK203 := n1_
                have BK204 := n2_
                have HB := n3_
                clear n0_ n1_ n2_ n3_
                refine start_ (n := 13) (S := fun w' => w'.cell? ⟨gb204, 0, none⟩ = some (u205000) ∧ w'.cell? ⟨gb204, 1, none⟩ = some (.int .i64 0) ∧ w'.cell? ⟨gb204, 2, none⟩ = some (.int .i64 0)) (ds := [12]) #[F_,F_,F_,F_,F_,F_,F_,F_,F_,F_,F_,F_,F_] (by kernel_rfl) rfl rfl ⟨(blk_cell BK204.out 0).trans rfl, (blk_cell BK204.out 1).trans rfl, (blk_cell BK204.out 2).trans rfl⟩ (fun hHeld => ?_); refine with_tabW wireloomref08_LexIn.tab15 wireloomref08_LexIn.bits15 (fun HT_ HW_ => ?_)
                generalize wc.drew = w34 at HO_205000 BK203 BK204 HB hHeld ⊢
                refine pz_ 0 53 13 1 HT_ rfl rfl (by kernel_rfl) ?_ (fun _ _ _ h => h) (by rfl) (fun w' => ?_) ?_ ?_ ?_;rotate_left;go_simp;with_reducible rfl;rotate_left;simp only [P_,A_,B_,C_,i64_w,i32_w];rfl
                refine pz_ 2 55 13 5 HT_ rfl rfl (by kernel_rfl) ?_ (fun _ _ _ h => h) (by rfl) (fun w' => ?_) ?_ ?_ ?_;rotate_left;go_simp;with_reducible rfl;rotate_left;simp only [P_,A_,B_,C_,i64_w,i32_w];rfl
                refine pz_ 3 56 13 13 HT_ rfl rfl (by kernel_rfl) ?_ (fun _ _ _ h => h) (by rfl) (fun w' => ?_) ?_ ?_ ?_;rotate_left;go_simp;with_reducible rfl;rotate_left;simp only [P_,A_,B_,C_,i64_w,i32_w];rfl
                refine pz_ 4 57 13 29 HT_ rfl rfl (by kernel_rfl) ?_ (fun _ _ _ h => h) (by rfl) (fun w' => ?_) ?_ ?_ ?_;rotate_left;go_simp;with_reducible rfl;rotate_left;simp only [P_,A_,B_,C_,i64_w,i32_w];rfl
                refine pz_ 5 58 13 61 HT_ rfl rfl (by kernel_rfl) ?_ (fun _ _ _ h => h) (by rfl) (fun w' => ?_) ?_ ?_ ?_;rotate_left;go_simp;with_reducible rfl;rotate_left;simp only [P_,A_,B_,C_,i64_w,i32_w];rfl
                refine pz_ 6 59 13 125 HT_ rfl rfl (by kernel_rfl) ?_ (fun _ _ _ h => h) (by rfl) (fun w' => ?_) ?_ ?_ ?_;rotate_left;go_simp;with_reducible rfl;rotate_left;simp only [P_,A_,B_,C_,i64_w,i32_w];rfl
                refine pz_ 7 60 13 253 HT_ rfl rfl (by kernel_rfl) ?_ (fun _ _ _ h => h) (by rfl) (fun w' => ?_) ?_ ?_ ?_;rotate_left;go_simp;with_reducible rfl;rotate_left;simp only [P_,A_,B_,C_,i64_w,i32_w];rfl
                refine pz_ 8 61 13 509 HT_ rfl rfl (by kernel_rfl) ?_ (fun _ _ _ h => h) (by rfl) (fun w' => ?_) ?_ ?_ ?_;rotate_left;go_simp;with_reducible rfl;rotate_left;simp only [P_,A_,B_,C_,i64_w,i32_w];rfl
                refine tz_ 1 54 13 511 HT_ HW_ rfl rfl (by kernel_rfl) hHeld ?_ (fun _ _ _ h => h) (by rfl) (fun w' ⟨s0, s1, s2⟩ => ?_) ?_ ?_ ?_;rotate_left;go_simp;with_reducible rfl;rotate_left;simp only [P_,A_,B_,C_,i64_w,i32_w];rfl
                refine one_ (i := 9) (N := some 62) #[T_,T_,T_,T_,T_,T_,T_,T_,T_,T_,F_,F_,F_] rfl rfl (one_of HT_.out (by kernel_rfl)) (by decide) (fun K hK => ?_)
                refine value_ (w1 := ?_) (v := ?_) (by rfl) rfl ?_ ?_
                rotate_left 2
                ·go_simp
                 constructor
                 ·rfl
                 ·rfl
                refine hK.out _ _ ⟨(blk_cell (blk_alloc BK204.out _) 0).trans rfl, (blk_cell (blk_alloc BK204.out _) 1).trans rfl, (blk_cell (blk_alloc BK204.out _) 2).trans rfl⟩ (fun hHeld => ?_)
                clear hK K
                refine norm_ (a' := ?_) ?_ ?_
                rotate_left
                ·show Act.put _ (some 62) _ = _
                 simp only [Act.put, List.setIfInBounds_toArray, List.set_cons_zero, List.set_cons_succ, i64_w, i32_w]
                 rfl
                refine one_ (i := 10) (N := some 63) #[T_,T_,T_,T_,T_,T_,T_,T_,T_,T_,T_,F_,F_] rfl rfl (one_of HT_.out (by kernel_rfl)) (by decide) (fun K hK => ?_)
                refine Kd.R_append_step k39 (w0 := w) w.heap.size (by rfl) (.tmp 54) (.tmp 62) 26 39 (.agg #[(.int .i64 0), (.string ⟨#[]⟩), (.int .i64 0)]) 32 rfl Tryd.underlying26 info39 rfl (by decide) (by omega) u205000 x205000_1 (⟨3, a0.extract (x4_1 : Int).toNat ((wrap64 (x4_1 + t211)) : Int).toNat, x4_1⟩ : S39) [.int .i64 3, .string (a0.extract (x4_1 : Int).toNat ((wrap64 (x4_1 + t211)) : Int).toNat), .int .i64 x4_1] (fun _ => True) (fun _ => False) rfl rfl ?aP (fun _ hk => hk.elim) ?aF ?aO ?aB ?aS ?aL ?_
                (case aP => exact k39_mkM _ _ _ (⟨3, a0.extract (x4_1 : Int).toNat ((wrap64 (x4_1 + t211)) : Int).toNat, x4_1⟩ : S39))
                (case aB => exact (by repeat (first | (with_reducible first | exact HB.out | apply below_alloc | apply pw_below_drewN | apply below_drew1 | refine below_set ?_ GE203.out | refine below_set ?_ GE204.out) | exact HB.out)))
                (case aF => exact (fun _ _ => trivial))
                (case aO => exact (by (with_reducible repeat (first | apply Kd.R_alloc | apply Kd.R_drewN | apply Kd.R_drew)); exact HO_205000.out))
                (case aS => exact (below_size (by repeat (first | (with_reducible first | exact HB.out | apply below_alloc | apply pw_below_drewN | apply below_drew1 | refine below_set ?_ GE203.out | refine below_set ?_ GE204.out) | exact HB.out))))
                (case aL => have := LMc32.out; omega)
                intro v213 w35 ho hb hg hat
                rw [← Ny212.out] at ho
                have n0_ := Aside0.mk (blk_grown (g := gb203) (o := .cells #[.slice none 0 0, .int .i64 x204001_1, .int .i64 x204002_1] 29 (0, 0)) (by (with_reducible repeat (first | refine blk_drewN ?_ _ | refine blk_drew ?_ | refine blk_alloc ?_ _)); exact BK203.out) hg (Kd.R_ne HO_205000.out BK203.out (by decide)))
                have n1_ := Aside0.mk (blk_grown (g := gb204) (o := .cells #[u205000, .int .i64 0, .int .i64 0] 29 (0, 0)) (by (with_reducible repeat (first | refine blk_drewN ?_ _ | refine blk_drew ?_ | refine blk_alloc ?_ _)); exact BK204.out) hg (Kd.R_ne HO_205000.out BK204.out (by decide)))
                have n2_ := Aside0.mk (hb)
                have n3_ := Aside0.mk (ho)
                clear BK203
                clear BK204
                clear HB
                clear HO_205000
                have BK203 := n0_
                have BK204 := n1_
                have HB := n2_
                have HO214 := n3_
                clear n0_ n1_ n2_ n3_
                clear ho hb hg hat
                obtain ⟨Ao36, co36, eo36⟩ := Kd.R_slice HO214.out
                (first | subst eo36 | (injection eo36 with f1_ f2_ f3_; have f4_ := f1_.symm; have f5_ := f3_.symm; clear f1_ f2_ f3_; subst f4_; subst f5_))
                refine hK.out _ _ ⟨(blk_cell BK204.out 0).trans rfl, (blk_cell BK204.out 1).trans rfl, (blk_cell BK204.out 2).trans rfl⟩ (fun hHeld => ?_)
                clear hK K
                refine norm_ (a' := ?_) ?_ ?_
                rotate_left
                ·show Act.put _ (some 63) _ = _
                 simp only [Act.put, List.setIfInBounds_toArray, List.set_cons_zero, List.set_cons_succ, i64_w, i32_w]
                 rfl
                refine pz_ 11 64 13 4095 HT_ rfl rfl (by kernel_rfl) ?_ (fun _ _ _ h => h) (by rfl) (fun w' => ?_) ?_ ?_ ?_;rotate_left;go_simp;with_reducible rfl;rotate_left;simp only [P_,A_,B_,C_,i64_w,i32_w];rfl
                refine last_ (i := 12) (N := none) #[T_,T_,T_,T_,T_,T_,T_,T_,T_,T_,T_,T_,T_] rfl rfl (one_of HT_.out (by kernel_rfl)) (by decide) (fun K hK => ?_)
                have hs37 : w35.cell? ⟨gb204, 0, none⟩ = some (u205000) := (blk_cell BK204.out 0).trans rfl
                have hfs37 := blk_frozen BK204.out 0
                have hns37_0 := NB203_204.out
                have hms37_0 := NB204_203.out
                refine skip_ (w1 := ?_) (by rfl) rfl ?_ ?_
                rotate_left
                ·go_simp
                 rfl
                refine hK.out _ _ ?_
                clear hK K
                refine done_ (done_of HT_.out (by kernel_rfl)) ?_
                try go_wp2_with (first | ((with_reducible refine gate_callee (f := 27) rfl ?_); refine goesL_ (some 67) rfl rfl Tryd.func27 (by kernel_rfl) rfl #[.string a0, .int .i64 (wrap64 (x4_1 + t211))] rfl (by (try simp only [List.map_toArray, List.map_cons, List.map_nil]); first | done | rfl | (simp only [List.length_drop, List.length_take]; rfl)) ?_; (with_reducible refine (wireloomref08_blank.calls kj10 a0 (wrap64 (x4_1 + t211)) t215 _ A33.out).mono ?_); rintro e w' ⟨rfl, ⟨nd, rfl⟩⟩; refine ⟨_, rfl, ?_⟩))
                go_roundg kj10
                case measure => have := HK1.out; have := HJ10.out; omega
                case rel => exact ⟨(t215), (x204001_1), (x204002_1), (y212), (.slice Ao36 y212.length co36), (by first | rfl | (simp; done) | (simp [*]; done)), H', ⟨by have := HK1.out; have := HJ10.out; omega⟩, ⟨by (with_reducible repeat (first | apply Kd.R_alloc | apply Kd.R_drewN | apply Kd.R_drew)); exact Kd.R_mono (Kd.R_far (p := ⟨gb204, 0, none⟩) (Kd.R_types HO214.out BK204.out (by decide)) (fun _ hk => hk.2) (.slice Ao36 y212.length co36)) (fun _ hk => trivial)⟩, ⟨by (with_reducible repeat (first | refine blk_drewN ?_ _ | refine blk_drew ?_ | refine blk_alloc ?_ _)); refine blk_far ?_ NB203_204.out _; (with_reducible repeat (first | refine blk_drewN ?_ _ | refine blk_drew ?_ | refine blk_alloc ?_ _)); exact BK203.out⟩, ⟨by (with_reducible repeat (first | refine blk_drewN ?_ _ | refine blk_drew ?_ | refine blk_alloc ?_ _)); refine blk_put (cs := #[u205000, .int .i64 0, .int .i64 0]) ?_ 0 _ rfl; (with_reducible repeat (first | refine blk_drewN ?_ _ | refine blk_drew ?_ | refine blk_alloc ?_ _)); exact BK204.out⟩, ⟨by repeat (first | (with_reducible first | exact HB.out | apply below_alloc | apply pw_below_drewN | apply below_drew1 | refine below_set ?_ GE203.out | refine below_set ?_ GE204.out) | exact HB.out)⟩⟩
               ·rw [if_neg c32] at H
                exact absurd H (by simp)
              ·rw [if_neg c31] at H
               exact absurd H (by simp)
             ·rw [if_neg c30] at H
              exact absurd H (by simp)
          ·rw [if_neg c21] at H
           have c21b0 : (x5_10 == x4_1) = false := beq_eq_false_iff_ne.mpr c21
           have c21b1 : (x5_10 != x4_1) = true := bne_iff_ne.mpr c21
           by_cases c38 : t210 = 0
           ·rw [if_pos c38] at H
            have c38b0 : (t210 == 0) = true := beq_iff_eq.mpr c38
            have c38b1 : (t210 != 0) = false := bne_eq_false_iff_eq.mpr c38
            clear c38
            simp only [Option.some.injEq, Prod.mk.injEq] at H
            obtain ⟨rfl, rfl, rfl⟩ := H
            go_wp2_with (first | ((with_reducible refine gate_callee (f := 29) rfl ?_); refine goesL_ (some 35) rfl rfl Tryd.func29 (by kernel_rfl) rfl #[.string (a0.extract (x4_1 : Int).toNat (x5_10 : Int).toNat)] rfl (by (try simp only [List.map_toArray, List.map_cons, List.map_nil]); first | done | rfl | (simp only [List.length_drop, List.length_take]; rfl)) ?_; (with_reducible refine (wireloomref08_kind.calls kj10 (a0.extract (x4_1 : Int).toNat (x5_10 : Int).toNat) t210 _ A20.out).mono ?_); rintro e w' ⟨rfl, ⟨nd, rfl⟩⟩; refine ⟨_, rfl, ?_⟩; (try (rw [drewN_self wc]; generalize hq_ : World.drewN wc _ = wc; have n0_ : Aside0 (Kd.R k39 39 wc w.heap.size (fun _ => True) u205000 x205000_1) := ⟨by rw [← hq_]; exact (by (with_reducible repeat (first | apply Kd.R_alloc | apply Kd.R_drewN | apply Kd.R_drew)); exact HO_205000.out)⟩; have n1_ : Aside0 (wc.heap[gb203]? = some (.cells #[.slice none 0 0, .int .i64 x204001_1, .int .i64 x204002_1] 29 (0, 0))) := ⟨by rw [← hq_]; exact (by (with_reducible repeat (first | refine blk_drewN ?_ _ | refine blk_drew ?_ | refine blk_alloc ?_ _)); exact BK203.out)⟩; have n2_ : Aside0 (wc.heap[gb204]? = some (.cells #[u205000, .int .i64 0, .int .i64 0] 29 (0, 0))) := ⟨by rw [← hq_]; exact (by (with_reducible repeat (first | refine blk_drewN ?_ _ | refine blk_drew ?_ | refine blk_alloc ?_ _)); exact BK204.out)⟩; have n3_ : Aside0 (Below w.heap.size w wc) := ⟨by rw [← hq_]; exact (by repeat (first | (with_reducible first | exact HB.out | apply below_alloc | apply pw_below_drewN | apply below_drew1 | refine below_set ?_ GE203.out | refine below_set ?_ GE204.out) | exact HB.out))⟩; clear HO_205000 BK203 BK204 HB hq_; have HO_205000 := n0_; have BK203 := n1_; have BK204 := n2_; have HB := n3_; clear n0_ n1_ n2_ n3_)); have hnb39 := NB203_204.out; have hnc39 := NB204_203.out; have hcz40_0 : wc.cell? ⟨gb203, 0, none⟩ = some (.slice none 0 0) := (blk_cell BK203.out 0).trans rfl; have hcz40_1 : wc.cell? ⟨gb203, 1, none⟩ = some (.int .i64 x204001_1) := (blk_cell BK203.out 1).trans rfl; have hcz40_2 : wc.cell? ⟨gb203, 2, none⟩ = some (.int .i64 x204002_1) := (blk_cell BK203.out 2).trans rfl; have hfz40_0 := blk_frozen BK203.out 0; have hfz40_1 := blk_frozen BK203.out 1; have hfz40_2 := blk_frozen BK203.out 2))
            refine bodyPost_ret (results_cell_row rfl _ _ gb203 29 #[.slice none 0 0, .int .i64 x4_1, .int .i64 5] (0, 0) _ rfl (by (with_reducible repeat (first | refine blk_drewN ?_ _ | refine blk_drew ?_ | refine blk_alloc ?_ _)); refine blk_put (cs := #[.slice none 0 0, .int .i64 x4_1, .int .i64 x204002_1]) ?_ 2 _ rfl; (with_reducible repeat (first | refine blk_drewN ?_ _ | refine blk_drew ?_ | refine blk_alloc ?_ _)); refine blk_put (cs := #[.slice none 0 0, .int .i64 x204001_1, .int .i64 x204002_1]) ?_ 1 _ rfl; (with_reducible repeat (first | refine blk_drewN ?_ _ | refine blk_drew ?_ | refine blk_alloc ?_ _)); refine blk_put (cs := #[.slice none 0 0, .int .i64 x204001_1, .int .i64 x204002_1]) ?_ 0 _ rfl; (with_reducible repeat (first | refine blk_drewN ?_ _ | refine blk_drew ?_ | refine blk_alloc ?_ _)); exact BK203.out) Tryd.underlying29 rfl (by kernel_rfl)) rfl ?_
            exact ⟨_, by first | rfl | (simp [errW_none, errW_some] <;> rfl) | (simp [*, errW_none, errW_some] <;> rfl), by first | exact Kd.R_nil _ _ _ _ _ | exact Kd.N_nil _ _ _ _ _ | exact Kd.V_nil _ _ _ _ _ | exact Kd.Q_nil _ _ _ _ _ | exact Kd.S_nil _ _ _ _ _, by repeat (first | (with_reducible first | exact HB.out | apply below_alloc | apply pw_below_drewN | apply below_drew1 | refine below_set ?_ GE203.out | refine below_set ?_ GE204.out) | exact HB.out)⟩
           ·rw [if_neg c38] at H
            have c38b0 : (t210 == 0) = false := beq_eq_false_iff_ne.mpr c38
            have c38b1 : (t210 != 0) = true := bne_iff_ne.mpr c38
            have c41b0 := eq_true (of_decide_eq_true (by first | (with_reducible assumption) | assumption) : 0 ≤ x4_1)
            have c42b0 := eq_true (of_decide_eq_true (by first | (with_reducible assumption) | assumption) : x4_1 ≤ x5_10)
            have c43b0 := eq_true (of_decide_eq_true (by first | (with_reducible assumption) | assumption) : x5_10 ≤ (a0.size : Int))
            by_cases c44 : x205000_1.length < 4398046511104
            ·rw [if_pos c44] at H
             have LMc44 := Aside0.mk c44
             clear c44
             obtain ⟨y216, hy216⟩ : ∃ y_ : List (S39), y_ = (x205000_1 ++ [(⟨t210, a0.extract (x4_1 : Int).toNat (x5_10 : Int).toNat, x4_1⟩ : S39)]) := ⟨_, rfl⟩
             replace H : ((wireloomref08_blank.f kj10 a0 x5_10).bind fun t219 => (wireloomref08_LexIn.l0 kj10 a0 t219 y216 0 0)) = some (r1, r2, r3) := by first | (rw [hy216]; with_reducible exact H) | (have H2_ := (Option.bind_some _ _).symm.trans H; rw [hy216]; with_reducible exact H2_) | (have H2_ := (Option.bind_some _ _).symm.trans H; with_reducible exact H2_) | with_reducible exact H | (rw [hy216]; exact H) | exact H
             have Ny216 := Aside0.mk hy216
             clear hy216
             replace H := Option.bind_eq_some_iff.mp H
             obtain ⟨t219, A450, H⟩ := H
             replace H : (wireloomref08_LexIn.l0 kj10 a0 t219 y216 0 0) = some (r1, r2, r3) := H
             have A45 := Aside0.mk A450
             clear A450
             have H' := Aside0.mk H
             clear H
             try go_wp2_with (first | ((with_reducible refine gate_callee (f := 29) rfl ?_); refine goesL_ (some 35) rfl rfl Tryd.func29 (by kernel_rfl) rfl #[.string (a0.extract (x4_1 : Int).toNat (x5_10 : Int).toNat)] rfl (by (try simp only [List.map_toArray, List.map_cons, List.map_nil]); first | done | rfl | (simp only [List.length_drop, List.length_take]; rfl)) ?_; (with_reducible refine (wireloomref08_kind.calls kj10 (a0.extract (x4_1 : Int).toNat (x5_10 : Int).toNat) t210 _ A20.out).mono ?_); rintro e w' ⟨rfl, ⟨nd, rfl⟩⟩; refine ⟨_, rfl, ?_⟩; (try (rw [drewN_self wc]; generalize hq_ : World.drewN wc _ = wc; have n0_ : Aside0 (Kd.R k39 39 wc w.heap.size (fun _ => True) u205000 x205000_1) := ⟨by rw [← hq_]; exact (by (with_reducible repeat (first | apply Kd.R_alloc | apply Kd.R_drewN | apply Kd.R_drew)); exact HO_205000.out)⟩; have n1_ : Aside0 (wc.heap[gb203]? = some (.cells #[.slice none 0 0, .int .i64 x204001_1, .int .i64 x204002_1] 29 (0, 0))) := ⟨by rw [← hq_]; exact (by (with_reducible repeat (first | refine blk_drewN ?_ _ | refine blk_drew ?_ | refine blk_alloc ?_ _)); exact BK203.out)⟩; have n2_ : Aside0 (wc.heap[gb204]? = some (.cells #[u205000, .int .i64 0, .int .i64 0] 29 (0, 0))) := ⟨by rw [← hq_]; exact (by (with_reducible repeat (first | refine blk_drewN ?_ _ | refine blk_drew ?_ | refine blk_alloc ?_ _)); exact BK204.out)⟩; have n3_ : Aside0 (Below w.heap.size w wc) := ⟨by rw [← hq_]; exact (by repeat (first | (with_reducible first | exact HB.out | apply below_alloc | apply pw_below_drewN | apply below_drew1 | refine below_set ?_ GE203.out | refine below_set ?_ GE204.out) | exact HB.out))⟩; clear HO_205000 BK203 BK204 HB hq_; have HO_205000 := n0_; have BK203 := n1_; have BK204 := n2_; have HB := n3_; clear n0_ n1_ n2_ n3_))))
             have n0_ := Aside0.mk (Kd.R_drew HO_205000.out)
             have n1_ := Aside0.mk (blk_drew BK203.out)
             have n2_ := Aside0.mk (blk_drew BK204.out)
             have n3_ := Aside0.mk (below_drew1 HB.out)
             clear HO_205000
             clear BK203
             clear BK204
             clear HB
             have HO_205000 := n0_
             have BK203 := n1_
             have BK204 := n2_
             have HB := n3_
             clear n0_ n1_ n2_ n3_
             refine start_ (n := 13) (S := fun w' => w'.cell? ⟨gb204, 0, none⟩ = some (u205000) ∧ w'.cell? ⟨gb204, 1, none⟩ = some (.int .i64 0) ∧ w'.cell? ⟨gb204, 2, none⟩ = some (.int .i64 0)) (ds := [12]) #[F_,F_,F_,F_,F_,F_,F_,F_,F_,F_,F_,F_,F_] (by kernel_rfl) rfl rfl ⟨(blk_cell BK204.out 0).trans rfl, (blk_cell BK204.out 1).trans rfl, (blk_cell BK204.out 2).trans rfl⟩ (fun hHeld => ?_); refine with_tabW wireloomref08_LexIn.tab15 wireloomref08_LexIn.bits15 (fun HT_ HW_ => ?_)
             generalize wc.drew = w46 at HO_205000 BK203 BK204 HB hHeld ⊢
             refine pz_ 0 53 13 1 HT_ rfl rfl (by kernel_rfl) ?_ (fun _ _ _ h => h) (by rfl) (fun w' => ?_) ?_ ?_ ?_;rotate_left;go_simp;with_reducible rfl;rotate_left;simp only [P_,A_,B_,C_,i64_w,i32_w];rfl
             refine pz_ 2 55 13 5 HT_ rfl rfl (by kernel_rfl) ?_ (fun _ _ _ h => h) (by rfl) (fun w' => ?_) ?_ ?_ ?_;rotate_left;go_simp;with_reducible rfl;rotate_left;simp only [P_,A_,B_,C_,i64_w,i32_w];rfl
             refine pz_ 3 56 13 13 HT_ rfl rfl (by kernel_rfl) ?_ (fun _ _ _ h => h) (by rfl) (fun w' => ?_) ?_ ?_ ?_;rotate_left;go_simp;with_reducible rfl;rotate_left;simp only [P_,A_,B_,C_,i64_w,i32_w];rfl
             refine pz_ 4 57 13 29 HT_ rfl rfl (by kernel_rfl) ?_ (fun _ _ _ h => h) (by rfl) (fun w' => ?_) ?_ ?_ ?_;rotate_left;go_simp;with_reducible rfl;rotate_left;simp only [P_,A_,B_,C_,i64_w,i32_w];rfl
             refine pz_ 5 58 13 61 HT_ rfl rfl (by kernel_rfl) ?_ (fun _ _ _ h => h) (by rfl) (fun w' => ?_) ?_ ?_ ?_;rotate_left;go_simp;with_reducible rfl;rotate_left;simp only [P_,A_,B_,C_,i64_w,i32_w];rfl
             refine pz_ 6 59 13 125 HT_ rfl rfl (by kernel_rfl) ?_ (fun _ _ _ h => h) (by rfl) (fun w' => ?_) ?_ ?_ ?_;rotate_left;go_simp;with_reducible rfl;rotate_left;simp only [P_,A_,B_,C_,i64_w,i32_w];rfl
             refine pz_ 7 60 13 253 HT_ rfl rfl (by kernel_rfl) ?_ (fun _ _ _ h => h) (by rfl) (fun w' => ?_) ?_ ?_ ?_;rotate_left;go_simp;with_reducible rfl;rotate_left;simp only [P_,A_,B_,C_,i64_w,i32_w];rfl
             refine pz_ 8 61 13 509 HT_ rfl rfl (by kernel_rfl) ?_ (fun _ _ _ h => h) (by rfl) (fun w' => ?_) ?_ ?_ ?_;rotate_left;go_simp;with_reducible rfl;rotate_left;simp only [P_,A_,B_,C_,i64_w,i32_w];rfl
             refine tz_ 1 54 13 511 HT_ HW_ rfl rfl (by kernel_rfl) hHeld ?_ (fun _ _ _ h => h) (by rfl) (fun w' ⟨s0, s1, s2⟩ => ?_) ?_ ?_ ?_;rotate_left;go_simp;with_reducible rfl;rotate_left;simp only [P_,A_,B_,C_,i64_w,i32_w];rfl
             refine one_ (i := 9) (N := some 62) #[T_,T_,T_,T_,T_,T_,T_,T_,T_,T_,F_,F_,F_] rfl rfl (one_of HT_.out (by kernel_rfl)) (by decide) (fun K hK => ?_)
             refine value_ (w1 := ?_) (v := ?_) (by rfl) rfl ?_ ?_
             rotate_left 2
             ·go_simp
              constructor
              ·rfl
              ·rfl
             refine hK.out _ _ ⟨(blk_cell (blk_alloc BK204.out _) 0).trans rfl, (blk_cell (blk_alloc BK204.out _) 1).trans rfl, (blk_cell (blk_alloc BK204.out _) 2).trans rfl⟩ (fun hHeld => ?_)
             clear hK K
             refine norm_ (a' := ?_) ?_ ?_
             rotate_left
             ·show Act.put _ (some 62) _ = _
              simp only [Act.put, List.setIfInBounds_toArray, List.set_cons_zero, List.set_cons_succ, i64_w, i32_w]
              rfl
             refine one_ (i := 10) (N := some 63) #[T_,T_,T_,T_,T_,T_,T_,T_,T_,T_,T_,F_,F_] rfl rfl (one_of HT_.out (by kernel_rfl)) (by decide) (fun K hK => ?_)
             refine Kd.R_append_step k39 (w0 := w) w.heap.size (by rfl) (.tmp 54) (.tmp 62) 26 39 (.agg #[(.int .i64 0), (.string ⟨#[]⟩), (.int .i64 0)]) 32 rfl Tryd.underlying26 info39 rfl (by decide) (by omega) u205000 x205000_1 (⟨t210, a0.extract (x4_1 : Int).toNat (x5_10 : Int).toNat, x4_1⟩ : S39) [.int .i64 t210, .string (a0.extract (x4_1 : Int).toNat (x5_10 : Int).toNat), .int .i64 x4_1] (fun _ => True) (fun _ => False) rfl rfl ?aP (fun _ hk => hk.elim) ?aF ?aO ?aB ?aS ?aL ?_
             (case aP => exact k39_mkM _ _ _ (⟨t210, a0.extract (x4_1 : Int).toNat (x5_10 : Int).toNat, x4_1⟩ : S39))
             (case aB => exact (by repeat (first | (with_reducible first | exact HB.out | apply below_alloc | apply pw_below_drewN | apply below_drew1 | refine below_set ?_ GE203.out | refine below_set ?_ GE204.out) | exact HB.out)))
             (case aF => exact (fun _ _ => trivial))
             (case aO => exact (by (with_reducible repeat (first | apply Kd.R_alloc | apply Kd.R_drewN | apply Kd.R_drew)); exact HO_205000.out))
             (case aS => exact (below_size (by repeat (first | (with_reducible first | exact HB.out | apply below_alloc | apply pw_below_drewN | apply below_drew1 | refine below_set ?_ GE203.out | refine below_set ?_ GE204.out) | exact HB.out))))
             (case aL => have := LMc44.out; omega)
             intro v217 w47 ho hb hg hat
             rw [← Ny216.out] at ho
             have n0_ := Aside0.mk (blk_grown (g := gb203) (o := .cells #[.slice none 0 0, .int .i64 x204001_1, .int .i64 x204002_1] 29 (0, 0)) (by (with_reducible repeat (first | refine blk_drewN ?_ _ | refine blk_drew ?_ | refine blk_alloc ?_ _)); exact BK203.out) hg (Kd.R_ne HO_205000.out BK203.out (by decide)))
             have n1_ := Aside0.mk (blk_grown (g := gb204) (o := .cells #[u205000, .int .i64 0, .int .i64 0] 29 (0, 0)) (by (with_reducible repeat (first | refine blk_drewN ?_ _ | refine blk_drew ?_ | refine blk_alloc ?_ _)); exact BK204.out) hg (Kd.R_ne HO_205000.out BK204.out (by decide)))
             have n2_ := Aside0.mk (hb)
             have n3_ := Aside0.mk (ho)
             clear BK203
             clear BK204
             clear HB
             clear HO_205000
             have BK203 := n0_
             have BK204 := n1_
             have HB := n2_
             have HO218 := n3_
             clear n0_ n1_ n2_ n3_
             clear ho hb hg hat
             obtain ⟨Ao48, co48, eo48⟩ := Kd.R_slice HO218.out
             (first | subst eo48 | (injection eo48 with f1_ f2_ f3_; have f4_ := f1_.symm; have f5_ := f3_.symm; clear f1_ f2_ f3_; subst f4_; subst f5_))
             refine hK.out _ _ ⟨(blk_cell BK204.out 0).trans rfl, (blk_cell BK204.out 1).trans rfl, (blk_cell BK204.out 2).trans rfl⟩ (fun hHeld => ?_)
             clear hK K
             refine norm_ (a' := ?_) ?_ ?_
             rotate_left
             ·show Act.put _ (some 63) _ = _
              simp only [Act.put, List.setIfInBounds_toArray, List.set_cons_zero, List.set_cons_succ, i64_w, i32_w]
              rfl
             refine pz_ 11 64 13 4095 HT_ rfl rfl (by kernel_rfl) ?_ (fun _ _ _ h => h) (by rfl) (fun w' => ?_) ?_ ?_ ?_;rotate_left;go_simp;with_reducible rfl;rotate_left;simp only [P_,A_,B_,C_,i64_w,i32_w];rfl
             refine last_ (i := 12) (N := none) #[T_,T_,T_,T_,T_,T_,T_,T_,T_,T_,T_,T_,T_] rfl rfl (one_of HT_.out (by kernel_rfl)) (by decide) (fun K hK => ?_)
             have hs49 : w47.cell? ⟨gb204, 0, none⟩ = some (u205000) := (blk_cell BK204.out 0).trans rfl
             have hfs49 := blk_frozen BK204.out 0
             have hns49_0 := NB203_204.out
             have hms49_0 := NB204_203.out
             refine skip_ (w1 := ?_) (by rfl) rfl ?_ ?_
             rotate_left
             ·go_simp
              rfl
             refine hK.out _ _ ?_
             clear hK K
             refine done_ (done_of HT_.out (by kernel_rfl)) ?_
             try go_wp2_with (first | ((with_reducible refine gate_callee (f := 27) rfl ?_); refine goesL_ (some 67) rfl rfl Tryd.func27 (by kernel_rfl) rfl #[.string a0, .int .i64 x5_10] rfl (by (try simp only [List.map_toArray, List.map_cons, List.map_nil]); first | done | rfl | (simp only [List.length_drop, List.length_take]; rfl)) ?_; (with_reducible refine (wireloomref08_blank.calls kj10 a0 x5_10 t219 _ A45.out).mono ?_); rintro e w' ⟨rfl, ⟨nd, rfl⟩⟩; refine ⟨_, rfl, ?_⟩))
             go_roundg kj10
             case measure => have := HK1.out; have := HJ10.out; omega
             case rel => exact ⟨(t219), (x204001_1), (x204002_1), (y216), (.slice Ao48 y216.length co48), (by first | rfl | (simp; done) | (simp [*]; done)), H', ⟨by have := HK1.out; have := HJ10.out; omega⟩, ⟨by (with_reducible repeat (first | apply Kd.R_alloc | apply Kd.R_drewN | apply Kd.R_drew)); exact Kd.R_mono (Kd.R_far (p := ⟨gb204, 0, none⟩) (Kd.R_types HO218.out BK204.out (by decide)) (fun _ hk => hk.2) (.slice Ao48 y216.length co48)) (fun _ hk => trivial)⟩, ⟨by (with_reducible repeat (first | refine blk_drewN ?_ _ | refine blk_drew ?_ | refine blk_alloc ?_ _)); refine blk_far ?_ NB203_204.out _; (with_reducible repeat (first | refine blk_drewN ?_ _ | refine blk_drew ?_ | refine blk_alloc ?_ _)); exact BK203.out⟩, ⟨by (with_reducible repeat (first | refine blk_drewN ?_ _ | refine blk_drew ?_ | refine blk_alloc ?_ _)); refine blk_put (cs := #[u205000, .int .i64 0, .int .i64 0]) ?_ 0 _ rfl; (with_reducible repeat (first | refine blk_drewN ?_ _ | refine blk_drew ?_ | refine blk_alloc ?_ _)); exact BK204.out⟩, ⟨by repeat (first | (with_reducible first | exact HB.out | apply below_alloc | apply pw_below_drewN | apply below_drew1 | refine below_set ?_ GE203.out | refine below_set ?_ GE204.out) | exact HB.out)⟩⟩
            ·rw [if_neg c44] at H
             exact absurd H (by simp)
         ·rw [if_neg c19] at H
          exact absurd H (by simp)
        ·rw [if_neg c18] at H
         exact absurd H (by simp)
       ·rw [if_neg c17] at H
        exact absurd H (by simp)
    ·rw [if_neg c10] at H
     have c10b0 : decide (x4_1 < (a0.size : Int)) = false := decide_eq_false c10
     clear c10
     by_cases c50 : x205000_1.length < 4398046511104
     ·rw [if_pos c50] at H
      have LMc50 := Aside0.mk c50
      clear c50
      obtain ⟨y206, hy206⟩ : ∃ y_ : List (S39), y_ = (x205000_1 ++ [(⟨4, (⟨#[]⟩ : ByteArray), (a0.size : Int)⟩ : S39)]) := ⟨_, rfl⟩
      replace H : (some (y206, 0, 0)) = some (r1, r2, r3) := by first | (rw [hy206]; with_reducible exact H) | (have H2_ := (Option.bind_some _ _).symm.trans H; rw [hy206]; with_reducible exact H2_) | (have H2_ := (Option.bind_some _ _).symm.trans H; with_reducible exact H2_) | with_reducible exact H | (rw [hy206]; exact H) | exact H
      have Ny206 := Aside0.mk hy206
      clear hy206
      simp only [Option.some.injEq, Prod.mk.injEq] at H
      obtain ⟨rfl, rfl, rfl⟩ := H
      have hnb51 := NB204_203.out
      have hnc51 := NB203_204.out
      have hcz52_0 : wr.cell? ⟨gb204, 0, none⟩ = some (u205000) := (blk_cell BK204.out 0).trans rfl
      have hcz52_1 : wr.cell? ⟨gb204, 1, none⟩ = some (.int .i64 0) := (blk_cell BK204.out 1).trans rfl
      have hcz52_2 : wr.cell? ⟨gb204, 2, none⟩ = some (.int .i64 0) := (blk_cell BK204.out 2).trans rfl
      have hfz52_0 := blk_frozen BK204.out 0
      have hfz52_1 := blk_frozen BK204.out 1
      have hfz52_2 := blk_frozen BK204.out 2
      go_wp2_with (first | ((with_reducible refine gate_builtin (b := .append) (xs := #[.tmp 69, .tmp 73]) rfl ?_); at_builtin; refine Kd.R_append k39 (w0 := w) w.heap.size rfl (.tmp 69) (.tmp 73) 26 39 (.agg #[(.int .i64 0), (.string ⟨#[]⟩), (.int .i64 0)]) 32 rfl Tryd.underlying26 info39 rfl (by decide) (by omega) u205000 x205000_1 (⟨4, (⟨#[]⟩ : ByteArray), (a0.size : Int)⟩ : S39) [.int .i64 4, .string (⟨#[]⟩ : ByteArray), .int .i64 (a0.size : Int)] (fun _ => True) (fun _ => False) rfl rfl ?aP (fun _ hk => hk.elim) ?aF ?aO ?aB ?aS ?aL ?_; (case aP => exact k39_mkM _ _ _ (⟨4, (⟨#[]⟩ : ByteArray), (a0.size : Int)⟩ : S39)); (case aB => exact (by repeat (first | (with_reducible first | exact HB.out | apply below_alloc | apply pw_below_drewN | apply below_drew1 | refine below_set ?_ GE203.out | refine below_set ?_ GE204.out) | exact HB.out))); (case aF => exact (fun _ _ => trivial)); (case aO => exact (by (with_reducible repeat (first | apply Kd.R_alloc | apply Kd.R_drewN | apply Kd.R_drew)); exact HO_205000.out)); (case aS => exact (below_size (by repeat (first | (with_reducible first | exact HB.out | apply below_alloc | apply pw_below_drewN | apply below_drew1 | refine below_set ?_ GE203.out | refine below_set ?_ GE204.out) | exact HB.out)))); (case aL => have := LMc50.out; omega); intro v207 w53 ho hb hg hat; rw [← Ny206.out] at ho; have n0_ := Aside0.mk (blk_grown (g := gb203) (o := .cells #[.slice none 0 0, .int .i64 x204001_1, .int .i64 x204002_1] 29 (0, 0)) (by (with_reducible repeat (first | refine blk_drewN ?_ _ | refine blk_drew ?_ | refine blk_alloc ?_ _)); exact BK203.out) hg (Kd.R_ne HO_205000.out BK203.out (by decide))); have n1_ := Aside0.mk (blk_grown (g := gb204) (o := .cells #[u205000, .int .i64 0, .int .i64 0] 29 (0, 0)) (by (with_reducible repeat (first | refine blk_drewN ?_ _ | refine blk_drew ?_ | refine blk_alloc ?_ _)); exact BK204.out) hg (Kd.R_ne HO_205000.out BK204.out (by decide))); have n2_ := Aside0.mk (hb); have n3_ := Aside0.mk (ho); clear BK203; clear BK204; clear HB; clear HO_205000; have BK203 := n0_; have BK204 := n1_; have HB := n2_; have HO208 := n3_; clear n0_ n1_ n2_ n3_; clear ho hb hg hat; obtain ⟨Ao54, co54, eo54⟩ := Kd.R_slice HO208.out; subst eo54; have hcz55_0 : w53.cell? ⟨gb204, 0, none⟩ = some (u205000) := (blk_cell BK204.out 0).trans rfl; have hcz55_1 : w53.cell? ⟨gb204, 1, none⟩ = some (.int .i64 0) := (blk_cell BK204.out 1).trans rfl; have hcz55_2 : w53.cell? ⟨gb204, 2, none⟩ = some (.int .i64 0) := (blk_cell BK204.out 2).trans rfl; have hfz55_0 := blk_frozen BK204.out 0; have hfz55_1 := blk_frozen BK204.out 1; have hfz55_2 := blk_frozen BK204.out 2; have hcz56_0 : w53.cell? ⟨gb203, 0, none⟩ = some (.slice none 0 0) := (blk_cell BK203.out 0).trans rfl; have hcz56_1 : w53.cell? ⟨gb203, 1, none⟩ = some (.int .i64 x204001_1) := (blk_cell BK203.out 1).trans rfl; have hcz56_2 : w53.cell? ⟨gb203, 2, none⟩ = some (.int .i64 x204002_1) := (blk_cell BK203.out 2).trans rfl; have hfz56_0 := blk_frozen BK203.out 0; have hfz56_1 := blk_frozen BK203.out 1; have hfz56_2 := blk_frozen BK203.out 2))
      refine bodyPost_ret (results_cell_row rfl _ _ gb203 29 #[.slice Ao54 y206.length co54, .int .i64 0, .int .i64 0] (0, 0) _ rfl (by (with_reducible repeat (first | refine blk_drewN ?_ _ | refine blk_drew ?_ | refine blk_alloc ?_ _)); refine blk_put (cs := #[.slice Ao54 y206.length co54, .int .i64 0, .int .i64 x204002_1]) ?_ 2 _ rfl; (with_reducible repeat (first | refine blk_drewN ?_ _ | refine blk_drew ?_ | refine blk_alloc ?_ _)); refine blk_put (cs := #[.slice Ao54 y206.length co54, .int .i64 x204001_1, .int .i64 x204002_1]) ?_ 1 _ rfl; (with_reducible repeat (first | refine blk_drewN ?_ _ | refine blk_drew ?_ | refine blk_alloc ?_ _)); refine blk_put (cs := #[.slice none 0 0, .int .i64 x204001_1, .int .i64 x204002_1]) ?_ 0 _ rfl; (with_reducible repeat (first | refine blk_drewN ?_ _ | refine blk_drew ?_ | refine blk_alloc ?_ _)); refine blk_far ?_ NB203_204.out _; (with_reducible repeat (first | refine blk_drewN ?_ _ | refine blk_drew ?_ | refine blk_alloc ?_ _)); exact BK203.out) Tryd.underlying29 rfl (by kernel_rfl)) rfl ?_
      exact ⟨_, by first | rfl | (simp [errW_none, errW_some] <;> rfl) | (simp [*, errW_none, errW_some] <;> rfl), by (with_reducible repeat (first | apply Kd.R_alloc | apply Kd.R_drewN | apply Kd.R_drew)); exact Kd.R_mono (Kd.R_far (p := ⟨gb203, 2, none⟩) (Kd.R_far (p := ⟨gb203, 1, none⟩) (Kd.R_far (p := ⟨gb203, 0, none⟩) (Kd.R_far (p := ⟨gb204, 0, none⟩) (Kd.R_types (Kd.R_types HO208.out BK204.out (by decide)) BK203.out (by decide)) (fun _ hk => hk.1.2) (.slice Ao54 y206.length co54)) (fun _ hk => hk.2) (.slice Ao54 y206.length co54)) (fun _ hk => hk.2) (.int .i64 0)) (fun _ hk => hk.2) (.int .i64 0)) (fun _ hk => trivial), by repeat (first | (with_reducible first | exact HB.out | apply below_alloc | apply pw_below_drewN | apply below_drew1 | refine below_set ?_ GE203.out | refine below_set ?_ GE204.out) | exact HB.out)⟩
     ·rw [if_neg c50] at H
      exact absurd H (by simp)

/-! ### wireloomref08_Kind: function 17 -/
def wireloomref08_Kind.f (k : Nat) (a0 : ByteArray) : Option (Int) := if (a0.size : Int) > 0 then ((wireloomref08_sign.f k a0 0).bind fun t220 => (if t220 = (a0.size : Int) then (some 3) else ((wireloomref08_kind.f k a0).bind fun t221 => (some t221)))) else ((wireloomref08_kind.f k a0).bind fun t222 => (some t222))
theorem wireloomref08_Kind.mono : ∀ a0 k, LeO (wireloomref08_Kind.f k a0) (wireloomref08_Kind.f (k + 1) a0) := by
 intro a0 k
 unfold wireloomref08_Kind.f
 repeat' first
   | (with_reducible exact wireloomref08_kind.mono _ _)
   | (with_reducible exact wireloomref08_sign.mono _ _ _)
   | (with_reducible exact LeO.refl _)
   | (with_reducible exact LeO.none _)
   | (with_reducible refine LeO.ite ?_ ?_)
   | (with_reducible refine LeO.bind ?_ (fun _ => ?_))
   | exact wireloomref08_kind.mono _ _
   | exact wireloomref08_sign.mono _ _ _
   | exact LeO.none _
   | refine LeO.ite ?_ ?_
   | refine LeO.bind ?_ (fun _ => ?_)
set_option maxHeartbeats 8000000 in
set_option maxRecDepth 100000 in
theorem wireloomref08_Kind.calls (k : Nat) (a0 : ByteArray) (r : Int) (w : World) (h : wireloomref08_Kind.f k a0 = some r) :
  Calls Tryd.prog 17 #[.string a0] w fun e w' => e = .returned (.int .i64 r) ∧ Drawn0 w w' := by
 have H : (if (a0.size : Int) > 0 then ((wireloomref08_sign.f k a0 0).bind fun t220 => (if t220 = (a0.size : Int) then (some 3) else ((wireloomref08_kind.f k a0).bind fun t221 => (some t221)))) else ((wireloomref08_kind.f k a0).bind fun t222 => (some t222))) = some r := h
 clear h
 by_cases c2 : (a0.size : Int) > 0
 ·rw [if_pos c2] at H
  have c2b0 : decide (0 < (a0.size : Int)) = true := decide_eq_true c2
  have c2b1 : decide (0 < a0.size) = true := decide_eq_true (by omega)
  clear c2
  replace H := Option.bind_eq_some_iff.mp H
  obtain ⟨t220, A30, H⟩ := H
  replace H : (if t220 = (a0.size : Int) then (some 3) else ((wireloomref08_kind.f k a0).bind fun t221 => (some t221))) = some r := H
  have A3 := Aside0.mk A30
  clear A30
  by_cases c4 : t220 = (a0.size : Int)
  ·rw [if_pos c4] at H
   have c4b0 : (t220 == (a0.size : Int)) = true := beq_iff_eq.mpr c4
   have c4b1 : (t220 != (a0.size : Int)) = false := bne_eq_false_iff_eq.mpr c4
   clear c4
   obtain rfl := Option.some.inj H
   go_enter Tryd.func17, Tryd.ntmps17
   go_wp2_with (first | (go_at_call 30; (with_reducible refine (wireloomref08_sign.calls k a0 0 t220 _ A3.out).mono ?_); rintro e w' ⟨rfl, ⟨nd, rfl⟩⟩))
   go_ret
   exact ⟨by first | rfl | (simp; done) | (simp [*]; done), by repeat (first | exact Drawn0.refl _ | apply Drawn0.step)⟩
  ·rw [if_neg c4] at H
   have c4b0 : (t220 == (a0.size : Int)) = false := beq_eq_false_iff_ne.mpr c4
   have c4b1 : (t220 != (a0.size : Int)) = true := bne_iff_ne.mpr c4
   replace H := Option.bind_eq_some_iff.mp H
   obtain ⟨t221, A50, H⟩ := H
   replace H : (some t221) = some r := H
   have A5 := Aside0.mk A50
   clear A50
   obtain rfl := Option.some.inj H
   go_enter Tryd.func17, Tryd.ntmps17
   go_wp2_with (first | (go_at_call 30; (with_reducible refine (wireloomref08_sign.calls k a0 0 t220 _ A3.out).mono ?_); rintro e w' ⟨rfl, ⟨nd, rfl⟩⟩) | ((with_reducible refine gate_callee (f := 29) rfl ?_); refine goesL_ (some 14) rfl rfl Tryd.func29 (by kernel_rfl) rfl #[.string a0] rfl (by (try simp only [List.map_toArray, List.map_cons, List.map_nil]); first | done | rfl | (simp only [List.length_drop, List.length_take]; rfl)) ?_; (with_reducible refine (wireloomref08_kind.calls k a0 t221 _ A5.out).mono ?_); rintro e w' ⟨rfl, ⟨nd, rfl⟩⟩; refine ⟨_, rfl, ?_⟩))
   go_ret
   exact ⟨by first | rfl | (simp; done) | (simp [*]; done), by repeat (first | exact Drawn0.refl _ | apply Drawn0.step)⟩
 ·rw [if_neg c2] at H
  have c2b0 : decide (0 < (a0.size : Int)) = false := decide_eq_false c2
  have c2b1 : decide (0 < a0.size) = false := decide_eq_false (by omega)
  clear c2
  replace H := Option.bind_eq_some_iff.mp H
  obtain ⟨t222, A60, H⟩ := H
  replace H : (some t222) = some r := H
  have A6 := Aside0.mk A60
  clear A60
  obtain rfl := Option.some.inj H
  go_enter Tryd.func17, Tryd.ntmps17
  go_wp2_with (first | ((with_reducible refine gate_callee (f := 29) rfl ?_); refine goesL_ (some 14) rfl rfl Tryd.func29 (by kernel_rfl) rfl #[.string a0] rfl (by (try simp only [List.map_toArray, List.map_cons, List.map_nil]); first | done | rfl | (simp only [List.length_drop, List.length_take]; rfl)) ?_; (with_reducible refine (wireloomref08_kind.calls k a0 t222 _ A6.out).mono ?_); rintro e w' ⟨rfl, ⟨nd, rfl⟩⟩; refine ⟨_, rfl, ?_⟩))
  go_ret
  exact ⟨by first | rfl | (simp; done) | (simp [*]; done), by repeat (first | exact Drawn0.refl _ | apply Drawn0.step)⟩

end Go.Proofs.YtoongglmgpilfaaDoor.L
