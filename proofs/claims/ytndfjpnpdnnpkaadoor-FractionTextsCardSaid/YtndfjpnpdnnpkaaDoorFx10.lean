-- made by a program of this claim (wip/myprint.sh); Lean checks it
import Derived.Test.YtndfjpnpdnnpkaaDoorFx0
import Derived.Test.YtndfjpnpdnnpkaaDoorSt
import Derived.Test.YtndfjpnpdnnpkaaDoorFx2
import Derived.Test.YtndfjpnpdnnpkaaDoorFx5
import Derived.Test.YtndfjpnpdnnpkaaDoorFx6
import Derived.Test.YtndfjpnpdnnpkaaDoorFx7
import Derived.Test.YtndfjpnpdnnpkaaDoorFx8
import Derived.Test.YtndfjpnpdnnpkaaDoorFx9
import Derived.Test.YtndfjpnpdnnpkaaDoorGiven
namespace Go.Proofs.YtndfjpnpdnnpkaaDoor.F
open Go.RowKit Go.Proofs.YtndfjpnpdnnpkaaDoorW.PrintWords Go.Proofs.YtndfjpnpdnnpkaaDoorW.PrintLast Go.Proofs.YtndfjpnpdnnpkaaDoorW.PrintMore
attribute [local go_sem] max2_int min2_int max_two min_two max_three min_three max_four min_four   -- for this text's walks alone
set_option linter.unusedVariables false
set_option linter.unusedSimpArgs false

attribute [local go_sem high] eqA31
/-! ### wireloomref02_ParseIn: function 20 -/
mutual
def wireloomref02_ParseIn.j0 : Nat → ByteArray → Int → Bool → Option (Int × Int × Int)
 | 0, _, _, _ => none
 | k + 1, x0, x3, x15 => if x15 = true then (wireloomref02_ParseIn.j1 k x0 1) else (wireloomref02_ParseIn.j1 k x0 x3)
def wireloomref02_ParseIn.j1 : Nat → ByteArray → Int → Option (Int × Int × Int)
 | 0, _, _ => none
 | k + 1, x0, x3 => (wireloomref02_read.f k x0 x3).bind fun bt411 => (if bt411.2 < (x0.size : Int) then ((wireloomref02_read.f k x0 (wrap64 (bt411.2 + 1))).bind fun bt413 => (wireloomref02_ParseIn.j2 k x0 x3 bt411.1 bt413.1)) else (wireloomref02_ParseIn.j2 k x0 x3 bt411.1 1))
def wireloomref02_ParseIn.j2 : Nat → ByteArray → Int → Int → Int → Option (Int × Int × Int)
 | 0, _, _, _, _ => none
 | k + 1, x0, x3, x4, x6 => if x3 = 1 then (wireloomref02_ParseIn.j3 k x0 (wrap64 (-x4)) x6) else (wireloomref02_ParseIn.j3 k x0 x4 x6)
def wireloomref02_ParseIn.j3 : Nat → ByteArray → Int → Int → Option (Int × Int × Int)
 | 0, _, _, _ => none
 | k + 1, x0, x4, x6 => (wireloomref02_Valid.f k x4 x6).bind fun t416 => (if t416 = true then ((wireloomref02_Text.f k x4 x6).bind fun t417 => (if t417.toList = x0.toList then (some (x4, x6, 0)) else (some (0, 0, 5)))) else (some (0, 0, 5)))
end
def wireloomref02_ParseIn.f (k : Nat) (a0 : ByteArray) : Option (Int × Int × Int) := if (a0.size : Int) > 0 then (if 0 < (a0.size : Int) then (wireloomref02_ParseIn.j0 k a0 0 ((bt a0 0) == 45)) else (none)) else (wireloomref02_ParseIn.j0 k a0 0 false)
theorem wireloomref02_ParseIn.mono_l : ∀ k, (∀ y0 y1 y2, LeO (wireloomref02_ParseIn.j0 k y0 y1 y2) (wireloomref02_ParseIn.j0 (k + 1) y0 y1 y2)) ∧ (∀ y0 y1, LeO (wireloomref02_ParseIn.j1 k y0 y1) (wireloomref02_ParseIn.j1 (k + 1) y0 y1)) ∧ (∀ y0 y1 y2 y3, LeO (wireloomref02_ParseIn.j2 k y0 y1 y2 y3) (wireloomref02_ParseIn.j2 (k + 1) y0 y1 y2 y3)) ∧ (∀ y0 y1 y2, LeO (wireloomref02_ParseIn.j3 k y0 y1 y2) (wireloomref02_ParseIn.j3 (k + 1) y0 y1 y2))
 | 0 => ⟨fun _ _ _ r h => by simp [wireloomref02_ParseIn.j0] at h, fun _ _ r h => by simp [wireloomref02_ParseIn.j1] at h, fun _ _ _ _ r h => by simp [wireloomref02_ParseIn.j2] at h, fun _ _ _ r h => by simp [wireloomref02_ParseIn.j3] at h⟩
 | k + 1 => by
  obtain ⟨ih0, ih1, ih2, ih3⟩ := wireloomref02_ParseIn.mono_l k
  refine ⟨?_, ?_, ?_, ?_⟩
  ·intro y0 y1 y2
   unfold wireloomref02_ParseIn.j0
   repeat' first
   | (with_reducible exact ih0 _ _ _)
   | (with_reducible exact ih1 _ _)
   | (with_reducible exact ih2 _ _ _ _)
   | (with_reducible exact ih3 _ _ _)
   | (with_reducible exact wireloomref02_Text.mono _ _ _)
   | (with_reducible exact wireloomref02_Valid.mono _ _ _)
   | (with_reducible exact wireloomref02_read.mono _ _ _)
   | (with_reducible exact LeO.refl _)
   | (with_reducible exact LeO.none _)
   | (with_reducible refine LeO.ite ?_ ?_)
   | (with_reducible refine LeO.bind ?_ (fun _ => ?_))
   | exact ih0 _ _ _
   | exact ih1 _ _
   | exact ih2 _ _ _ _
   | exact ih3 _ _ _
   | exact wireloomref02_Text.mono _ _ _
   | exact wireloomref02_Valid.mono _ _ _
   | exact wireloomref02_read.mono _ _ _
   | exact LeO.none _
   | refine LeO.ite ?_ ?_
   | refine LeO.bind ?_ (fun _ => ?_)
  ·intro y0 y1
   unfold wireloomref02_ParseIn.j1
   repeat' first
   | (with_reducible exact ih0 _ _ _)
   | (with_reducible exact ih1 _ _)
   | (with_reducible exact ih2 _ _ _ _)
   | (with_reducible exact ih3 _ _ _)
   | (with_reducible exact wireloomref02_Text.mono _ _ _)
   | (with_reducible exact wireloomref02_Valid.mono _ _ _)
   | (with_reducible exact wireloomref02_read.mono _ _ _)
   | (with_reducible exact LeO.refl _)
   | (with_reducible exact LeO.none _)
   | (with_reducible refine LeO.ite ?_ ?_)
   | (with_reducible refine LeO.bind ?_ (fun _ => ?_))
   | exact ih0 _ _ _
   | exact ih1 _ _
   | exact ih2 _ _ _ _
   | exact ih3 _ _ _
   | exact wireloomref02_Text.mono _ _ _
   | exact wireloomref02_Valid.mono _ _ _
   | exact wireloomref02_read.mono _ _ _
   | exact LeO.none _
   | refine LeO.ite ?_ ?_
   | refine LeO.bind ?_ (fun _ => ?_)
  ·intro y0 y1 y2 y3
   unfold wireloomref02_ParseIn.j2
   repeat' first
   | (with_reducible exact ih0 _ _ _)
   | (with_reducible exact ih1 _ _)
   | (with_reducible exact ih2 _ _ _ _)
   | (with_reducible exact ih3 _ _ _)
   | (with_reducible exact wireloomref02_Text.mono _ _ _)
   | (with_reducible exact wireloomref02_Valid.mono _ _ _)
   | (with_reducible exact wireloomref02_read.mono _ _ _)
   | (with_reducible exact LeO.refl _)
   | (with_reducible exact LeO.none _)
   | (with_reducible refine LeO.ite ?_ ?_)
   | (with_reducible refine LeO.bind ?_ (fun _ => ?_))
   | exact ih0 _ _ _
   | exact ih1 _ _
   | exact ih2 _ _ _ _
   | exact ih3 _ _ _
   | exact wireloomref02_Text.mono _ _ _
   | exact wireloomref02_Valid.mono _ _ _
   | exact wireloomref02_read.mono _ _ _
   | exact LeO.none _
   | refine LeO.ite ?_ ?_
   | refine LeO.bind ?_ (fun _ => ?_)
  ·intro y0 y1 y2
   unfold wireloomref02_ParseIn.j3
   repeat' first
   | (with_reducible exact ih0 _ _ _)
   | (with_reducible exact ih1 _ _)
   | (with_reducible exact ih2 _ _ _ _)
   | (with_reducible exact ih3 _ _ _)
   | (with_reducible exact wireloomref02_Text.mono _ _ _)
   | (with_reducible exact wireloomref02_Valid.mono _ _ _)
   | (with_reducible exact wireloomref02_read.mono _ _ _)
   | (with_reducible exact LeO.refl _)
   | (with_reducible exact LeO.none _)
   | (with_reducible refine LeO.ite ?_ ?_)
   | (with_reducible refine LeO.bind ?_ (fun _ => ?_))
   | exact ih0 _ _ _
   | exact ih1 _ _
   | exact ih2 _ _ _ _
   | exact ih3 _ _ _
   | exact wireloomref02_Text.mono _ _ _
   | exact wireloomref02_Valid.mono _ _ _
   | exact wireloomref02_read.mono _ _ _
   | exact LeO.none _
   | refine LeO.ite ?_ ?_
   | refine LeO.bind ?_ (fun _ => ?_)
theorem wireloomref02_ParseIn.mono : ∀ a0 k, LeO (wireloomref02_ParseIn.f k a0) (wireloomref02_ParseIn.f (k + 1) a0) := by
 intro a0 k
 obtain ⟨ih0, ih1, ih2, ih3⟩ := wireloomref02_ParseIn.mono_l k
 unfold wireloomref02_ParseIn.f
 repeat' first
   | (with_reducible exact ih0 _ _ _)
   | (with_reducible exact ih1 _ _)
   | (with_reducible exact ih2 _ _ _ _)
   | (with_reducible exact ih3 _ _ _)
   | (with_reducible exact wireloomref02_Text.mono _ _ _)
   | (with_reducible exact wireloomref02_Valid.mono _ _ _)
   | (with_reducible exact wireloomref02_read.mono _ _ _)
   | (with_reducible exact LeO.refl _)
   | (with_reducible exact LeO.none _)
   | (with_reducible refine LeO.ite ?_ ?_)
   | (with_reducible refine LeO.bind ?_ (fun _ => ?_))
   | exact ih0 _ _ _
   | exact ih1 _ _
   | exact ih2 _ _ _ _
   | exact ih3 _ _ _
   | exact wireloomref02_Text.mono _ _ _
   | exact wireloomref02_Valid.mono _ _ _
   | exact wireloomref02_read.mono _ _ _
   | exact LeO.none _
   | refine LeO.ite ?_ ?_
   | refine LeO.bind ?_ (fun _ => ?_)
set_option maxHeartbeats 8000000 in
set_option maxRecDepth 100000 in
theorem wireloomref02_ParseIn.calls (k : Nat) (a0 : ByteArray) (r1 : Int) (r2 : Int) (r3 : Int) (w : World) (h : wireloomref02_ParseIn.f k a0 = some (r1, r2, r3)) :
  Calls Tryd.prog 20 #[.string a0] w fun e w' => e = .returned (.agg #[.int .i64 r1, .int .i64 r2, .int .i64 r3]) ∧ Below w.heap.size w w' := by
 have hu31 := Tryd.underlying31
 have hu25 := Tryd.underlying25
 have HB := Aside0.mk (Below.refl w.heap.size w)
 have H : (if (a0.size : Int) > 0 then (if 0 < (a0.size : Int) then (wireloomref02_ParseIn.j0 k a0 0 ((bt a0 0) == 45)) else (none)) else (wireloomref02_ParseIn.j0 k a0 0 false)) = some (r1, r2, r3) := h
 clear h
 have HC2 := Aside0.mk H
 clear H
 go_enter Tryd.func20, Tryd.ntmps20
 go_upto_region 2 with (first | ((with_reducible refine gate_dst (N := 2) rfl ?_); refine box_event ?hg (N := 2) ?hd (cs := #[.int .i64 0, .int .i64 0, .int .i64 0]) (t := 31) ?hr ?_; (case hd => rfl); (case hg => rfl); (case hr => first | (go_simp; done) | (go_simp; rfl)); intro gb410 hg w3 hbox hb; have BK410 := Aside0.mk (hbox); have GW410 := Aside0.mk ((by rw [hg]; exact (below_size (by repeat (first | (with_reducible first | exact HB.out | apply below_alloc | apply pw_below_drewN | apply below_drew1) | exact HB.out))) : w.heap.size ≤ gb410)); have GE410 := Aside0.mk ((by rw [hg]; exact (below_size (by repeat (first | (with_reducible first | exact HB.out | apply below_alloc | apply pw_below_drewN | apply below_drew1) | exact HB.out))) : w.heap.size ≤ gb410)); replace HB := Aside0.mk (below_step (by repeat (first | (with_reducible first | exact HB.out | apply below_alloc | apply pw_below_drewN | apply below_drew1) | exact HB.out)) hb); clear hb hbox hg))
 (try simp only [Act.put, List.setIfInBounds_toArray, List.set_cons_zero, List.set_cons_succ])
 go_cut [15] (fun v15 wc => ∃ (kq : Nat) (x15_1 : Bool), v15 = .bool x15_1 ∧ Aside0 (wireloomref02_ParseIn.j0 kq a0 0 x15_1 = some (r1, r2, r3)) ∧ Aside0 (kq ≤ k) ∧ Aside0 (wc.heap[gb410]? = some (.cells #[.int .i64 0, .int .i64 0, .int .i64 0] 31 (0, 0))) ∧ Aside0 (Below w.heap.size w wc))
 case first =>
  have H := HC2.out
  clear HC2
  by_cases c4 : (a0.size : Int) > 0
  ·rw [if_pos c4] at H
   have c4b0 : decide (0 < (a0.size : Int)) = true := decide_eq_true c4
   have c4b1 : decide (0 < a0.size) = true := decide_eq_true (by omega)
   clear c4
   (first | rw [c4b0] | (simp only [i64_w, i32_w]; rw [c4b0]) | skip)
   by_cases c5 : 0 < (a0.size : Int)
   ·rw [if_pos c5] at H
    have c5b0 : decide (0 < (a0.size : Int)) = true := decide_eq_true c5
    have c5b1 : decide (0 < a0.size) = true := decide_eq_true (by omega)
    clear c5
    have H' := Aside0.mk H
    clear H
    have p6 : 0 ≤ (0 : Int) := (by omega)
    have q6 : 0 < a0.size := (by have : (0 : Int) < (a0.size : Int) := of_decide_eq_true (by first | (with_reducible assumption) | assumption); omega)
    have hx6 : ∀ h : 0 < a0.size, ((a0[0]'h).toNat : Int) = bt a0 0 := bt_at a0 0
    clear p6
    have qi6 : (0 < (a0.size : Int)) = True := eq_true (of_decide_eq_true (by first | (with_reducible assumption) | assumption))
    replace q6 := eq_true q6
    go_wp2
    go_meet
    case rel => exact ⟨_, (((bt a0 0) == 45)), (by first | rfl | (simp; done) | (simp [*]; done)), H', ⟨by first | omega | exact Nat.le_refl _⟩, ⟨by (with_reducible repeat (first | refine blk_drewN ?_ _ | refine blk_drew ?_ | refine blk_alloc ?_ _)); exact BK410.out⟩, ⟨by repeat (first | (with_reducible first | exact HB.out | apply below_alloc | apply pw_below_drewN | apply below_drew1 | refine below_set ?_ GE410.out) | exact HB.out)⟩⟩
   ·rw [if_neg c5] at H
    exact absurd H (by simp)
  ·rw [if_neg c4] at H
   have c4b0 : decide (0 < (a0.size : Int)) = false := decide_eq_false c4
   have c4b1 : decide (0 < a0.size) = false := decide_eq_false (by omega)
   clear c4
   (first | rw [c4b0] | (simp only [i64_w, i32_w]; rw [c4b0]) | skip)
   have H' := Aside0.mk H
   clear H
   go_wp2
   go_meet
   case rel => exact ⟨_, (false), (by first | rfl | (simp; done) | (simp [*]; done)), H', ⟨by first | omega | exact Nat.le_refl _⟩, ⟨by (with_reducible repeat (first | refine blk_drewN ?_ _ | refine blk_drew ?_ | refine blk_alloc ?_ _)); exact BK410.out⟩, ⟨by repeat (first | (with_reducible first | exact HB.out | apply below_alloc | apply pw_below_drewN | apply below_drew1 | refine below_set ?_ GE410.out) | exact HB.out)⟩⟩
 case rest =>
  clear HC2
  try clear c2
  try clear p2
  try clear c4
  try clear c4b0
  try clear c4b1
  try clear c5
  try clear c5b0
  try clear c5b1
  try clear p6
  try clear q6
  try clear hx6
  try clear qi6
  try clear p6
  try clear q6
  obtain ⟨kq, x15_1, rfl, HA, HJ1, BK410, HB⟩ := hcut
  cases kq with
  | zero => exact absurd HA.out (by simp [wireloomref02_ParseIn.j0])
  | succ kj1 =>
   have H := HA.out
   clear HA
   simp only [wireloomref02_ParseIn.j0] at H
   have HC7 := Aside0.mk H
   clear H
   go_upto_if 15 with (fail)
   go_cut [3] (fun v3 wc => ∃ (kq : Nat) (x3_6 : Int), v3 = .int .i64 x3_6 ∧ Aside0 (wireloomref02_ParseIn.j1 kq a0 x3_6 = some (r1, r2, r3)) ∧ Aside0 (kq ≤ kj1) ∧ Aside0 (wc.heap[gb410]? = some (.cells #[.int .i64 0, .int .i64 0, .int .i64 0] 31 (0, 0))) ∧ Aside0 (Below w.heap.size w wc))
   case first =>
    have H := HC7.out
    clear HC7
    by_cases c8 : x15_1 = true
    ·subst c8
     have H1 : (wireloomref02_ParseIn.j1 kj1 a0 1) = some (r1, r2, r3) := by rw [if_pos rfl] at H; exact H
     clear H
     have H := H1
     clear H1
     have H' := Aside0.mk H
     clear H
     go_wp2
     go_meet
     case rel => exact ⟨_, (1), (by first | rfl | (simp; done) | (simp [*]; done)), H', ⟨by have := HJ1.out; first | omega | exact Nat.le_refl _⟩, ⟨by (with_reducible repeat (first | refine blk_drewN ?_ _ | refine blk_drew ?_ | refine blk_alloc ?_ _)); exact BK410.out⟩, ⟨by repeat (first | (with_reducible first | exact HB.out | apply below_alloc | apply pw_below_drewN | apply below_drew1 | refine below_set ?_ GE410.out) | exact HB.out)⟩⟩
    ·replace c8 := Bool.eq_false_iff.mpr c8
     subst c8
     have H1 : (wireloomref02_ParseIn.j1 kj1 a0 0) = some (r1, r2, r3) := by rw [if_neg (show ¬ (false = true) by decide)] at H; exact H
     clear H
     have H := H1
     clear H1
     have H' := Aside0.mk H
     clear H
     go_wp2
     go_meet
     case rel => exact ⟨_, (0), (by first | rfl | (simp; done) | (simp [*]; done)), H', ⟨by have := HJ1.out; first | omega | exact Nat.le_refl _⟩, ⟨by (with_reducible repeat (first | refine blk_drewN ?_ _ | refine blk_drew ?_ | refine blk_alloc ?_ _)); exact BK410.out⟩, ⟨by repeat (first | (with_reducible first | exact HB.out | apply below_alloc | apply pw_below_drewN | apply below_drew1 | refine below_set ?_ GE410.out) | exact HB.out)⟩⟩
   case rest =>
    clear HC7
    try clear c2
    try clear p2
    try clear c4
    try clear c4b0
    try clear c4b1
    try clear c5
    try clear c5b0
    try clear c5b1
    try clear p6
    try clear q6
    try clear hx6
    try clear qi6
    try clear c8
    try clear p2
    try clear p6
    try clear q6
    obtain ⟨kq, x3_6, rfl, HA, HJ6, BK410, HB⟩ := hcut
    cases kq with
    | zero => exact absurd HA.out (by simp [wireloomref02_ParseIn.j1])
    | succ kj6 =>
     have H := HA.out
     clear HA
     simp only [wireloomref02_ParseIn.j1] at H
     replace H := Option.bind_eq_some_iff.mp H
     obtain ⟨⟨t411, t412⟩, A90, H⟩ := H
     replace H : (if t412 < (a0.size : Int) then ((wireloomref02_read.f kj6 a0 (wrap64 (t412 + 1))).bind fun bt413 => (wireloomref02_ParseIn.j2 kj6 a0 x3_6 t411 bt413.1)) else (wireloomref02_ParseIn.j2 kj6 a0 x3_6 t411 1)) = some (r1, r2, r3) := H
     have A9 := Aside0.mk A90
     clear A90
     have HC10 := Aside0.mk H
     clear H
     go_upto_if 25 with (first | ((with_reducible refine gate_callee (f := 36) rfl ?_); refine goesL_ (some 19) rfl rfl Tryd.func36 (by kernel_rfl) rfl #[.string a0, .int .i64 x3_6] rfl (by (try simp only [List.map_toArray, List.map_cons, List.map_nil]); first | done | rfl | (simp only [List.length_drop, List.length_take]; rfl)) ?_; (with_reducible refine (wireloomref02_read.calls kj6 a0 x3_6 t411 t412 _ A9.out).mono ?_); rintro e w' ⟨rfl, ⟨nd, rfl⟩⟩; refine ⟨_, rfl, ?_⟩))
     (try simp only [Act.put, List.setIfInBounds_toArray, List.set_cons_zero, List.set_cons_succ])
     go_cut [6] (fun v6 wc => ∃ (kq : Nat) (x6_9 : Int), v6 = .int .i64 x6_9 ∧ Aside0 (wireloomref02_ParseIn.j2 kq a0 x3_6 t411 x6_9 = some (r1, r2, r3)) ∧ Aside0 (kq ≤ kj6) ∧ Aside0 (wc.heap[gb410]? = some (.cells #[.int .i64 0, .int .i64 0, .int .i64 0] 31 (0, 0))) ∧ Aside0 (Below w.heap.size w wc))
     case first =>
      have H := HC10.out
      clear HC10
      by_cases c11 : t412 < (a0.size : Int)
      ·rw [if_pos c11] at H
       have c11b0 : decide (t412 < (a0.size : Int)) = true := decide_eq_true c11
       clear c11
       (first | rw [c11b0] | (simp only [i64_w, i32_w]; rw [c11b0]) | skip)
       replace H := Option.bind_eq_some_iff.mp H
       obtain ⟨⟨t413, t414⟩, A120, H⟩ := H
       replace H : (wireloomref02_ParseIn.j2 kj6 a0 x3_6 t411 t413) = some (r1, r2, r3) := H
       have A12 := Aside0.mk A120
       clear A120
       have H' := Aside0.mk H
       clear H
       go_wp2_with (first | ((with_reducible refine gate_callee (f := 36) rfl ?_); refine goesL_ (some 30) rfl rfl Tryd.func36 (by kernel_rfl) rfl #[.string a0, .int .i64 (wrap64 (t412 + 1))] rfl (by (try simp only [List.map_toArray, List.map_cons, List.map_nil]); first | done | rfl | (simp only [List.length_drop, List.length_take]; rfl)) ?_; (with_reducible refine (wireloomref02_read.calls kj6 a0 (wrap64 (t412 + 1)) t413 t414 _ A12.out).mono ?_); rintro e w' ⟨rfl, ⟨nd, rfl⟩⟩; refine ⟨_, rfl, ?_⟩))
       go_meet
       case rel => exact ⟨_, (t413), (by first | rfl | (simp; done) | (simp [*]; done)), H', ⟨by have := HJ1.out; have := HJ6.out; first | omega | exact Nat.le_refl _⟩, ⟨by (with_reducible repeat (first | refine blk_drewN ?_ _ | refine blk_drew ?_ | refine blk_alloc ?_ _)); exact BK410.out⟩, ⟨by repeat (first | (with_reducible first | exact HB.out | apply below_alloc | apply pw_below_drewN | apply below_drew1 | refine below_set ?_ GE410.out) | exact HB.out)⟩⟩
      ·rw [if_neg c11] at H
       have c11b0 : decide (t412 < (a0.size : Int)) = false := decide_eq_false c11
       clear c11
       (first | rw [c11b0] | (simp only [i64_w, i32_w]; rw [c11b0]) | skip)
       have H' := Aside0.mk H
       clear H
       go_wp2
       go_meet
       case rel => exact ⟨_, (1), (by first | rfl | (simp; done) | (simp [*]; done)), H', ⟨by have := HJ1.out; have := HJ6.out; first | omega | exact Nat.le_refl _⟩, ⟨by (with_reducible repeat (first | refine blk_drewN ?_ _ | refine blk_drew ?_ | refine blk_alloc ?_ _)); exact BK410.out⟩, ⟨by repeat (first | (with_reducible first | exact HB.out | apply below_alloc | apply pw_below_drewN | apply below_drew1 | refine below_set ?_ GE410.out) | exact HB.out)⟩⟩
     case rest =>
      clear HC10
      try clear c1
      try clear c2
      try clear p2
      try clear c3
      try clear c4
      try clear c4b0
      try clear c4b1
      try clear c5
      try clear c5b0
      try clear c5b1
      try clear p6
      try clear q6
      try clear hx6
      try clear qi6
      try clear c8
      try clear c11
      try clear c11b0
      try clear p2
      try clear p6
      try clear q6
      obtain ⟨kq, x6_9, rfl, HA, HJ9, BK410, HB⟩ := hcut
      cases kq with
      | zero => exact absurd HA.out (by simp [wireloomref02_ParseIn.j2])
      | succ kj9 =>
       have H := HA.out
       clear HA
       simp only [wireloomref02_ParseIn.j2] at H
       have HC13 := Aside0.mk H
       clear H
       go_upto_if 34 with (fail)
       go_cut [4] (fun v4 wc => ∃ (kq : Nat) (x4_12 : Int), v4 = .int .i64 x4_12 ∧ Aside0 (wireloomref02_ParseIn.j3 kq a0 x4_12 x6_9 = some (r1, r2, r3)) ∧ Aside0 (kq ≤ kj9) ∧ Aside0 (wc.heap[gb410]? = some (.cells #[.int .i64 0, .int .i64 0, .int .i64 0] 31 (0, 0))) ∧ Aside0 (Below w.heap.size w wc))
       case first =>
        have H := HC13.out
        clear HC13
        by_cases c14 : x3_6 = 1
        ·rw [if_pos c14] at H
         have c14b0 : (x3_6 == 1) = true := beq_iff_eq.mpr c14
         have c14b1 : (x3_6 != 1) = false := bne_eq_false_iff_eq.mpr c14
         clear c14
         (first | rw [c14b0] | (simp only [i64_w, i32_w]; rw [c14b0]) | skip)
         have H' := Aside0.mk H
         clear H
         go_wp2
         go_meet
         case rel => exact ⟨_, (wrap64 (-t411)), (by first | rfl | (simp; done) | (simp [*]; done)), H', ⟨by have := HJ1.out; have := HJ6.out; have := HJ9.out; first | omega | exact Nat.le_refl _⟩, ⟨by (with_reducible repeat (first | refine blk_drewN ?_ _ | refine blk_drew ?_ | refine blk_alloc ?_ _)); exact BK410.out⟩, ⟨by repeat (first | (with_reducible first | exact HB.out | apply below_alloc | apply pw_below_drewN | apply below_drew1 | refine below_set ?_ GE410.out) | exact HB.out)⟩⟩
        ·rw [if_neg c14] at H
         have c14b0 : (x3_6 == 1) = false := beq_eq_false_iff_ne.mpr c14
         have c14b1 : (x3_6 != 1) = true := bne_iff_ne.mpr c14
         (first | rw [c14b0] | (simp only [i64_w, i32_w]; rw [c14b0]) | skip)
         have H' := Aside0.mk H
         clear H
         go_wp2
         go_meet
         case rel => exact ⟨_, (t411), (by first | rfl | (simp; done) | (simp [*]; done)), H', ⟨by have := HJ1.out; have := HJ6.out; have := HJ9.out; first | omega | exact Nat.le_refl _⟩, ⟨by (with_reducible repeat (first | refine blk_drewN ?_ _ | refine blk_drew ?_ | refine blk_alloc ?_ _)); exact BK410.out⟩, ⟨by repeat (first | (with_reducible first | exact HB.out | apply below_alloc | apply pw_below_drewN | apply below_drew1 | refine below_set ?_ GE410.out) | exact HB.out)⟩⟩
       case rest =>
        clear HC13
        try clear c1
        try clear c2
        try clear p2
        try clear c3
        try clear c4
        try clear c4b0
        try clear c4b1
        try clear c5
        try clear c5b0
        try clear c5b1
        try clear p6
        try clear q6
        try clear hx6
        try clear qi6
        try clear c8
        try clear c11
        try clear c11b0
        try clear c14
        try clear c14b0
        try clear c14b1
        try clear p2
        try clear p6
        try clear q6
        obtain ⟨kq, x4_12, rfl, HA, HJ12, BK410, HB⟩ := hcut
        cases kq with
        | zero => exact absurd HA.out (by simp [wireloomref02_ParseIn.j3])
        | succ kj12 =>
         have H := HA.out
         clear HA
         simp only [wireloomref02_ParseIn.j3] at H
         replace H := Option.bind_eq_some_iff.mp H
         obtain ⟨t416, A150, H⟩ := H
         replace H : (if t416 = true then ((wireloomref02_Text.f kj12 x4_12 x6_9).bind fun t417 => (if t417.toList = a0.toList then (some (x4_12, x6_9, 0)) else (some (0, 0, 5)))) else (some (0, 0, 5))) = some (r1, r2, r3) := H
         have A15 := Aside0.mk A150
         clear A150
         by_cases c16 : t416 = true
         ·subst c16
          have H1 : ((wireloomref02_Text.f kj12 x4_12 x6_9).bind fun t417 => (if t417.toList = a0.toList then (some (x4_12, x6_9, 0)) else (some (0, 0, 5)))) = some (r1, r2, r3) := by rw [if_pos rfl] at H; exact H
          clear H
          have H := H1
          clear H1
          replace H := Option.bind_eq_some_iff.mp H
          obtain ⟨t417, A170, H⟩ := H
          replace H : (if t417.toList = a0.toList then (some (x4_12, x6_9, 0)) else (some (0, 0, 5))) = some (r1, r2, r3) := H
          have A17 := Aside0.mk A170
          clear A170
          by_cases c18 : t417.toList = a0.toList
          ·rw [if_pos c18] at H
           have c18b0 : (t417.toList == a0.toList) = true := beq_iff_eq.mpr c18
           have c18b1 : (t417.toList != a0.toList) = false := bne_eq_false_iff_eq.mpr c18
           clear c18
           simp only [Option.some.injEq, Prod.mk.injEq] at H
           obtain ⟨rfl, rfl, rfl⟩ := H
           go_wp2_with (first | ((with_reducible refine gate_dst (N := 7) rfl ?_); refine box_event ?hg (N := 7) ?hd (cs := #[.int .i64 0, .int .i64 0]) (t := 25) ?hr ?_; (case hd => rfl); (case hg => rfl); (case hr => first | (go_simp; done) | (go_simp; rfl)); intro gb415 hg w19 hbox hb; have BK415 := Aside0.mk (hbox); have GW415 := Aside0.mk ((by rw [hg]; exact (below_size (by repeat (first | (with_reducible first | exact HB.out | apply below_alloc | apply pw_below_drewN | apply below_drew1 | refine below_set ?_ GE410.out) | exact HB.out))) : w.heap.size ≤ gb415)); have GE415 := Aside0.mk ((by rw [hg]; exact (below_size (by repeat (first | (with_reducible first | exact HB.out | apply below_alloc | apply pw_below_drewN | apply below_drew1 | refine below_set ?_ GE410.out) | exact HB.out))) : w.heap.size ≤ gb415)); replace HB := Aside0.mk (below_step (by repeat (first | (with_reducible first | exact HB.out | apply below_alloc | apply pw_below_drewN | apply below_drew1 | refine below_set ?_ GE410.out) | exact HB.out)) hb); have NB410_415 := Aside0.mk ((by rw [hg]; exact Nat.ne_of_lt (blk_lt (g := gb410) (o := .cells #[.int .i64 0, .int .i64 0, .int .i64 0] 31 (0, 0)) (by (with_reducible repeat (first | refine blk_drewN ?_ _ | refine blk_drew ?_ | refine blk_alloc ?_ _)); exact BK410.out)) : gb410 ≠ gb415)); have NB415_410 := Aside0.mk ((by rw [hg]; exact Nat.ne_of_gt (blk_lt (g := gb410) (o := .cells #[.int .i64 0, .int .i64 0, .int .i64 0] 31 (0, 0)) (by (with_reducible repeat (first | refine blk_drewN ?_ _ | refine blk_drew ?_ | refine blk_alloc ?_ _)); exact BK410.out)) : gb415 ≠ gb410)); replace BK410 := Aside0.mk (blk_below (g := gb410) (o := .cells #[.int .i64 0, .int .i64 0, .int .i64 0] 31 (0, 0)) (by (with_reducible repeat (first | refine blk_drewN ?_ _ | refine blk_drew ?_ | refine blk_alloc ?_ _)); exact BK410.out) hb); clear hb hbox hg; have hnb20 := NB415_410.out; have hnc20 := NB410_415.out; have hcz21_0 : w19.cell? ⟨gb415, 0, none⟩ = some (.int .i64 0) := (blk_cell BK415.out 0).trans rfl; have hcz21_1 : w19.cell? ⟨gb415, 1, none⟩ = some (.int .i64 0) := (blk_cell BK415.out 1).trans rfl; have hfz21_0 := blk_frozen BK415.out 0; have hfz21_1 := blk_frozen BK415.out 1) | ((with_reducible refine gate_callee (f := 37) rfl ?_); refine goesL_ (some 41) rfl rfl Tryd.func37 (by kernel_rfl) rfl #[.agg #[.int .i64 x4_12, .int .i64 x6_9]] rfl (by (try simp only [List.map_toArray, List.map_cons, List.map_nil]); first | done | rfl | (simp only [List.length_drop, List.length_take]; rfl)) ?_; (with_reducible refine (wireloomref02_Valid.calls kj12 x4_12 x6_9 true _ A15.out).mono ?_); rintro e w22 ⟨rfl, hb⟩; refine ⟨_, rfl, ?_⟩; replace BK410 := Aside0.mk (blk_below (g := gb410) (o := .cells #[.int .i64 0, .int .i64 0, .int .i64 0] 31 (0, 0)) (by repeat first | (with_reducible first | refine blk_drewN ?_ _ | refine blk_drew ?_ | refine blk_alloc ?_ _) | refine blk_far ?_ NB410_415.out _ | exact BK410.out) hb); replace BK415 := Aside0.mk (blk_below (g := gb415) (o := .cells #[.int .i64 x4_12, .int .i64 x6_9] 25 (0, 0)) (by (with_reducible repeat (first | refine blk_drewN ?_ _ | refine blk_drew ?_ | refine blk_alloc ?_ _)); refine blk_put (cs := #[.int .i64 x4_12, .int .i64 0]) ?_ 1 _ rfl; (with_reducible repeat (first | refine blk_drewN ?_ _ | refine blk_drew ?_ | refine blk_alloc ?_ _)); refine blk_put (cs := #[.int .i64 0, .int .i64 0]) ?_ 0 _ rfl; (with_reducible repeat (first | refine blk_drewN ?_ _ | refine blk_drew ?_ | refine blk_alloc ?_ _)); exact BK415.out) hb); replace HB := Aside0.mk (below_step (by repeat (first | (with_reducible first | exact HB.out | apply below_alloc | apply pw_below_drewN | apply below_drew1 | refine below_set ?_ GE410.out | refine below_set ?_ GE415.out) | exact HB.out)) hb); (try clear hb); (try clear A15); have hcz23_0 : w22.cell? ⟨gb415, 0, none⟩ = some (.int .i64 x4_12) := (blk_cell BK415.out 0).trans rfl; have hcz23_1 : w22.cell? ⟨gb415, 1, none⟩ = some (.int .i64 x6_9) := (blk_cell BK415.out 1).trans rfl; have hfz23_0 := blk_frozen BK415.out 0; have hfz23_1 := blk_frozen BK415.out 1) | (go_at_call 38; (with_reducible refine (wireloomref02_Text.calls kj12 x4_12 x6_9 t417 _ A17.out).mono ?_); rintro e w24 ⟨rfl, hb⟩; replace BK410 := Aside0.mk (blk_below (g := gb410) (o := .cells #[.int .i64 0, .int .i64 0, .int .i64 0] 31 (0, 0)) (by (with_reducible repeat (first | refine blk_drewN ?_ _ | refine blk_drew ?_ | refine blk_alloc ?_ _)); exact BK410.out) hb); replace BK415 := Aside0.mk (blk_below (g := gb415) (o := .cells #[.int .i64 x4_12, .int .i64 x6_9] 25 (0, 0)) (by (with_reducible repeat (first | refine blk_drewN ?_ _ | refine blk_drew ?_ | refine blk_alloc ?_ _)); exact BK415.out) hb); replace HB := Aside0.mk (below_step (by repeat (first | (with_reducible first | exact HB.out | apply below_alloc | apply pw_below_drewN | apply below_drew1 | refine below_set ?_ GE410.out | refine below_set ?_ GE415.out) | exact HB.out)) hb); (try clear hb); (try clear A17); have hcz25_0 : w24.cell? ⟨gb415, 0, none⟩ = some (.int .i64 x4_12) := (blk_cell BK415.out 0).trans rfl; have hcz25_1 : w24.cell? ⟨gb415, 1, none⟩ = some (.int .i64 x6_9) := (blk_cell BK415.out 1).trans rfl; have hfz25_0 := blk_frozen BK415.out 0; have hfz25_1 := blk_frozen BK415.out 1; have hcz26_0 : w24.cell? ⟨gb410, 0, none⟩ = some (.int .i64 0) := (blk_cell BK410.out 0).trans rfl; have hcz26_1 : w24.cell? ⟨gb410, 1, none⟩ = some (.int .i64 0) := (blk_cell BK410.out 1).trans rfl; have hcz26_2 : w24.cell? ⟨gb410, 2, none⟩ = some (.int .i64 0) := (blk_cell BK410.out 2).trans rfl; have hfz26_0 := blk_frozen BK410.out 0; have hfz26_1 := blk_frozen BK410.out 1; have hfz26_2 := blk_frozen BK410.out 2))
           refine bodyPost_ret (results_cell_row rfl _ _ gb410 31 #[.int .i64 x4_12, .int .i64 x6_9, .int .i64 0] (0, 0) _ rfl (by (with_reducible repeat (first | refine blk_drewN ?_ _ | refine blk_drew ?_ | refine blk_alloc ?_ _)); refine blk_put (cs := #[.int .i64 x4_12, .int .i64 x6_9, .int .i64 0]) ?_ 2 _ rfl; (with_reducible repeat (first | refine blk_drewN ?_ _ | refine blk_drew ?_ | refine blk_alloc ?_ _)); refine blk_put (cs := #[.int .i64 x4_12, .int .i64 0, .int .i64 0]) ?_ 1 _ rfl; (with_reducible repeat (first | refine blk_drewN ?_ _ | refine blk_drew ?_ | refine blk_alloc ?_ _)); refine blk_put (cs := #[.int .i64 0, .int .i64 0, .int .i64 0]) ?_ 0 _ rfl; (with_reducible repeat (first | refine blk_drewN ?_ _ | refine blk_drew ?_ | refine blk_alloc ?_ _)); exact BK410.out) Tryd.underlying31 rfl (by kernel_rfl)) rfl ?_
           exact ⟨by first | rfl | (simp [errW_none, errW_some] <;> rfl) | (simp [*, errW_none, errW_some] <;> rfl), by repeat (first | (with_reducible first | exact HB.out | apply below_alloc | apply pw_below_drewN | apply below_drew1 | refine below_set ?_ GE410.out | refine below_set ?_ GE415.out) | exact HB.out)⟩
          ·rw [if_neg c18] at H
           have c18b0 : (t417.toList == a0.toList) = false := beq_eq_false_iff_ne.mpr c18
           have c18b1 : (t417.toList != a0.toList) = true := bne_iff_ne.mpr c18
           simp only [Option.some.injEq, Prod.mk.injEq] at H
           obtain ⟨rfl, rfl, rfl⟩ := H
           go_wp2_with (first | ((with_reducible refine gate_dst (N := 7) rfl ?_); refine box_event ?hg (N := 7) ?hd (cs := #[.int .i64 0, .int .i64 0]) (t := 25) ?hr ?_; (case hd => rfl); (case hg => rfl); (case hr => first | (go_simp; done) | (go_simp; rfl)); intro gb415 hg w27 hbox hb; have BK415 := Aside0.mk (hbox); have GW415 := Aside0.mk ((by rw [hg]; exact (below_size (by repeat (first | (with_reducible first | exact HB.out | apply below_alloc | apply pw_below_drewN | apply below_drew1 | refine below_set ?_ GE410.out) | exact HB.out))) : w.heap.size ≤ gb415)); have GE415 := Aside0.mk ((by rw [hg]; exact (below_size (by repeat (first | (with_reducible first | exact HB.out | apply below_alloc | apply pw_below_drewN | apply below_drew1 | refine below_set ?_ GE410.out) | exact HB.out))) : w.heap.size ≤ gb415)); replace HB := Aside0.mk (below_step (by repeat (first | (with_reducible first | exact HB.out | apply below_alloc | apply pw_below_drewN | apply below_drew1 | refine below_set ?_ GE410.out) | exact HB.out)) hb); have NB410_415 := Aside0.mk ((by rw [hg]; exact Nat.ne_of_lt (blk_lt (g := gb410) (o := .cells #[.int .i64 0, .int .i64 0, .int .i64 0] 31 (0, 0)) (by (with_reducible repeat (first | refine blk_drewN ?_ _ | refine blk_drew ?_ | refine blk_alloc ?_ _)); exact BK410.out)) : gb410 ≠ gb415)); have NB415_410 := Aside0.mk ((by rw [hg]; exact Nat.ne_of_gt (blk_lt (g := gb410) (o := .cells #[.int .i64 0, .int .i64 0, .int .i64 0] 31 (0, 0)) (by (with_reducible repeat (first | refine blk_drewN ?_ _ | refine blk_drew ?_ | refine blk_alloc ?_ _)); exact BK410.out)) : gb415 ≠ gb410)); replace BK410 := Aside0.mk (blk_below (g := gb410) (o := .cells #[.int .i64 0, .int .i64 0, .int .i64 0] 31 (0, 0)) (by (with_reducible repeat (first | refine blk_drewN ?_ _ | refine blk_drew ?_ | refine blk_alloc ?_ _)); exact BK410.out) hb); clear hb hbox hg; have hnb28 := NB415_410.out; have hnc28 := NB410_415.out; have hcz29_0 : w27.cell? ⟨gb415, 0, none⟩ = some (.int .i64 0) := (blk_cell BK415.out 0).trans rfl; have hcz29_1 : w27.cell? ⟨gb415, 1, none⟩ = some (.int .i64 0) := (blk_cell BK415.out 1).trans rfl; have hfz29_0 := blk_frozen BK415.out 0; have hfz29_1 := blk_frozen BK415.out 1) | ((with_reducible refine gate_callee (f := 37) rfl ?_); refine goesL_ (some 41) rfl rfl Tryd.func37 (by kernel_rfl) rfl #[.agg #[.int .i64 x4_12, .int .i64 x6_9]] rfl (by (try simp only [List.map_toArray, List.map_cons, List.map_nil]); first | done | rfl | (simp only [List.length_drop, List.length_take]; rfl)) ?_; (with_reducible refine (wireloomref02_Valid.calls kj12 x4_12 x6_9 true _ A15.out).mono ?_); rintro e w30 ⟨rfl, hb⟩; refine ⟨_, rfl, ?_⟩; replace BK410 := Aside0.mk (blk_below (g := gb410) (o := .cells #[.int .i64 0, .int .i64 0, .int .i64 0] 31 (0, 0)) (by repeat first | (with_reducible first | refine blk_drewN ?_ _ | refine blk_drew ?_ | refine blk_alloc ?_ _) | refine blk_far ?_ NB410_415.out _ | exact BK410.out) hb); replace BK415 := Aside0.mk (blk_below (g := gb415) (o := .cells #[.int .i64 x4_12, .int .i64 x6_9] 25 (0, 0)) (by (with_reducible repeat (first | refine blk_drewN ?_ _ | refine blk_drew ?_ | refine blk_alloc ?_ _)); refine blk_put (cs := #[.int .i64 x4_12, .int .i64 0]) ?_ 1 _ rfl; (with_reducible repeat (first | refine blk_drewN ?_ _ | refine blk_drew ?_ | refine blk_alloc ?_ _)); refine blk_put (cs := #[.int .i64 0, .int .i64 0]) ?_ 0 _ rfl; (with_reducible repeat (first | refine blk_drewN ?_ _ | refine blk_drew ?_ | refine blk_alloc ?_ _)); exact BK415.out) hb); replace HB := Aside0.mk (below_step (by repeat (first | (with_reducible first | exact HB.out | apply below_alloc | apply pw_below_drewN | apply below_drew1 | refine below_set ?_ GE410.out | refine below_set ?_ GE415.out) | exact HB.out)) hb); (try clear hb); (try clear A15); have hcz31_0 : w30.cell? ⟨gb415, 0, none⟩ = some (.int .i64 x4_12) := (blk_cell BK415.out 0).trans rfl; have hcz31_1 : w30.cell? ⟨gb415, 1, none⟩ = some (.int .i64 x6_9) := (blk_cell BK415.out 1).trans rfl; have hfz31_0 := blk_frozen BK415.out 0; have hfz31_1 := blk_frozen BK415.out 1) | (go_at_call 38; (with_reducible refine (wireloomref02_Text.calls kj12 x4_12 x6_9 t417 _ A17.out).mono ?_); rintro e w32 ⟨rfl, hb⟩; replace BK410 := Aside0.mk (blk_below (g := gb410) (o := .cells #[.int .i64 0, .int .i64 0, .int .i64 0] 31 (0, 0)) (by (with_reducible repeat (first | refine blk_drewN ?_ _ | refine blk_drew ?_ | refine blk_alloc ?_ _)); exact BK410.out) hb); replace BK415 := Aside0.mk (blk_below (g := gb415) (o := .cells #[.int .i64 x4_12, .int .i64 x6_9] 25 (0, 0)) (by (with_reducible repeat (first | refine blk_drewN ?_ _ | refine blk_drew ?_ | refine blk_alloc ?_ _)); exact BK415.out) hb); replace HB := Aside0.mk (below_step (by repeat (first | (with_reducible first | exact HB.out | apply below_alloc | apply pw_below_drewN | apply below_drew1 | refine below_set ?_ GE410.out | refine below_set ?_ GE415.out) | exact HB.out)) hb); (try clear hb); (try clear A17); have hcz33_0 : w32.cell? ⟨gb410, 0, none⟩ = some (.int .i64 0) := (blk_cell BK410.out 0).trans rfl; have hcz33_1 : w32.cell? ⟨gb410, 1, none⟩ = some (.int .i64 0) := (blk_cell BK410.out 1).trans rfl; have hcz33_2 : w32.cell? ⟨gb410, 2, none⟩ = some (.int .i64 0) := (blk_cell BK410.out 2).trans rfl; have hfz33_0 := blk_frozen BK410.out 0; have hfz33_1 := blk_frozen BK410.out 1; have hfz33_2 := blk_frozen BK410.out 2))
           refine bodyPost_ret (results_cell_row rfl _ _ gb410 31 #[.int .i64 0, .int .i64 0, .int .i64 5] (0, 0) _ rfl (by (with_reducible repeat (first | refine blk_drewN ?_ _ | refine blk_drew ?_ | refine blk_alloc ?_ _)); refine blk_put (cs := #[.int .i64 0, .int .i64 0, .int .i64 0]) ?_ 2 _ rfl; (with_reducible repeat (first | refine blk_drewN ?_ _ | refine blk_drew ?_ | refine blk_alloc ?_ _)); refine blk_put (cs := #[.int .i64 0, .int .i64 0, .int .i64 0]) ?_ 1 _ rfl; (with_reducible repeat (first | refine blk_drewN ?_ _ | refine blk_drew ?_ | refine blk_alloc ?_ _)); refine blk_put (cs := #[.int .i64 0, .int .i64 0, .int .i64 0]) ?_ 0 _ rfl; (with_reducible repeat (first | refine blk_drewN ?_ _ | refine blk_drew ?_ | refine blk_alloc ?_ _)); exact BK410.out) Tryd.underlying31 rfl (by kernel_rfl)) rfl ?_
           exact ⟨by first | rfl | (simp [errW_none, errW_some] <;> rfl) | (simp [*, errW_none, errW_some] <;> rfl), by repeat (first | (with_reducible first | exact HB.out | apply below_alloc | apply pw_below_drewN | apply below_drew1 | refine below_set ?_ GE410.out | refine below_set ?_ GE415.out) | exact HB.out)⟩
         ·replace c16 := Bool.eq_false_iff.mpr c16
          subst c16
          have H1 : (some (0, 0, 5)) = some (r1, r2, r3) := by rw [if_neg (show ¬ (false = true) by decide)] at H; exact H
          clear H
          have H := H1
          clear H1
          simp only [Option.some.injEq, Prod.mk.injEq] at H
          obtain ⟨rfl, rfl, rfl⟩ := H
          go_wp2_with (first | ((with_reducible refine gate_dst (N := 7) rfl ?_); refine box_event ?hg (N := 7) ?hd (cs := #[.int .i64 0, .int .i64 0]) (t := 25) ?hr ?_; (case hd => rfl); (case hg => rfl); (case hr => first | (go_simp; done) | (go_simp; rfl)); intro gb415 hg w34 hbox hb; have BK415 := Aside0.mk (hbox); have GW415 := Aside0.mk ((by rw [hg]; exact (below_size (by repeat (first | (with_reducible first | exact HB.out | apply below_alloc | apply pw_below_drewN | apply below_drew1 | refine below_set ?_ GE410.out) | exact HB.out))) : w.heap.size ≤ gb415)); have GE415 := Aside0.mk ((by rw [hg]; exact (below_size (by repeat (first | (with_reducible first | exact HB.out | apply below_alloc | apply pw_below_drewN | apply below_drew1 | refine below_set ?_ GE410.out) | exact HB.out))) : w.heap.size ≤ gb415)); replace HB := Aside0.mk (below_step (by repeat (first | (with_reducible first | exact HB.out | apply below_alloc | apply pw_below_drewN | apply below_drew1 | refine below_set ?_ GE410.out) | exact HB.out)) hb); have NB410_415 := Aside0.mk ((by rw [hg]; exact Nat.ne_of_lt (blk_lt (g := gb410) (o := .cells #[.int .i64 0, .int .i64 0, .int .i64 0] 31 (0, 0)) (by (with_reducible repeat (first | refine blk_drewN ?_ _ | refine blk_drew ?_ | refine blk_alloc ?_ _)); exact BK410.out)) : gb410 ≠ gb415)); have NB415_410 := Aside0.mk ((by rw [hg]; exact Nat.ne_of_gt (blk_lt (g := gb410) (o := .cells #[.int .i64 0, .int .i64 0, .int .i64 0] 31 (0, 0)) (by (with_reducible repeat (first | refine blk_drewN ?_ _ | refine blk_drew ?_ | refine blk_alloc ?_ _)); exact BK410.out)) : gb415 ≠ gb410)); replace BK410 := Aside0.mk (blk_below (g := gb410) (o := .cells #[.int .i64 0, .int .i64 0, .int .i64 0] 31 (0, 0)) (by (with_reducible repeat (first | refine blk_drewN ?_ _ | refine blk_drew ?_ | refine blk_alloc ?_ _)); exact BK410.out) hb); clear hb hbox hg; have hnb35 := NB415_410.out; have hnc35 := NB410_415.out; have hcz36_0 : w34.cell? ⟨gb415, 0, none⟩ = some (.int .i64 0) := (blk_cell BK415.out 0).trans rfl; have hcz36_1 : w34.cell? ⟨gb415, 1, none⟩ = some (.int .i64 0) := (blk_cell BK415.out 1).trans rfl; have hfz36_0 := blk_frozen BK415.out 0; have hfz36_1 := blk_frozen BK415.out 1) | ((with_reducible refine gate_callee (f := 37) rfl ?_); refine goesL_ (some 41) rfl rfl Tryd.func37 (by kernel_rfl) rfl #[.agg #[.int .i64 x4_12, .int .i64 x6_9]] rfl (by (try simp only [List.map_toArray, List.map_cons, List.map_nil]); first | done | rfl | (simp only [List.length_drop, List.length_take]; rfl)) ?_; (with_reducible refine (wireloomref02_Valid.calls kj12 x4_12 x6_9 false _ A15.out).mono ?_); rintro e w37 ⟨rfl, hb⟩; refine ⟨_, rfl, ?_⟩; replace BK410 := Aside0.mk (blk_below (g := gb410) (o := .cells #[.int .i64 0, .int .i64 0, .int .i64 0] 31 (0, 0)) (by repeat first | (with_reducible first | refine blk_drewN ?_ _ | refine blk_drew ?_ | refine blk_alloc ?_ _) | refine blk_far ?_ NB410_415.out _ | exact BK410.out) hb); replace BK415 := Aside0.mk (blk_below (g := gb415) (o := .cells #[.int .i64 x4_12, .int .i64 x6_9] 25 (0, 0)) (by (with_reducible repeat (first | refine blk_drewN ?_ _ | refine blk_drew ?_ | refine blk_alloc ?_ _)); refine blk_put (cs := #[.int .i64 x4_12, .int .i64 0]) ?_ 1 _ rfl; (with_reducible repeat (first | refine blk_drewN ?_ _ | refine blk_drew ?_ | refine blk_alloc ?_ _)); refine blk_put (cs := #[.int .i64 0, .int .i64 0]) ?_ 0 _ rfl; (with_reducible repeat (first | refine blk_drewN ?_ _ | refine blk_drew ?_ | refine blk_alloc ?_ _)); exact BK415.out) hb); replace HB := Aside0.mk (below_step (by repeat (first | (with_reducible first | exact HB.out | apply below_alloc | apply pw_below_drewN | apply below_drew1 | refine below_set ?_ GE410.out | refine below_set ?_ GE415.out) | exact HB.out)) hb); (try clear hb); (try clear A15); have hcz38_0 : w37.cell? ⟨gb410, 0, none⟩ = some (.int .i64 0) := (blk_cell BK410.out 0).trans rfl; have hcz38_1 : w37.cell? ⟨gb410, 1, none⟩ = some (.int .i64 0) := (blk_cell BK410.out 1).trans rfl; have hcz38_2 : w37.cell? ⟨gb410, 2, none⟩ = some (.int .i64 0) := (blk_cell BK410.out 2).trans rfl; have hfz38_0 := blk_frozen BK410.out 0; have hfz38_1 := blk_frozen BK410.out 1; have hfz38_2 := blk_frozen BK410.out 2))
          refine bodyPost_ret (results_cell_row rfl _ _ gb410 31 #[.int .i64 0, .int .i64 0, .int .i64 5] (0, 0) _ rfl (by (with_reducible repeat (first | refine blk_drewN ?_ _ | refine blk_drew ?_ | refine blk_alloc ?_ _)); refine blk_put (cs := #[.int .i64 0, .int .i64 0, .int .i64 0]) ?_ 2 _ rfl; (with_reducible repeat (first | refine blk_drewN ?_ _ | refine blk_drew ?_ | refine blk_alloc ?_ _)); refine blk_put (cs := #[.int .i64 0, .int .i64 0, .int .i64 0]) ?_ 1 _ rfl; (with_reducible repeat (first | refine blk_drewN ?_ _ | refine blk_drew ?_ | refine blk_alloc ?_ _)); refine blk_put (cs := #[.int .i64 0, .int .i64 0, .int .i64 0]) ?_ 0 _ rfl; (with_reducible repeat (first | refine blk_drewN ?_ _ | refine blk_drew ?_ | refine blk_alloc ?_ _)); exact BK410.out) Tryd.underlying31 rfl (by kernel_rfl)) rfl ?_
          exact ⟨by first | rfl | (simp [errW_none, errW_some] <;> rfl) | (simp [*, errW_none, errW_some] <;> rfl), by repeat (first | (with_reducible first | exact HB.out | apply below_alloc | apply pw_below_drewN | apply below_drew1 | refine below_set ?_ GE410.out | refine below_set ?_ GE415.out) | exact HB.out)⟩

/-! ### wireloomlaw02_FractionTexts: function 4 -/
mutual
def wireloomlaw02_FractionTexts.j0 : Nat → Bool → List ByteArray → Option (Bool)
 | 0, _, _ => none
 | k + 1, x7, x11 => wireloomlaw02_FractionTexts.l0 k x7 x11 0
def wireloomlaw02_FractionTexts.l0 : Nat → Bool → List ByteArray → Int → Option (Bool)
 | 0, _, _, _ => none
 | k + 1, x7, x11, x12 => if x12 < (x11.length : Int) then (if 0 ≤ x12 then ((wireloomlaw02_parsed.f (rdOf ByteArray.empty x11 x12)).bind fun bt440 => ((wireloomref02_ParseIn.f k (rdOf ByteArray.empty x11 x12)).bind fun bt445 => (if ((!(bt440.1 == bt445.1) || (!(bt440.2.1 == bt445.2.1))) || (!(bt440.2.2 == bt445.2.2))) = true then (wireloomlaw02_FractionTexts.j2 k x7 x11 x12 true) else (if bt440.2.2 = 0 then ((fraction_Text.f bt440.1 bt440.2.1).bind fun t448 => (wireloomlaw02_FractionTexts.j2 k x7 x11 x12 (t448.toList != (rdOf ByteArray.empty x11 x12).toList))) else (wireloomlaw02_FractionTexts.j2 k x7 x11 x12 false))))) else (none)) else (some x7)
def wireloomlaw02_FractionTexts.j2 : Nat → Bool → List ByteArray → Int → Bool → Option (Bool)
 | 0, _, _, _, _ => none
 | k + 1, x7, x11, x12, x85 => if x85 = true then (some false) else (wireloomlaw02_FractionTexts.l0 k x7 x11 (wrap64 (x12 + 1)))
end
def wireloomlaw02_FractionTexts.f (k : Nat) (a0_0 : Int) (a0_1 : Int) (a1_0 : Int) (a1_1 : Int) (a1_2 : Int) (a2 : ByteArray) : Option (Bool) := (wireloomlaw02_examples.f k).bind fun t420 => (if t420 = true then ((wireloomref02_Made.f k a0_0 a0_1).bind fun bt421 => ((fraction_Text.f bt421.1 bt421.2).bind fun t424 => ((wireloomlaw02_parsed.f t424).bind fun bt425 => ((wireloomlaw02_is.f bt421.1 bt421.2).bind fun bt428 => (if ((!(bt425.1 == bt428.1) || (!(bt425.2.1 == bt428.2.1))) || (!(bt425.2.2 == bt428.2.2))) = true then (some false) else ((wireloomlaw02_edited.f k t424 a1_0 a1_1 a1_2).bind fun t431 => ((wireloomlaw02_edited.f k t431 a1_1 a1_2 a1_0).bind fun t432 => ((some (([t431, t432] : List ByteArray) : List ByteArray)).bind fun y433 => (if (a2.size : Int) ≤ 100 then (if y433.length < 8796093022208 then (wireloomlaw02_FractionTexts.j0 k t420 (y433 ++ [a2])) else (none)) else (wireloomlaw02_FractionTexts.j0 k t420 y433)))))))))) else (some false))
theorem wireloomlaw02_FractionTexts.mono_l : ∀ k, (∀ y0 y1, LeO (wireloomlaw02_FractionTexts.j0 k y0 y1) (wireloomlaw02_FractionTexts.j0 (k + 1) y0 y1)) ∧ (∀ y0 y1 y2, LeO (wireloomlaw02_FractionTexts.l0 k y0 y1 y2) (wireloomlaw02_FractionTexts.l0 (k + 1) y0 y1 y2)) ∧ (∀ y0 y1 y2 y3, LeO (wireloomlaw02_FractionTexts.j2 k y0 y1 y2 y3) (wireloomlaw02_FractionTexts.j2 (k + 1) y0 y1 y2 y3))
 | 0 => ⟨fun _ _ r h => by simp [wireloomlaw02_FractionTexts.j0] at h, fun _ _ _ r h => by simp [wireloomlaw02_FractionTexts.l0] at h, fun _ _ _ _ r h => by simp [wireloomlaw02_FractionTexts.j2] at h⟩
 | k + 1 => by
  obtain ⟨ih0, ih1, ih2⟩ := wireloomlaw02_FractionTexts.mono_l k
  refine ⟨?_, ?_, ?_⟩
  ·intro y0 y1
   unfold wireloomlaw02_FractionTexts.j0
   repeat' first
   | (with_reducible exact ih0 _ _)
   | (with_reducible exact ih1 _ _ _)
   | (with_reducible exact ih2 _ _ _ _)
   | (with_reducible exact wireloomlaw02_edited.mono _ _ _ _ _)
   | (with_reducible exact wireloomlaw02_examples.mono _)
   | (with_reducible exact wireloomref02_Made.mono _ _ _)
   | (with_reducible exact wireloomref02_ParseIn.mono _ _)
   | (with_reducible exact LeO.refl _)
   | (with_reducible exact LeO.none _)
   | (with_reducible refine LeO.ite ?_ ?_)
   | (with_reducible refine LeO.bind ?_ (fun _ => ?_))
   | exact ih0 _ _
   | exact ih1 _ _ _
   | exact ih2 _ _ _ _
   | exact wireloomlaw02_edited.mono _ _ _ _ _
   | exact wireloomlaw02_examples.mono _
   | exact wireloomref02_Made.mono _ _ _
   | exact wireloomref02_ParseIn.mono _ _
   | exact LeO.none _
   | refine LeO.ite ?_ ?_
   | refine LeO.bind ?_ (fun _ => ?_)
  ·intro y0 y1 y2
   unfold wireloomlaw02_FractionTexts.l0
   repeat' first
   | (with_reducible exact ih0 _ _)
   | (with_reducible exact ih1 _ _ _)
   | (with_reducible exact ih2 _ _ _ _)
   | (with_reducible exact wireloomlaw02_edited.mono _ _ _ _ _)
   | (with_reducible exact wireloomlaw02_examples.mono _)
   | (with_reducible exact wireloomref02_Made.mono _ _ _)
   | (with_reducible exact wireloomref02_ParseIn.mono _ _)
   | (with_reducible exact LeO.refl _)
   | (with_reducible exact LeO.none _)
   | (with_reducible refine LeO.ite ?_ ?_)
   | (with_reducible refine LeO.bind ?_ (fun _ => ?_))
   | exact ih0 _ _
   | exact ih1 _ _ _
   | exact ih2 _ _ _ _
   | exact wireloomlaw02_edited.mono _ _ _ _ _
   | exact wireloomlaw02_examples.mono _
   | exact wireloomref02_Made.mono _ _ _
   | exact wireloomref02_ParseIn.mono _ _
   | exact LeO.none _
   | refine LeO.ite ?_ ?_
   | refine LeO.bind ?_ (fun _ => ?_)
  ·intro y0 y1 y2 y3
   unfold wireloomlaw02_FractionTexts.j2
   repeat' first
   | (with_reducible exact ih0 _ _)
   | (with_reducible exact ih1 _ _ _)
   | (with_reducible exact ih2 _ _ _ _)
   | (with_reducible exact wireloomlaw02_edited.mono _ _ _ _ _)
   | (with_reducible exact wireloomlaw02_examples.mono _)
   | (with_reducible exact wireloomref02_Made.mono _ _ _)
   | (with_reducible exact wireloomref02_ParseIn.mono _ _)
   | (with_reducible exact LeO.refl _)
   | (with_reducible exact LeO.none _)
   | (with_reducible refine LeO.ite ?_ ?_)
   | (with_reducible refine LeO.bind ?_ (fun _ => ?_))
   | exact ih0 _ _
   | exact ih1 _ _ _
   | exact ih2 _ _ _ _
   | exact wireloomlaw02_edited.mono _ _ _ _ _
   | exact wireloomlaw02_examples.mono _
   | exact wireloomref02_Made.mono _ _ _
   | exact wireloomref02_ParseIn.mono _ _
   | exact LeO.none _
   | refine LeO.ite ?_ ?_
   | refine LeO.bind ?_ (fun _ => ?_)
theorem wireloomlaw02_FractionTexts.mono : ∀ a0 a1 a2 a3 a4 a5 k, LeO (wireloomlaw02_FractionTexts.f k a0 a1 a2 a3 a4 a5) (wireloomlaw02_FractionTexts.f (k + 1) a0 a1 a2 a3 a4 a5) := by
 intro a0 a1 a2 a3 a4 a5 k
 obtain ⟨ih0, ih1, ih2⟩ := wireloomlaw02_FractionTexts.mono_l k
 unfold wireloomlaw02_FractionTexts.f
 repeat' first
   | (with_reducible exact ih0 _ _)
   | (with_reducible exact ih1 _ _ _)
   | (with_reducible exact ih2 _ _ _ _)
   | (with_reducible exact wireloomlaw02_edited.mono _ _ _ _ _)
   | (with_reducible exact wireloomlaw02_examples.mono _)
   | (with_reducible exact wireloomref02_Made.mono _ _ _)
   | (with_reducible exact wireloomref02_ParseIn.mono _ _)
   | (with_reducible exact LeO.refl _)
   | (with_reducible exact LeO.none _)
   | (with_reducible refine LeO.ite ?_ ?_)
   | (with_reducible refine LeO.bind ?_ (fun _ => ?_))
   | exact ih0 _ _
   | exact ih1 _ _ _
   | exact ih2 _ _ _ _
   | exact wireloomlaw02_edited.mono _ _ _ _ _
   | exact wireloomlaw02_examples.mono _
   | exact wireloomref02_Made.mono _ _ _
   | exact wireloomref02_ParseIn.mono _ _
   | exact LeO.none _
   | refine LeO.ite ?_ ?_
   | refine LeO.bind ?_ (fun _ => ?_)
theorem wireloomlaw02_FractionTexts.dead_j2_true (k : Nat) (x7 : Bool) (x11 : List ByteArray) (x12 : Int) : ¬ wireloomlaw02_FractionTexts.j2 k x7 x11 x12 true = some true := by
 cases k with
 | zero => simp [wireloomlaw02_FractionTexts.j2]
 | succ k => simp [wireloomlaw02_FractionTexts.j2]
def wireloomlaw02_FractionTexts.T6 : Bool × List (List Nat × List Nat) := (true, [([], []), ([0], [0]), ([], []), ([2], [2]), ([], []), ([4], [4]), ([3, 5, 1], [3, 5]), ([1, 6], [1, 6])])
def wireloomlaw02_FractionTexts.B6 : List Nat := [0, 1, 0, 4, 0, 16, 63, 127]
theorem wireloomlaw02_FractionTexts.tab6 : rtab .any (opsOf Tryd.f4 6) = wireloomlaw02_FractionTexts.T6 := by kernel_rfl
theorem wireloomlaw02_FractionTexts.bits6 : waitsOk wireloomlaw02_FractionTexts.T6.2 wireloomlaw02_FractionTexts.B6 = true := by kernel_rfl
def wireloomlaw02_FractionTexts.T16 : Bool × List (List Nat × List Nat) := (true, [([], []), ([], []), ([], []), ([1, 2], [1, 2]), ([3], [3]), ([4], [4]), ([0, 5], [0, 5]), ([6, 5], [6]), ([7], [7]), ([8, 7], [7, 8]), ([9, 7], [7, 9]), ([10, 7, 7], [7, 10]), ([11], [11]), ([12, 11], [11, 12]), ([13, 11, 11], [11, 13]), ([11], [11]), ([11], [11]), ([15, 16, 11], [11, 15, 16]), ([17, 11], [11, 17]), ([14, 18, 11], [11, 14, 18]), ([11, 19, 7], [7, 11, 19]), ([7, 20], [7, 20])])
def wireloomlaw02_FractionTexts.B16 : List Nat := [0, 0, 0, 6, 14, 30, 63, 127, 255, 511, 1023, 2047, 4095, 8191, 16383, 4095, 4095, 102399, 233471, 524287, 1048575, 2097151]
theorem wireloomlaw02_FractionTexts.tab16 : rtab .any (opsOf Tryd.f4 16) = wireloomlaw02_FractionTexts.T16 := by kernel_rfl
theorem wireloomlaw02_FractionTexts.bits16 : waitsOk wireloomlaw02_FractionTexts.T16.2 wireloomlaw02_FractionTexts.B16 = true := by kernel_rfl
set_option maxHeartbeats 8000000 in
set_option maxRecDepth 100000 in
theorem wireloomlaw02_FractionTexts.calls (k : Nat) (a0_0 : Int) (a0_1 : Int) (a1_0 : Int) (a1_1 : Int) (a1_2 : Int) (a2 : ByteArray) (w : World) (hGL : GL w) (h : wireloomlaw02_FractionTexts.f k a0_0 a0_1 a1_0 a1_1 a1_2 a2 = some true) :
  Calls Tryd.prog 4 #[.agg #[.int .i64 a0_0, .int .i64 a0_1], .agg #[.int .u8 a1_0, .int .u8 a1_1, .int .u8 a1_2], .string a2] w fun e w' => e = .returned (.bool true) ∧ Below w.heap.size w w' := by
 have hu22 := Tryd.underlying22
 have hu35 := Tryd.underlying35
 have hu25 := Tryd.underlying25
 have hu31 := Tryd.underlying31
 have HB := Aside0.mk (Below.refl w.heap.size w)
 have H : ((wireloomlaw02_examples.f k).bind fun t420 => (if t420 = true then ((wireloomref02_Made.f k a0_0 a0_1).bind fun bt421 => ((fraction_Text.f bt421.1 bt421.2).bind fun t424 => ((wireloomlaw02_parsed.f t424).bind fun bt425 => ((wireloomlaw02_is.f bt421.1 bt421.2).bind fun bt428 => (if ((!(bt425.1 == bt428.1) || (!(bt425.2.1 == bt428.2.1))) || (!(bt425.2.2 == bt428.2.2))) = true then (some false) else ((wireloomlaw02_edited.f k t424 a1_0 a1_1 a1_2).bind fun t431 => ((wireloomlaw02_edited.f k t431 a1_1 a1_2 a1_0).bind fun t432 => ((some (([t431, t432] : List ByteArray) : List ByteArray)).bind fun y433 => (if (a2.size : Int) ≤ 100 then (if y433.length < 8796093022208 then (wireloomlaw02_FractionTexts.j0 k t420 (y433 ++ [a2])) else (none)) else (wireloomlaw02_FractionTexts.j0 k t420 y433)))))))))) else (some false))) = some true := h
 clear h
 replace H := Option.bind_eq_some_iff.mp H
 obtain ⟨t420, A40, H⟩ := H
 replace H : (if t420 = true then ((wireloomref02_Made.f k a0_0 a0_1).bind fun bt421 => ((fraction_Text.f bt421.1 bt421.2).bind fun t424 => ((wireloomlaw02_parsed.f t424).bind fun bt425 => ((wireloomlaw02_is.f bt421.1 bt421.2).bind fun bt428 => (if ((!(bt425.1 == bt428.1) || (!(bt425.2.1 == bt428.2.1))) || (!(bt425.2.2 == bt428.2.2))) = true then (some false) else ((wireloomlaw02_edited.f k t424 a1_0 a1_1 a1_2).bind fun t431 => ((wireloomlaw02_edited.f k t431 a1_1 a1_2 a1_0).bind fun t432 => ((some (([t431, t432] : List ByteArray) : List ByteArray)).bind fun y433 => (if (a2.size : Int) ≤ 100 then (if y433.length < 8796093022208 then (wireloomlaw02_FractionTexts.j0 k t420 (y433 ++ [a2])) else (none)) else (wireloomlaw02_FractionTexts.j0 k t420 y433)))))))))) else (some false)) = some true := H
 have A4 := Aside0.mk A40
 clear A40
 by_cases c5 : t420 = true
 ·subst c5
  have H1 : ((wireloomref02_Made.f k a0_0 a0_1).bind fun bt421 => ((fraction_Text.f bt421.1 bt421.2).bind fun t424 => ((wireloomlaw02_parsed.f t424).bind fun bt425 => ((wireloomlaw02_is.f bt421.1 bt421.2).bind fun bt428 => (if ((!(bt425.1 == bt428.1) || (!(bt425.2.1 == bt428.2.1))) || (!(bt425.2.2 == bt428.2.2))) = true then (some false) else ((wireloomlaw02_edited.f k t424 a1_0 a1_1 a1_2).bind fun t431 => ((wireloomlaw02_edited.f k t431 a1_1 a1_2 a1_0).bind fun t432 => ((some (([t431, t432] : List ByteArray) : List ByteArray)).bind fun y433 => (if (a2.size : Int) ≤ 100 then (if y433.length < 8796093022208 then (wireloomlaw02_FractionTexts.j0 k true (y433 ++ [a2])) else (none)) else (wireloomlaw02_FractionTexts.j0 k true y433)))))))))) = some true := by rw [if_pos rfl] at H; exact H
  clear H
  have H := H1
  clear H1
  replace H := Option.bind_eq_some_iff.mp H
  obtain ⟨⟨t421, t422⟩, A60, H⟩ := H
  replace H : ((fraction_Text.f t421 t422).bind fun t424 => ((wireloomlaw02_parsed.f t424).bind fun bt425 => ((wireloomlaw02_is.f t421 t422).bind fun bt428 => (if ((!(bt425.1 == bt428.1) || (!(bt425.2.1 == bt428.2.1))) || (!(bt425.2.2 == bt428.2.2))) = true then (some false) else ((wireloomlaw02_edited.f k t424 a1_0 a1_1 a1_2).bind fun t431 => ((wireloomlaw02_edited.f k t431 a1_1 a1_2 a1_0).bind fun t432 => ((some (([t431, t432] : List ByteArray) : List ByteArray)).bind fun y433 => (if (a2.size : Int) ≤ 100 then (if y433.length < 8796093022208 then (wireloomlaw02_FractionTexts.j0 k true (y433 ++ [a2])) else (none)) else (wireloomlaw02_FractionTexts.j0 k true y433))))))))) = some true := H
  have A6 := Aside0.mk A60
  clear A60
  replace H := Option.bind_eq_some_iff.mp H
  obtain ⟨t424, A70, H⟩ := H
  replace H : ((wireloomlaw02_parsed.f t424).bind fun bt425 => ((wireloomlaw02_is.f t421 t422).bind fun bt428 => (if ((!(bt425.1 == bt428.1) || (!(bt425.2.1 == bt428.2.1))) || (!(bt425.2.2 == bt428.2.2))) = true then (some false) else ((wireloomlaw02_edited.f k t424 a1_0 a1_1 a1_2).bind fun t431 => ((wireloomlaw02_edited.f k t431 a1_1 a1_2 a1_0).bind fun t432 => ((some (([t431, t432] : List ByteArray) : List ByteArray)).bind fun y433 => (if (a2.size : Int) ≤ 100 then (if y433.length < 8796093022208 then (wireloomlaw02_FractionTexts.j0 k true (y433 ++ [a2])) else (none)) else (wireloomlaw02_FractionTexts.j0 k true y433)))))))) = some true := H
  have A7 := Aside0.mk A70
  clear A70
  replace H := Option.bind_eq_some_iff.mp H
  obtain ⟨⟨t425, t426, t427⟩, A80, H⟩ := H
  replace H : ((wireloomlaw02_is.f t421 t422).bind fun bt428 => (if ((!(t425 == bt428.1) || (!(t426 == bt428.2.1))) || (!(t427 == bt428.2.2))) = true then (some false) else ((wireloomlaw02_edited.f k t424 a1_0 a1_1 a1_2).bind fun t431 => ((wireloomlaw02_edited.f k t431 a1_1 a1_2 a1_0).bind fun t432 => ((some (([t431, t432] : List ByteArray) : List ByteArray)).bind fun y433 => (if (a2.size : Int) ≤ 100 then (if y433.length < 8796093022208 then (wireloomlaw02_FractionTexts.j0 k true (y433 ++ [a2])) else (none)) else (wireloomlaw02_FractionTexts.j0 k true y433))))))) = some true := H
  have A8 := Aside0.mk A80
  clear A80
  replace H := Option.bind_eq_some_iff.mp H
  obtain ⟨⟨t428, t429, t430⟩, A90, H⟩ := H
  replace H : (if ((!(t425 == t428) || (!(t426 == t429))) || (!(t427 == t430))) = true then (some false) else ((wireloomlaw02_edited.f k t424 a1_0 a1_1 a1_2).bind fun t431 => ((wireloomlaw02_edited.f k t431 a1_1 a1_2 a1_0).bind fun t432 => ((some (([t431, t432] : List ByteArray) : List ByteArray)).bind fun y433 => (if (a2.size : Int) ≤ 100 then (if y433.length < 8796093022208 then (wireloomlaw02_FractionTexts.j0 k true (y433 ++ [a2])) else (none)) else (wireloomlaw02_FractionTexts.j0 k true y433)))))) = some true := H
  have A9 := Aside0.mk A90
  clear A90
  by_cases c10 : ((!(t425 == t428) || (!(t426 == t429))) || (!(t427 == t430))) = true
  ·rw [if_pos c10] at H
   exact absurd H (by decide)
  ·rw [if_neg c10] at H
   have c10b0 : ((!(t425 == t428) || (!(t426 == t429))) || (!(t427 == t430))) = false := by simpa using c10
   clear c10
   replace H := Option.bind_eq_some_iff.mp H
   obtain ⟨t431, A110, H⟩ := H
   replace H : ((wireloomlaw02_edited.f k t431 a1_1 a1_2 a1_0).bind fun t432 => ((some (([t431, t432] : List ByteArray) : List ByteArray)).bind fun y433 => (if (a2.size : Int) ≤ 100 then (if y433.length < 8796093022208 then (wireloomlaw02_FractionTexts.j0 k true (y433 ++ [a2])) else (none)) else (wireloomlaw02_FractionTexts.j0 k true y433)))) = some true := H
   have A11 := Aside0.mk A110
   clear A110
   replace H := Option.bind_eq_some_iff.mp H
   obtain ⟨t432, A120, H⟩ := H
   replace H : ((some (([t431, t432] : List ByteArray) : List ByteArray)).bind fun y433 => (if (a2.size : Int) ≤ 100 then (if y433.length < 8796093022208 then (wireloomlaw02_FractionTexts.j0 k true (y433 ++ [a2])) else (none)) else (wireloomlaw02_FractionTexts.j0 k true y433))) = some true := H
   have A12 := Aside0.mk A120
   clear A120
   obtain ⟨y433, hy433⟩ : ∃ y_ : List ByteArray, y_ = (([t431, t432] : List ByteArray)) := ⟨_, rfl⟩
   replace H : (if (a2.size : Int) ≤ 100 then (if y433.length < 8796093022208 then (wireloomlaw02_FractionTexts.j0 k true (y433 ++ [a2])) else (none)) else (wireloomlaw02_FractionTexts.j0 k true y433)) = some true := by first | (rw [hy433]; with_reducible exact H) | (have H2_ := (Option.bind_some _ _).symm.trans H; rw [hy433]; with_reducible exact H2_) | (have H2_ := (Option.bind_some _ _).symm.trans H; with_reducible exact H2_) | with_reducible exact H | (rw [hy433]; exact H) | exact H
   have Ny433 := Aside0.mk hy433
   clear hy433
   have HC13 := Aside0.mk H
   clear H
   go_enter Tryd.func4, Tryd.ntmps4
   try go_wp2_with (first | ((with_reducible refine gate_dst (N := 3) rfl ?_); refine box_event ?hg (N := 3) ?hd (cs := #[.int .i64 a0_0, .int .i64 a0_1]) (t := 22) ?hr ?_; (case hd => rfl); (case hg => rfl); (case hr => first | (go_simp; done) | (go_simp; rfl)); intro gb418 hg w14 hbox hb; have BK418 := Aside0.mk (hbox); have GW418 := Aside0.mk ((by rw [hg]; exact (below_size (by repeat (first | (with_reducible first | exact HB.out | apply below_alloc | apply pw_below_drewN | apply below_drew1) | exact HB.out))) : w.heap.size ≤ gb418)); have GE418 := Aside0.mk ((by rw [hg]; exact (below_size (by repeat (first | (with_reducible first | exact HB.out | apply below_alloc | apply pw_below_drewN | apply below_drew1) | exact HB.out))) : w.heap.size ≤ gb418)); replace HB := Aside0.mk (below_step (by repeat (first | (with_reducible first | exact HB.out | apply below_alloc | apply pw_below_drewN | apply below_drew1) | exact HB.out)) hb); clear hb hbox hg) | ((with_reducible refine gate_dst (N := 4) rfl ?_); refine box_event ?hg (N := 4) ?hd (cs := #[.int .u8 a1_0, .int .u8 a1_1, .int .u8 a1_2]) (t := 35) ?hr ?_; (case hd => rfl); (case hg => rfl); (case hr => first | (go_simp; done) | (go_simp; rfl)); intro gb419 hg w15 hbox hb; have BK419 := Aside0.mk (hbox); have GW419 := Aside0.mk ((by rw [hg]; exact (below_size (by repeat (first | (with_reducible first | exact HB.out | apply below_alloc | apply pw_below_drewN | apply below_drew1 | refine below_set ?_ GE418.out) | exact HB.out))) : w.heap.size ≤ gb419)); have GE419 := Aside0.mk ((by rw [hg]; exact (below_size (by repeat (first | (with_reducible first | exact HB.out | apply below_alloc | apply pw_below_drewN | apply below_drew1 | refine below_set ?_ GE418.out) | exact HB.out))) : w.heap.size ≤ gb419)); replace HB := Aside0.mk (below_step (by repeat (first | (with_reducible first | exact HB.out | apply below_alloc | apply pw_below_drewN | apply below_drew1 | refine below_set ?_ GE418.out) | exact HB.out)) hb); have NB418_419 := Aside0.mk ((by rw [hg]; exact Nat.ne_of_lt (blk_lt (g := gb418) (o := .cells #[.int .i64 a0_0, .int .i64 a0_1] 22 (0, 0)) (by (with_reducible repeat (first | refine blk_drewN ?_ _ | refine blk_drew ?_ | refine blk_alloc ?_ _)); exact BK418.out)) : gb418 ≠ gb419)); have NB419_418 := Aside0.mk ((by rw [hg]; exact Nat.ne_of_gt (blk_lt (g := gb418) (o := .cells #[.int .i64 a0_0, .int .i64 a0_1] 22 (0, 0)) (by (with_reducible repeat (first | refine blk_drewN ?_ _ | refine blk_drew ?_ | refine blk_alloc ?_ _)); exact BK418.out)) : gb419 ≠ gb418)); replace BK418 := Aside0.mk (blk_below (g := gb418) (o := .cells #[.int .i64 a0_0, .int .i64 a0_1] 22 (0, 0)) (by (with_reducible repeat (first | refine blk_drewN ?_ _ | refine blk_drew ?_ | refine blk_alloc ?_ _)); exact BK418.out) hb); clear hb hbox hg) | ((with_reducible refine gate_callee (f := 9) rfl ?_); refine goesL_ (some 14) rfl rfl Tryd.func9 (by kernel_rfl) rfl #[] rfl (by (try simp only [List.map_toArray, List.map_cons, List.map_nil]); first | done | rfl | (simp only [List.length_drop, List.length_take]; rfl)) ?_; (with_reducible refine (wireloomlaw02_examples.calls k  true _ ?side1 A4.out).mono ?_); (case side1 => exact GL.below hGL (by repeat (first | (with_reducible first | exact HB.out | apply below_alloc | apply pw_below_drewN | apply below_drew1 | refine below_set ?_ GE418.out | refine below_set ?_ GE419.out) | exact HB.out))); rintro e w16 ⟨rfl, hb⟩; refine ⟨_, rfl, ?_⟩; replace BK418 := Aside0.mk (blk_below (g := gb418) (o := .cells #[.int .i64 a0_0, .int .i64 a0_1] 22 (0, 0)) (by (with_reducible repeat (first | refine blk_drewN ?_ _ | refine blk_drew ?_ | refine blk_alloc ?_ _)); exact BK418.out) hb); replace BK419 := Aside0.mk (blk_below (g := gb419) (o := .cells #[.int .u8 a1_0, .int .u8 a1_1, .int .u8 a1_2] 35 (0, 0)) (by (with_reducible repeat (first | refine blk_drewN ?_ _ | refine blk_drew ?_ | refine blk_alloc ?_ _)); exact BK419.out) hb); replace HB := Aside0.mk (below_step (by repeat (first | (with_reducible first | exact HB.out | apply below_alloc | apply pw_below_drewN | apply below_drew1 | refine below_set ?_ GE418.out | refine below_set ?_ GE419.out) | exact HB.out)) hb); (try clear hb); (try clear A4); have hnb17 := NB418_419.out; have hnc17 := NB419_418.out; have hcz18_0 : w16.cell? ⟨gb418, 0, none⟩ = some (.int .i64 a0_0) := (blk_cell BK418.out 0).trans rfl; have hcz18_1 : w16.cell? ⟨gb418, 1, none⟩ = some (.int .i64 a0_1) := (blk_cell BK418.out 1).trans rfl; have hfz18_0 := blk_frozen BK418.out 0; have hfz18_1 := blk_frozen BK418.out 1) | ((with_reducible refine gate_callee (f := 10) rfl ?_); refine goesL_ (some 21) rfl rfl Tryd.func10 (by kernel_rfl) rfl #[.int .i64 a0_0, .int .i64 a0_1] rfl (by (try simp only [List.map_toArray, List.map_cons, List.map_nil]); first | done | rfl | (simp only [List.length_drop, List.length_take]; rfl)) ?_; (with_reducible refine (wireloomref02_Made.calls k a0_0 a0_1 t421 t422 _ A6.out).mono ?_); rintro e w19 ⟨rfl, hb⟩; refine ⟨_, rfl, ?_⟩; replace BK418 := Aside0.mk (blk_below (g := gb418) (o := .cells #[.int .i64 a0_0, .int .i64 a0_1] 22 (0, 0)) (by (with_reducible repeat (first | refine blk_drewN ?_ _ | refine blk_drew ?_ | refine blk_alloc ?_ _)); exact BK418.out) hb); replace BK419 := Aside0.mk (blk_below (g := gb419) (o := .cells #[.int .u8 a1_0, .int .u8 a1_1, .int .u8 a1_2] 35 (0, 0)) (by (with_reducible repeat (first | refine blk_drewN ?_ _ | refine blk_drew ?_ | refine blk_alloc ?_ _)); exact BK419.out) hb); replace HB := Aside0.mk (below_step (by repeat (first | (with_reducible first | exact HB.out | apply below_alloc | apply pw_below_drewN | apply below_drew1 | refine below_set ?_ GE418.out | refine below_set ?_ GE419.out) | exact HB.out)) hb); (try clear hb); (try clear A6)) | ((with_reducible refine gate_dst (N := 8) rfl ?_); refine box_event ?hg (N := 8) ?hd (cs := #[.int .i64 0, .int .i64 0]) (t := 25) ?hr ?_; (case hd => rfl); (case hg => rfl); (case hr => first | (go_simp; done) | (go_simp; rfl)); intro gb423 hg w20 hbox hb; have BK423 := Aside0.mk (hbox); have GW423 := Aside0.mk ((by rw [hg]; exact (below_size (by repeat (first | (with_reducible first | exact HB.out | apply below_alloc | apply pw_below_drewN | apply below_drew1 | refine below_set ?_ GE418.out | refine below_set ?_ GE419.out) | exact HB.out))) : w.heap.size ≤ gb423)); have GE423 := Aside0.mk ((by rw [hg]; exact (below_size (by repeat (first | (with_reducible first | exact HB.out | apply below_alloc | apply pw_below_drewN | apply below_drew1 | refine below_set ?_ GE418.out | refine below_set ?_ GE419.out) | exact HB.out))) : w.heap.size ≤ gb423)); replace HB := Aside0.mk (below_step (by repeat (first | (with_reducible first | exact HB.out | apply below_alloc | apply pw_below_drewN | apply below_drew1 | refine below_set ?_ GE418.out | refine below_set ?_ GE419.out) | exact HB.out)) hb); have NB418_423 := Aside0.mk ((by rw [hg]; exact Nat.ne_of_lt (blk_lt (g := gb418) (o := .cells #[.int .i64 a0_0, .int .i64 a0_1] 22 (0, 0)) (by (with_reducible repeat (first | refine blk_drewN ?_ _ | refine blk_drew ?_ | refine blk_alloc ?_ _)); exact BK418.out)) : gb418 ≠ gb423)); have NB423_418 := Aside0.mk ((by rw [hg]; exact Nat.ne_of_gt (blk_lt (g := gb418) (o := .cells #[.int .i64 a0_0, .int .i64 a0_1] 22 (0, 0)) (by (with_reducible repeat (first | refine blk_drewN ?_ _ | refine blk_drew ?_ | refine blk_alloc ?_ _)); exact BK418.out)) : gb423 ≠ gb418)); replace BK418 := Aside0.mk (blk_below (g := gb418) (o := .cells #[.int .i64 a0_0, .int .i64 a0_1] 22 (0, 0)) (by (with_reducible repeat (first | refine blk_drewN ?_ _ | refine blk_drew ?_ | refine blk_alloc ?_ _)); exact BK418.out) hb); have NB419_423 := Aside0.mk ((by rw [hg]; exact Nat.ne_of_lt (blk_lt (g := gb419) (o := .cells #[.int .u8 a1_0, .int .u8 a1_1, .int .u8 a1_2] 35 (0, 0)) (by (with_reducible repeat (first | refine blk_drewN ?_ _ | refine blk_drew ?_ | refine blk_alloc ?_ _)); exact BK419.out)) : gb419 ≠ gb423)); have NB423_419 := Aside0.mk ((by rw [hg]; exact Nat.ne_of_gt (blk_lt (g := gb419) (o := .cells #[.int .u8 a1_0, .int .u8 a1_1, .int .u8 a1_2] 35 (0, 0)) (by (with_reducible repeat (first | refine blk_drewN ?_ _ | refine blk_drew ?_ | refine blk_alloc ?_ _)); exact BK419.out)) : gb423 ≠ gb419)); replace BK419 := Aside0.mk (blk_below (g := gb419) (o := .cells #[.int .u8 a1_0, .int .u8 a1_1, .int .u8 a1_2] 35 (0, 0)) (by (with_reducible repeat (first | refine blk_drewN ?_ _ | refine blk_drew ?_ | refine blk_alloc ?_ _)); exact BK419.out) hb); clear hb hbox hg; have hnb21 := NB423_418.out; have hnc21 := NB418_423.out; have hnb22 := NB423_419.out; have hnc22 := NB419_423.out; have hcz23_0 : w20.cell? ⟨gb423, 0, none⟩ = some (.int .i64 0) := (blk_cell BK423.out 0).trans rfl; have hcz23_1 : w20.cell? ⟨gb423, 1, none⟩ = some (.int .i64 0) := (blk_cell BK423.out 1).trans rfl; have hfz23_0 := blk_frozen BK423.out 0; have hfz23_1 := blk_frozen BK423.out 1) | ((with_reducible refine gate_callee (f := 17) rfl ?_); refine goesL_ (some 23) rfl rfl Tryd.func17 (by kernel_rfl) rfl #[.agg #[.int .i64 t421, .int .i64 t422]] rfl (by (try simp only [List.map_toArray, List.map_cons, List.map_nil]); first | done | rfl | (simp only [List.length_drop, List.length_take]; rfl)) ?_; (with_reducible refine (fraction_Text.calls t421 t422 t424 _ ?side1 A7.out).mono ?_); (case side1 => exact GL.below hGL (by repeat (first | (with_reducible first | exact HB.out | apply below_alloc | apply pw_below_drewN | apply below_drew1 | refine below_set ?_ GE418.out | refine below_set ?_ GE419.out | refine below_set ?_ GE423.out) | exact HB.out))); rintro e w24 ⟨rfl, hb⟩; refine ⟨_, rfl, ?_⟩; replace BK418 := Aside0.mk (blk_below (g := gb418) (o := .cells #[.int .i64 a0_0, .int .i64 a0_1] 22 (0, 0)) (by repeat first | (with_reducible first | refine blk_drewN ?_ _ | refine blk_drew ?_ | refine blk_alloc ?_ _) | refine blk_far ?_ NB418_423.out _ | exact BK418.out) hb); replace BK419 := Aside0.mk (blk_below (g := gb419) (o := .cells #[.int .u8 a1_0, .int .u8 a1_1, .int .u8 a1_2] 35 (0, 0)) (by repeat first | (with_reducible first | refine blk_drewN ?_ _ | refine blk_drew ?_ | refine blk_alloc ?_ _) | refine blk_far ?_ NB419_423.out _ | exact BK419.out) hb); replace BK423 := Aside0.mk (blk_below (g := gb423) (o := .cells #[.int .i64 t421, .int .i64 t422] 25 (0, 0)) (by (with_reducible repeat (first | refine blk_drewN ?_ _ | refine blk_drew ?_ | refine blk_alloc ?_ _)); refine blk_put (cs := #[.int .i64 t421, .int .i64 0]) ?_ 1 _ rfl; (with_reducible repeat (first | refine blk_drewN ?_ _ | refine blk_drew ?_ | refine blk_alloc ?_ _)); refine blk_put (cs := #[.int .i64 0, .int .i64 0]) ?_ 0 _ rfl; (with_reducible repeat (first | refine blk_drewN ?_ _ | refine blk_drew ?_ | refine blk_alloc ?_ _)); exact BK423.out) hb); replace HB := Aside0.mk (below_step (by repeat (first | (with_reducible first | exact HB.out | apply below_alloc | apply pw_below_drewN | apply below_drew1 | refine below_set ?_ GE418.out | refine below_set ?_ GE419.out | refine below_set ?_ GE423.out) | exact HB.out)) hb); (try clear hb); (try clear A7)))
   replace BK418 := Aside0.mk (blk_drew BK418.out)
   replace BK419 := Aside0.mk (blk_drew BK419.out)
   replace BK423 := Aside0.mk (blk_drew BK423.out)
   replace HB := Aside0.mk (below_drew1 HB.out)
   refine start_ (n := 8) (S := fun w' => w'.cell? ⟨gb423, 0, none⟩ = some (.int .i64 t421) ∧ w'.cell? ⟨gb423, 1, none⟩ = some (.int .i64 t422)) (ds := []) #[F_,F_,F_,F_,F_,F_,F_,F_] (by kernel_rfl) rfl rfl ⟨(blk_cell BK423.out 0).trans rfl, (blk_cell BK423.out 1).trans rfl⟩ (fun hHeld => ?_); refine with_tabW wireloomlaw02_FractionTexts.tab6 wireloomlaw02_FractionTexts.bits6 (fun HT_ HW_ => ?_)
   generalize w24.drew = w25 at BK418 BK419 BK423 HB hHeld ⊢
   refine pz_ 0 24 8 1 HT_ rfl rfl (by kernel_rfl) ?_ (fun _ _ _ h => h) (by rfl) (fun w' => ?_) ?_ ?_ ?_;rotate_left;go_simp;with_reducible rfl;rotate_left;simp only [P_,A_,B_,C_,i64_w,i32_w];rfl
   refine pz_ 2 26 8 5 HT_ rfl rfl (by kernel_rfl) ?_ (fun _ _ _ h => h) (by rfl) (fun w' => ?_) ?_ ?_ ?_;rotate_left;go_simp;with_reducible rfl;rotate_left;simp only [P_,A_,B_,C_,i64_w,i32_w];rfl
   refine pz_ 4 28 8 21 HT_ rfl rfl (by kernel_rfl) ?_ (fun _ _ _ h => h) (by rfl) (fun w' => ?_) ?_ ?_ ?_;rotate_left;go_simp;with_reducible rfl;rotate_left;simp only [P_,A_,B_,C_,i64_w,i32_w];rfl
   refine tz_ 3 27 8 29 HT_ HW_ rfl rfl (by kernel_rfl) hHeld ?_ (fun _ _ _ h => h) (by rfl) (fun w' ⟨s0, s1⟩ => ?_) ?_ ?_ ?_;rotate_left;go_simp;with_reducible rfl;rotate_left;simp only [P_,A_,B_,C_,i64_w,i32_w];rfl
   refine tz_ 5 29 8 61 HT_ HW_ rfl rfl (by kernel_rfl) hHeld ?_ (fun _ _ _ h => h) (by rfl) (fun w' ⟨s0, s1⟩ => ?_) ?_ ?_ ?_;rotate_left;go_simp;with_reducible rfl;rotate_left;simp only [P_,A_,B_,C_,i64_w,i32_w];rfl
   refine one_ (i := 1) (N := some 25) #[T_,T_,T_,T_,T_,T_,F_,F_] rfl rfl (one_of HT_.out (by kernel_rfl)) (by decide) (fun K hK => ?_)
   refine goes_ Tryd.func18 (by kernel_rfl) rfl #[.string t424] (by rfl) rfl rfl (by (try simp only [List.map_toArray, List.map_cons, List.map_nil]); first | done | rfl | (simp only [List.length_drop, List.length_take]; rfl)) ?_
   with_reducible refine (wireloomlaw02_parsed.calls t424 t425 t426 t427 _ ?side1 A8.out).mono ?_
   (case side1 => exact GL.below hGL (by repeat (first | (with_reducible first | exact HB.out | apply below_alloc | apply pw_below_drewN | apply below_drew1 | refine below_set ?_ GE418.out | refine below_set ?_ GE419.out | refine below_set ?_ GE423.out) | exact HB.out)))
   rintro e w26 ⟨rfl, hb⟩
   refine ⟨_, rfl, ?_⟩
   replace BK418 := Aside0.mk (blk_below (g := gb418) (o := .cells #[.int .i64 a0_0, .int .i64 a0_1] 22 (0, 0)) (by (with_reducible repeat (first | refine blk_drewN ?_ _ | refine blk_drew ?_ | refine blk_alloc ?_ _)); exact BK418.out) hb)
   replace BK419 := Aside0.mk (blk_below (g := gb419) (o := .cells #[.int .u8 a1_0, .int .u8 a1_1, .int .u8 a1_2] 35 (0, 0)) (by (with_reducible repeat (first | refine blk_drewN ?_ _ | refine blk_drew ?_ | refine blk_alloc ?_ _)); exact BK419.out) hb)
   replace BK423 := Aside0.mk (blk_below (g := gb423) (o := .cells #[.int .i64 t421, .int .i64 t422] 25 (0, 0)) (by (with_reducible repeat (first | refine blk_drewN ?_ _ | refine blk_drew ?_ | refine blk_alloc ?_ _)); exact BK423.out) hb)
   replace HB := Aside0.mk (below_step (by repeat (first | (with_reducible first | exact HB.out | apply below_alloc | apply pw_below_drewN | apply below_drew1 | refine below_set ?_ GE418.out | refine below_set ?_ GE419.out | refine below_set ?_ GE423.out) | exact HB.out)) hb)
   (try clear hb)
   (try clear A8)
   refine hK.out _ _ ⟨(blk_cell BK423.out 0).trans rfl, (blk_cell BK423.out 1).trans rfl⟩ (fun hHeld => ?_)
   clear hK K
   refine norm_ (a' := ?_) ?_ ?_
   rotate_left
   ·show Act.put _ (some 25) _ = _
    simp only [Act.put, List.setIfInBounds_toArray, List.set_cons_zero, List.set_cons_succ, i64_w, i32_w]
    rfl
   refine one_ (i := 6) (N := some 30) #[T_,T_,T_,T_,T_,T_,T_,F_] rfl rfl (one_of HT_.out (by kernel_rfl)) (by decide) (fun K hK => ?_)
   refine goes_ Tryd.func16 (by kernel_rfl) rfl #[.int .i64 t421, .int .i64 t422] (by rfl) rfl rfl (by (try simp only [List.map_toArray, List.map_cons, List.map_nil]); first | done | rfl | (simp only [List.length_drop, List.length_take]; rfl)) ?_
   with_reducible refine (wireloomlaw02_is.calls t421 t422 t428 t429 t430 _ A9.out).mono ?_
   rintro e w27 ⟨rfl, hb⟩
   refine ⟨_, rfl, ?_⟩
   replace BK418 := Aside0.mk (blk_below (g := gb418) (o := .cells #[.int .i64 a0_0, .int .i64 a0_1] 22 (0, 0)) (by (with_reducible repeat (first | refine blk_drewN ?_ _ | refine blk_drew ?_ | refine blk_alloc ?_ _)); exact BK418.out) hb)
   replace BK419 := Aside0.mk (blk_below (g := gb419) (o := .cells #[.int .u8 a1_0, .int .u8 a1_1, .int .u8 a1_2] 35 (0, 0)) (by (with_reducible repeat (first | refine blk_drewN ?_ _ | refine blk_drew ?_ | refine blk_alloc ?_ _)); exact BK419.out) hb)
   replace BK423 := Aside0.mk (blk_below (g := gb423) (o := .cells #[.int .i64 t421, .int .i64 t422] 25 (0, 0)) (by (with_reducible repeat (first | refine blk_drewN ?_ _ | refine blk_drew ?_ | refine blk_alloc ?_ _)); exact BK423.out) hb)
   replace HB := Aside0.mk (below_step (by repeat (first | (with_reducible first | exact HB.out | apply below_alloc | apply pw_below_drewN | apply below_drew1 | refine below_set ?_ GE418.out | refine below_set ?_ GE419.out | refine below_set ?_ GE423.out) | exact HB.out)) hb)
   (try clear hb)
   (try clear A9)
   refine hK.out _ _ ⟨(blk_cell BK423.out 0).trans rfl, (blk_cell BK423.out 1).trans rfl⟩ (fun hHeld => ?_)
   clear hK K
   refine norm_ (a' := ?_) ?_ ?_
   rotate_left
   ·show Act.put _ (some 30) _ = _
    simp only [Act.put, List.setIfInBounds_toArray, List.set_cons_zero, List.set_cons_succ, i64_w, i32_w]
    rfl
   refine pz_ 7 31 8 255 HT_ rfl rfl (by kernel_rfl) ?_ (fun _ _ _ h => h) (by rfl) (fun w' => ?_) ?_ ?_ ?_;rotate_left;go_simp;with_reducible rfl;rotate_left;simp only [P_,A_,B_,C_,i64_w,i32_w];rfl
   refine done_ (done_of HT_.out (by kernel_rfl)) ?_
   have hcz28_0 : w27.cell? ⟨gb419, 0, none⟩ = some (.int .u8 a1_0) := (blk_cell BK419.out 0).trans rfl
   have hcz28_1 : w27.cell? ⟨gb419, 1, none⟩ = some (.int .u8 a1_1) := (blk_cell BK419.out 1).trans rfl
   have hcz28_2 : w27.cell? ⟨gb419, 2, none⟩ = some (.int .u8 a1_2) := (blk_cell BK419.out 2).trans rfl
   have hfz28_0 := blk_frozen BK419.out 0
   have hfz28_1 := blk_frozen BK419.out 1
   have hfz28_2 := blk_frozen BK419.out 2
   go_upto_if 48 with (first | ((with_reducible refine gate_callee (f := 19) rfl ?_); refine goesL_ (some 34) rfl rfl Tryd.func19 (by kernel_rfl) rfl #[.string t424, .agg #[.int .u8 a1_0, .int .u8 a1_1, .int .u8 a1_2]] rfl (by (try simp only [List.map_toArray, List.map_cons, List.map_nil]); first | done | rfl | (simp only [List.length_drop, List.length_take]; rfl)) ?_; (with_reducible refine (wireloomlaw02_edited.calls k t424 a1_0 a1_1 a1_2 t431 _ A11.out).mono ?_); rintro e w29 ⟨rfl, hb⟩; refine ⟨_, rfl, ?_⟩; replace BK418 := Aside0.mk (blk_below (g := gb418) (o := .cells #[.int .i64 a0_0, .int .i64 a0_1] 22 (0, 0)) (by (with_reducible repeat (first | refine blk_drewN ?_ _ | refine blk_drew ?_ | refine blk_alloc ?_ _)); exact BK418.out) hb); replace BK419 := Aside0.mk (blk_below (g := gb419) (o := .cells #[.int .u8 a1_0, .int .u8 a1_1, .int .u8 a1_2] 35 (0, 0)) (by (with_reducible repeat (first | refine blk_drewN ?_ _ | refine blk_drew ?_ | refine blk_alloc ?_ _)); exact BK419.out) hb); replace BK423 := Aside0.mk (blk_below (g := gb423) (o := .cells #[.int .i64 t421, .int .i64 t422] 25 (0, 0)) (by (with_reducible repeat (first | refine blk_drewN ?_ _ | refine blk_drew ?_ | refine blk_alloc ?_ _)); exact BK423.out) hb); replace HB := Aside0.mk (below_step (by repeat (first | (with_reducible first | exact HB.out | apply below_alloc | apply pw_below_drewN | apply below_drew1 | refine below_set ?_ GE418.out | refine below_set ?_ GE419.out | refine below_set ?_ GE423.out) | exact HB.out)) hb); (try clear hb); (try clear A11); have hcz30_0 : w29.cell? ⟨gb419, 0, none⟩ = some (.int .u8 a1_0) := (blk_cell BK419.out 0).trans rfl; have hcz30_1 : w29.cell? ⟨gb419, 1, none⟩ = some (.int .u8 a1_1) := (blk_cell BK419.out 1).trans rfl; have hcz30_2 : w29.cell? ⟨gb419, 2, none⟩ = some (.int .u8 a1_2) := (blk_cell BK419.out 2).trans rfl; have hfz30_0 := blk_frozen BK419.out 0; have hfz30_1 := blk_frozen BK419.out 1; have hfz30_2 := blk_frozen BK419.out 2) | ((with_reducible refine gate_callee (f := 19) rfl ?_); refine goesL_ (some 44) rfl rfl Tryd.func19 (by kernel_rfl) rfl #[.string t431, .agg #[.int .u8 a1_1, .int .u8 a1_2, .int .u8 a1_0]] rfl (by (try simp only [List.map_toArray, List.map_cons, List.map_nil]); first | done | rfl | (simp only [List.length_drop, List.length_take]; rfl)) ?_; (with_reducible refine (wireloomlaw02_edited.calls k t431 a1_1 a1_2 a1_0 t432 _ A12.out).mono ?_); rintro e w31 ⟨rfl, hb⟩; refine ⟨_, rfl, ?_⟩; replace BK418 := Aside0.mk (blk_below (g := gb418) (o := .cells #[.int .i64 a0_0, .int .i64 a0_1] 22 (0, 0)) (by (with_reducible repeat (first | refine blk_drewN ?_ _ | refine blk_drew ?_ | refine blk_alloc ?_ _)); exact BK418.out) hb); replace BK419 := Aside0.mk (blk_below (g := gb419) (o := .cells #[.int .u8 a1_0, .int .u8 a1_1, .int .u8 a1_2] 35 (0, 0)) (by (with_reducible repeat (first | refine blk_drewN ?_ _ | refine blk_drew ?_ | refine blk_alloc ?_ _)); exact BK419.out) hb); replace BK423 := Aside0.mk (blk_below (g := gb423) (o := .cells #[.int .i64 t421, .int .i64 t422] 25 (0, 0)) (by (with_reducible repeat (first | refine blk_drewN ?_ _ | refine blk_drew ?_ | refine blk_alloc ?_ _)); exact BK423.out) hb); replace HB := Aside0.mk (below_step (by repeat (first | (with_reducible first | exact HB.out | apply below_alloc | apply pw_below_drewN | apply below_drew1 | refine below_set ?_ GE418.out | refine below_set ?_ GE419.out | refine below_set ?_ GE423.out) | exact HB.out)) hb); (try clear hb); (try clear A12)) | ((with_reducible refine gate_dst (N := 45) rfl ?_); refine Kd.R_lit Kd.string _ 9 ?hg (N := 45) ?hd (xs := ([t431, t432] : List ByteArray)) (inner := [.string t431, .string t432]) (ok := fun _ => True) (okp := fun _ => True) ?hr ?hp (fun _ hk => hk) trivial (Below.refl _ _) (Nat.le_refl _) (by simp) ?_; (case hd => rfl); (case hg => rfl); (case hr => first | (go_simp; done) | (go_simp; rfl)); (case hp => exact (Reps.one (show Kd.M Kd.string _ _ _ t431 [.string t431] from rfl) (Reps.one (show Kd.M Kd.string _ _ _ t432 [.string t432] from rfl) (Reps.none _ _)))); intro v434 w32 ho33 hb hg_ hnew_; clear hg_ hnew_; (first | rw [← Ny433.out] at ho33 | (simp only [Int.reduceToNat] at ho33; rw [← Ny433.out] at ho33)); have HO435 := Aside0.mk (Kd.R_lower ho33 (below_size (by repeat (first | (with_reducible first | exact HB.out | apply below_alloc | apply pw_below_drewN | apply below_drew1 | refine below_set ?_ GE418.out | refine below_set ?_ GE419.out | refine below_set ?_ GE423.out) | exact HB.out)))); replace BK418 := Aside0.mk (blk_below (g := gb418) (o := .cells #[.int .i64 a0_0, .int .i64 a0_1] 22 (0, 0)) (by (with_reducible repeat (first | refine blk_drewN ?_ _ | refine blk_drew ?_ | refine blk_alloc ?_ _)); exact BK418.out) hb); replace BK419 := Aside0.mk (blk_below (g := gb419) (o := .cells #[.int .u8 a1_0, .int .u8 a1_1, .int .u8 a1_2] 35 (0, 0)) (by (with_reducible repeat (first | refine blk_drewN ?_ _ | refine blk_drew ?_ | refine blk_alloc ?_ _)); exact BK419.out) hb); replace BK423 := Aside0.mk (blk_below (g := gb423) (o := .cells #[.int .i64 t421, .int .i64 t422] 25 (0, 0)) (by (with_reducible repeat (first | refine blk_drewN ?_ _ | refine blk_drew ?_ | refine blk_alloc ?_ _)); exact BK423.out) hb); replace HB := Aside0.mk (below_step (by repeat (first | (with_reducible first | exact HB.out | apply below_alloc | apply pw_below_drewN | apply below_drew1 | refine below_set ?_ GE418.out | refine below_set ?_ GE419.out | refine below_set ?_ GE423.out) | exact HB.out)) hb); clear hb ho33))
   (try simp only [Act.put, List.setIfInBounds_toArray, List.set_cons_zero, List.set_cons_succ])
   go_cut [11] (fun v11 wc => ∃ (kq : Nat) (x11_12 : List ByteArray), Aside0 (wireloomlaw02_FractionTexts.j0 kq true x11_12 = some true) ∧ Aside0 (kq ≤ k) ∧ Aside0 (Kd.R Kd.string 9 wc w.heap.size (fun _ => True) v11 x11_12) ∧ Aside0 (wc.heap[gb418]? = some (.cells #[.int .i64 a0_0, .int .i64 a0_1] 22 (0, 0))) ∧ Aside0 (wc.heap[gb419]? = some (.cells #[.int .u8 a1_0, .int .u8 a1_1, .int .u8 a1_2] 35 (0, 0))) ∧ Aside0 (wc.heap[gb423]? = some (.cells #[.int .i64 t421, .int .i64 t422] 25 (0, 0))) ∧ Aside0 (Below w.heap.size w wc))
   case first =>
    have H := HC13.out
    clear HC13
    by_cases c34 : (a2.size : Int) ≤ 100
    ·rw [if_pos c34] at H
     have c34b0 : decide ((a2.size : Int) ≤ 100) = true := decide_eq_true c34
     have c34b1 : decide (a2.size ≤ 100) = true := decide_eq_true (by omega)
     clear c34
     (first | rw [c34b0] | (simp only [i64_w, i32_w]; rw [c34b0]) | skip)
     by_cases c35 : y433.length < 8796093022208
     ·rw [if_pos c35] at H
      have LMc35 := Aside0.mk c35
      clear c35
      obtain ⟨y436, hy436⟩ : ∃ y_ : List ByteArray, y_ = (y433 ++ [a2]) := ⟨_, rfl⟩
      replace H : (wireloomlaw02_FractionTexts.j0 k true y436) = some true := by first | (rw [hy436]; with_reducible exact H) | (have H2_ := (Option.bind_some _ _).symm.trans H; rw [hy436]; with_reducible exact H2_) | (have H2_ := (Option.bind_some _ _).symm.trans H; with_reducible exact H2_) | with_reducible exact H | (rw [hy436]; exact H) | exact H
      have Ny436 := Aside0.mk hy436
      clear hy436
      have H' := Aside0.mk H
      clear H
      go_wp2_with (first | ((with_reducible refine gate_builtin (b := .append) (xs := #[.tmp 49, .tmp 51]) rfl ?_); at_builtin; refine Kd.R_append Kd.string (w0 := w) w.heap.size rfl (.tmp 49) (.tmp 51) 39 9 (.string ⟨#[]⟩) 16 rfl Tryd.underlying39 info9 rfl (by decide) (by omega) v434 y433 a2 [.string a2] (fun _ => True) (fun _ => False) rfl rfl ?aP (fun _ hk => hk.elim) ?aF ?aO ?aB ?aS ?aL ?_; (case aP => exact rfl); (case aB => exact (by repeat (first | (with_reducible first | exact HB.out | apply below_alloc | apply pw_below_drewN | apply below_drew1 | refine below_set ?_ GE418.out | refine below_set ?_ GE419.out | refine below_set ?_ GE423.out) | exact HB.out))); (case aF => exact (fun _ _ => trivial)); (case aO => exact (by (with_reducible repeat (first | apply Kd.R_alloc | apply Kd.R_drewN | apply Kd.R_drew)); exact HO435.out)); (case aS => exact (below_size (by repeat (first | (with_reducible first | exact HB.out | apply below_alloc | apply pw_below_drewN | apply below_drew1 | refine below_set ?_ GE418.out | refine below_set ?_ GE419.out | refine below_set ?_ GE423.out) | exact HB.out)))); (case aL => have := LMc35.out; omega); intro v437 w36 ho hb hg hat; rw [← Ny436.out] at ho; replace BK418 := Aside0.mk (blk_grown (g := gb418) (o := .cells #[.int .i64 a0_0, .int .i64 a0_1] 22 (0, 0)) (by (with_reducible repeat (first | refine blk_drewN ?_ _ | refine blk_drew ?_ | refine blk_alloc ?_ _)); exact BK418.out) hg (Kd.R_ne HO435.out BK418.out (by decide))); replace BK419 := Aside0.mk (blk_grown (g := gb419) (o := .cells #[.int .u8 a1_0, .int .u8 a1_1, .int .u8 a1_2] 35 (0, 0)) (by (with_reducible repeat (first | refine blk_drewN ?_ _ | refine blk_drew ?_ | refine blk_alloc ?_ _)); exact BK419.out) hg (Kd.R_ne HO435.out BK419.out (by decide))); replace BK423 := Aside0.mk (blk_grown (g := gb423) (o := .cells #[.int .i64 t421, .int .i64 t422] 25 (0, 0)) (by (with_reducible repeat (first | refine blk_drewN ?_ _ | refine blk_drew ?_ | refine blk_alloc ?_ _)); exact BK423.out) hg (Kd.R_ne HO435.out BK423.out (by decide))); replace HB := Aside0.mk (hb); have HO438 := Aside0.mk (ho); clear HO435; clear ho hb hg hat))
      go_meet
      case rel => exact ⟨_, (y436), H', ⟨by first | omega | exact Nat.le_refl _⟩, ⟨by (with_reducible repeat (first | apply Kd.R_alloc | apply Kd.R_drewN | apply Kd.R_drew)); exact HO438.out⟩, ⟨by (with_reducible repeat (first | refine blk_drewN ?_ _ | refine blk_drew ?_ | refine blk_alloc ?_ _)); exact BK418.out⟩, ⟨by (with_reducible repeat (first | refine blk_drewN ?_ _ | refine blk_drew ?_ | refine blk_alloc ?_ _)); exact BK419.out⟩, ⟨by (with_reducible repeat (first | refine blk_drewN ?_ _ | refine blk_drew ?_ | refine blk_alloc ?_ _)); exact BK423.out⟩, ⟨by repeat (first | (with_reducible first | exact HB.out | apply below_alloc | apply pw_below_drewN | apply below_drew1 | refine below_set ?_ GE418.out | refine below_set ?_ GE419.out | refine below_set ?_ GE423.out) | exact HB.out)⟩⟩
     ·rw [if_neg c35] at H
      exact absurd H (by simp)
    ·rw [if_neg c34] at H
     have c34b0 : decide ((a2.size : Int) ≤ 100) = false := decide_eq_false c34
     have c34b1 : decide (a2.size ≤ 100) = false := decide_eq_false (by omega)
     clear c34
     (first | rw [c34b0] | (simp only [i64_w, i32_w]; rw [c34b0]) | skip)
     have H' := Aside0.mk H
     clear H
     go_wp2
     go_meet
     case rel => exact ⟨_, (y433), H', ⟨by first | omega | exact Nat.le_refl _⟩, ⟨by (with_reducible repeat (first | apply Kd.R_alloc | apply Kd.R_drewN | apply Kd.R_drew)); exact HO435.out⟩, ⟨by (with_reducible repeat (first | refine blk_drewN ?_ _ | refine blk_drew ?_ | refine blk_alloc ?_ _)); exact BK418.out⟩, ⟨by (with_reducible repeat (first | refine blk_drewN ?_ _ | refine blk_drew ?_ | refine blk_alloc ?_ _)); exact BK419.out⟩, ⟨by (with_reducible repeat (first | refine blk_drewN ?_ _ | refine blk_drew ?_ | refine blk_alloc ?_ _)); exact BK423.out⟩, ⟨by repeat (first | (with_reducible first | exact HB.out | apply below_alloc | apply pw_below_drewN | apply below_drew1 | refine below_set ?_ GE418.out | refine below_set ?_ GE419.out | refine below_set ?_ GE423.out) | exact HB.out)⟩⟩
   case rest =>
    clear HC13
    try clear c1
    try clear c2
    try clear p2
    try clear c3
    try clear c4
    try clear c5
    try clear c9
    try clear c10
    try clear c10b0
    try clear c16
    try clear c17
    try clear c18
    try clear c19
    try clear c21
    try clear c22
    try clear c34
    try clear c34b0
    try clear c34b1
    try clear c35
    try clear hcz18_0
    try clear hcz18_1
    try clear hcz23_0
    try clear hcz23_1
    try clear hcz28_0
    try clear hcz28_1
    try clear hcz28_2
    try clear hcz30_0
    try clear hcz30_1
    try clear hcz30_2
    try clear hfz18_0
    try clear hfz18_1
    try clear hfz23_0
    try clear hfz23_1
    try clear hfz28_0
    try clear hfz28_1
    try clear hfz28_2
    try clear hfz30_0
    try clear hfz30_1
    try clear hfz30_2
    obtain ⟨kq, x11_12, HA, HJ12, HO_11, BK418, BK419, BK423, HB⟩ := hcut
    cases kq with
    | zero => exact absurd HA.out (by simp [wireloomlaw02_FractionTexts.j0])
    | succ kj12 =>
     have H := HA.out
     clear HA
     simp only [wireloomlaw02_FractionTexts.j0] at H
     have H' := Aside0.mk H
     clear H
     go_wp2
     go_loopg [12] kj12 (fun kq v12 w' => ∃ (x12_2 : Int), v12 = .int .i64 x12_2 ∧ Aside0 (wireloomlaw02_FractionTexts.l0 kq true x11_12 x12_2 = some true) ∧ Aside0 (kq ≤ kj12) ∧ Aside0 (Kd.R Kd.string 9 w' w.heap.size (fun _ => True) u11 x11_12) ∧ Aside0 (w'.heap[gb418]? = some (.cells #[.int .i64 a0_0, .int .i64 a0_1] 22 (0, 0))) ∧ Aside0 (w'.heap[gb419]? = some (.cells #[.int .u8 a1_0, .int .u8 a1_1, .int .u8 a1_2] 35 (0, 0))) ∧ Aside0 (w'.heap[gb423]? = some (.cells #[.int .i64 t421, .int .i64 t422] 25 (0, 0))) ∧ Aside0 (Below w.heap.size w w'))
     case atStart => exact ⟨(0), (by first | rfl | (simp; done) | (simp [*]; done)), H', ⟨Nat.le_refl _⟩, ⟨by (with_reducible repeat (first | apply Kd.R_alloc | apply Kd.R_drewN | apply Kd.R_drew)); exact HO_11.out⟩, ⟨by (with_reducible repeat (first | refine blk_drewN ?_ _ | refine blk_drew ?_ | refine blk_alloc ?_ _)); exact BK418.out⟩, ⟨by (with_reducible repeat (first | refine blk_drewN ?_ _ | refine blk_drew ?_ | refine blk_alloc ?_ _)); exact BK419.out⟩, ⟨by (with_reducible repeat (first | refine blk_drewN ?_ _ | refine blk_drew ?_ | refine blk_alloc ?_ _)); exact BK423.out⟩, ⟨by repeat (first | (with_reducible first | exact HB.out | apply below_alloc | apply pw_below_drewN | apply below_drew1 | refine below_set ?_ GE418.out | refine below_set ?_ GE419.out | refine below_set ?_ GE423.out) | exact HB.out)⟩⟩
     case round =>
      clear H'
      try clear c1
      try clear c2
      try clear p2
      try clear c3
      try clear c4
      try clear c5
      try clear c9
      try clear c10
      try clear c10b0
      try clear c16
      try clear c17
      try clear c18
      try clear c19
      try clear c21
      try clear c22
      try clear c34
      try clear c34b0
      try clear c34b1
      try clear c35
      try clear hcz18_0
      try clear hcz18_1
      try clear hcz23_0
      try clear hcz23_1
      try clear hcz28_0
      try clear hcz28_1
      try clear hcz28_2
      try clear hcz30_0
      try clear hcz30_1
      try clear hcz30_2
      try clear hfz18_0
      try clear hfz18_1
      try clear hfz23_0
      try clear hfz23_1
      try clear hfz28_0
      try clear hfz28_1
      try clear hfz28_2
      try clear hfz30_0
      try clear hfz30_1
      try clear hfz30_2
      try clear p2
      obtain ⟨x12_2, rfl, HA, HK2, HO_11, BK418, BK419, BK423, HB⟩ := hrel
      cases gk with
      | zero => exact absurd HA.out (by simp [wireloomlaw02_FractionTexts.l0])
      | succ k2 =>
       have H := HA.out
       clear HA
       simp only [wireloomlaw02_FractionTexts.l0] at H
       by_cases c37 : x12_2 < (x11_12.length : Int)
       ·rw [if_pos c37] at H
        have c37b0 : decide (x12_2 < (x11_12.length : Int)) = true := decide_eq_true c37
        clear c37
        by_cases c38 : 0 ≤ x12_2
        ·rw [if_pos c38] at H
         have c38b0 : decide (0 ≤ x12_2) = true := decide_eq_true c38
         clear c38
         replace H := Option.bind_eq_some_iff.mp H
         obtain ⟨⟨t440, t441, t442⟩, A390, H⟩ := H
         replace H : ((wireloomref02_ParseIn.f k2 (rdOf ByteArray.empty x11_12 x12_2)).bind fun bt445 => (if ((!(t440 == bt445.1) || (!(t441 == bt445.2.1))) || (!(t442 == bt445.2.2))) = true then (wireloomlaw02_FractionTexts.j2 k2 true x11_12 x12_2 true) else (if t442 = 0 then ((fraction_Text.f t440 t441).bind fun t448 => (wireloomlaw02_FractionTexts.j2 k2 true x11_12 x12_2 (t448.toList != (rdOf ByteArray.empty x11_12 x12_2).toList))) else (wireloomlaw02_FractionTexts.j2 k2 true x11_12 x12_2 false)))) = some true := H
         have A39 := Aside0.mk A390
         clear A390
         have HC40 := Aside0.mk H
         clear H
         obtain ⟨Ao41, co41, eo41⟩ := Kd.R_slice HO_11.out
         subst eo41
         have p439 : 0 ≤ (x12_2 : Int) := of_decide_eq_true (by first | (with_reducible assumption) | assumption)
         have q439 : x12_2 < (x11_12.length : Int) := of_decide_eq_true (by first | (with_reducible assumption) | assumption)
         obtain ⟨ad439, e439, hx439_0⟩ := Kd.at_string (Kd.R_reads' HO_11.out).2.2 x12_2 p439 q439
         cases e439
         replace p439 := eq_true p439
         replace q439 := eq_true q439
         go_upto_region 16 with (first | ((with_reducible refine gate_callee (f := 18) rfl ?_); refine goesL_ (some 63) rfl rfl Tryd.func18 (by kernel_rfl) rfl #[.string (rdOf ByteArray.empty x11_12 x12_2)] rfl (by (try simp only [List.map_toArray, List.map_cons, List.map_nil]); first | done | rfl | (simp only [List.length_drop, List.length_take]; rfl)) ?_; (with_reducible refine (wireloomlaw02_parsed.calls (rdOf ByteArray.empty x11_12 x12_2) t440 t441 t442 _ ?side1 A39.out).mono ?_); (case side1 => exact GL.below hGL (by repeat (first | (with_reducible first | exact HB.out | apply below_alloc | apply pw_below_drewN | apply below_drew1 | refine below_set ?_ GE418.out | refine below_set ?_ GE419.out | refine below_set ?_ GE423.out) | exact HB.out))); rintro e w42 ⟨rfl, hb⟩; refine ⟨_, rfl, ?_⟩; replace HO_11 := Aside0.mk (Kd.R_below (by (with_reducible repeat (first | apply Kd.R_alloc | apply Kd.R_drewN | apply Kd.R_drew)); exact HO_11.out) hb); replace BK418 := Aside0.mk (blk_below (g := gb418) (o := .cells #[.int .i64 a0_0, .int .i64 a0_1] 22 (0, 0)) (by (with_reducible repeat (first | refine blk_drewN ?_ _ | refine blk_drew ?_ | refine blk_alloc ?_ _)); exact BK418.out) hb); replace BK419 := Aside0.mk (blk_below (g := gb419) (o := .cells #[.int .u8 a1_0, .int .u8 a1_1, .int .u8 a1_2] 35 (0, 0)) (by (with_reducible repeat (first | refine blk_drewN ?_ _ | refine blk_drew ?_ | refine blk_alloc ?_ _)); exact BK419.out) hb); replace BK423 := Aside0.mk (blk_below (g := gb423) (o := .cells #[.int .i64 t421, .int .i64 t422] 25 (0, 0)) (by (with_reducible repeat (first | refine blk_drewN ?_ _ | refine blk_drew ?_ | refine blk_alloc ?_ _)); exact BK423.out) hb); replace HB := Aside0.mk (below_step (by repeat (first | (with_reducible first | exact HB.out | apply below_alloc | apply pw_below_drewN | apply below_drew1 | refine below_set ?_ GE418.out | refine below_set ?_ GE419.out | refine below_set ?_ GE423.out) | exact HB.out)) hb); (try clear hb); (try clear A39)) | ((with_reducible refine gate_dst (N := 13) rfl ?_); refine box_event ?hg (N := 13) ?hd (cs := #[.int .i64 0, .int .i64 0, .int .i64 0]) (t := 31) ?hr ?_; (case hd => rfl); (case hg => rfl); (case hr => first | (go_simp; done) | (go_simp; rfl)); intro gb443 hg w43 hbox hb; replace HO_11 := Aside0.mk (Kd.R_below (by (with_reducible repeat (first | apply Kd.R_alloc | apply Kd.R_drewN | apply Kd.R_drew)); exact HO_11.out) hb); have BK443 := Aside0.mk (hbox); have GW443 := Aside0.mk ((by rw [hg]; exact (below_size (by repeat (first | (with_reducible first | exact HB.out | apply below_alloc | apply pw_below_drewN | apply below_drew1 | refine below_set ?_ GE418.out | refine below_set ?_ GE419.out | refine below_set ?_ GE423.out) | exact HB.out))) : w.heap.size ≤ gb443)); have GE443 := Aside0.mk ((by rw [hg]; exact (below_size (by repeat (first | (with_reducible first | exact HB.out | apply below_alloc | apply pw_below_drewN | apply below_drew1 | refine below_set ?_ GE418.out | refine below_set ?_ GE419.out | refine below_set ?_ GE423.out) | exact HB.out))) : w.heap.size ≤ gb443)); replace HB := Aside0.mk (below_step (by repeat (first | (with_reducible first | exact HB.out | apply below_alloc | apply pw_below_drewN | apply below_drew1 | refine below_set ?_ GE418.out | refine below_set ?_ GE419.out | refine below_set ?_ GE423.out) | exact HB.out)) hb); have NB418_443 := Aside0.mk ((by rw [hg]; exact Nat.ne_of_lt (blk_lt (g := gb418) (o := .cells #[.int .i64 a0_0, .int .i64 a0_1] 22 (0, 0)) (by (with_reducible repeat (first | refine blk_drewN ?_ _ | refine blk_drew ?_ | refine blk_alloc ?_ _)); exact BK418.out)) : gb418 ≠ gb443)); have NB443_418 := Aside0.mk ((by rw [hg]; exact Nat.ne_of_gt (blk_lt (g := gb418) (o := .cells #[.int .i64 a0_0, .int .i64 a0_1] 22 (0, 0)) (by (with_reducible repeat (first | refine blk_drewN ?_ _ | refine blk_drew ?_ | refine blk_alloc ?_ _)); exact BK418.out)) : gb443 ≠ gb418)); replace BK418 := Aside0.mk (blk_below (g := gb418) (o := .cells #[.int .i64 a0_0, .int .i64 a0_1] 22 (0, 0)) (by (with_reducible repeat (first | refine blk_drewN ?_ _ | refine blk_drew ?_ | refine blk_alloc ?_ _)); exact BK418.out) hb); have NB419_443 := Aside0.mk ((by rw [hg]; exact Nat.ne_of_lt (blk_lt (g := gb419) (o := .cells #[.int .u8 a1_0, .int .u8 a1_1, .int .u8 a1_2] 35 (0, 0)) (by (with_reducible repeat (first | refine blk_drewN ?_ _ | refine blk_drew ?_ | refine blk_alloc ?_ _)); exact BK419.out)) : gb419 ≠ gb443)); have NB443_419 := Aside0.mk ((by rw [hg]; exact Nat.ne_of_gt (blk_lt (g := gb419) (o := .cells #[.int .u8 a1_0, .int .u8 a1_1, .int .u8 a1_2] 35 (0, 0)) (by (with_reducible repeat (first | refine blk_drewN ?_ _ | refine blk_drew ?_ | refine blk_alloc ?_ _)); exact BK419.out)) : gb443 ≠ gb419)); replace BK419 := Aside0.mk (blk_below (g := gb419) (o := .cells #[.int .u8 a1_0, .int .u8 a1_1, .int .u8 a1_2] 35 (0, 0)) (by (with_reducible repeat (first | refine blk_drewN ?_ _ | refine blk_drew ?_ | refine blk_alloc ?_ _)); exact BK419.out) hb); have NB423_443 := Aside0.mk ((by rw [hg]; exact Nat.ne_of_lt (blk_lt (g := gb423) (o := .cells #[.int .i64 t421, .int .i64 t422] 25 (0, 0)) (by (with_reducible repeat (first | refine blk_drewN ?_ _ | refine blk_drew ?_ | refine blk_alloc ?_ _)); exact BK423.out)) : gb423 ≠ gb443)); have NB443_423 := Aside0.mk ((by rw [hg]; exact Nat.ne_of_gt (blk_lt (g := gb423) (o := .cells #[.int .i64 t421, .int .i64 t422] 25 (0, 0)) (by (with_reducible repeat (first | refine blk_drewN ?_ _ | refine blk_drew ?_ | refine blk_alloc ?_ _)); exact BK423.out)) : gb443 ≠ gb423)); replace BK423 := Aside0.mk (blk_below (g := gb423) (o := .cells #[.int .i64 t421, .int .i64 t422] 25 (0, 0)) (by (with_reducible repeat (first | refine blk_drewN ?_ _ | refine blk_drew ?_ | refine blk_alloc ?_ _)); exact BK423.out) hb); clear hb hbox hg; have hnb44 := NB443_418.out; have hnc44 := NB418_443.out; have hnb45 := NB443_419.out; have hnc45 := NB419_443.out; have hnb46 := NB443_423.out; have hnc46 := NB423_443.out; have hcz47_0 : w43.cell? ⟨gb443, 0, none⟩ = some (.int .i64 0) := (blk_cell BK443.out 0).trans rfl; have hcz47_1 : w43.cell? ⟨gb443, 1, none⟩ = some (.int .i64 0) := (blk_cell BK443.out 1).trans rfl; have hcz47_2 : w43.cell? ⟨gb443, 2, none⟩ = some (.int .i64 0) := (blk_cell BK443.out 2).trans rfl; have hfz47_0 := blk_frozen BK443.out 0; have hfz47_1 := blk_frozen BK443.out 1; have hfz47_2 := blk_frozen BK443.out 2))
         (try simp only [Act.put, List.setIfInBounds_toArray, List.set_cons_zero, List.set_cons_succ])
         go_cut [85] (fun v85 wc => ∃ (kq : Nat) (x85_39 : Bool), v85 = .bool x85_39 ∧ Aside0 (wireloomlaw02_FractionTexts.j2 kq true x11_12 x12_2 x85_39 = some true) ∧ Aside0 (kq ≤ k2) ∧ Aside0 (Kd.R Kd.string 9 wc w.heap.size (fun _ => True) (.slice (some ad439) x11_12.length co41) x11_12) ∧ Aside0 (wc.heap[gb418]? = some (.cells #[.int .i64 a0_0, .int .i64 a0_1] 22 (0, 0))) ∧ Aside0 (wc.heap[gb419]? = some (.cells #[.int .u8 a1_0, .int .u8 a1_1, .int .u8 a1_2] 35 (0, 0))) ∧ Aside0 (wc.heap[gb423]? = some (.cells #[.int .i64 t421, .int .i64 t422] 25 (0, 0))) ∧ Aside0 (wc.heap[gb443]? = some (.cells #[.int .i64 t440, .int .i64 t441, .int .i64 t442] 31 (0, 0))) ∧ Aside0 (Below w.heap.size w wc))
         case first =>
          have H := HC40.out
          clear HC40
          replace H := Option.bind_eq_some_iff.mp H
          obtain ⟨⟨t445, t446, t447⟩, A480, H⟩ := H
          replace H : (if ((!(t440 == t445) || (!(t441 == t446))) || (!(t442 == t447))) = true then (wireloomlaw02_FractionTexts.j2 k2 true x11_12 x12_2 true) else (if t442 = 0 then ((fraction_Text.f t440 t441).bind fun t448 => (wireloomlaw02_FractionTexts.j2 k2 true x11_12 x12_2 (t448.toList != (rdOf ByteArray.empty x11_12 x12_2).toList))) else (wireloomlaw02_FractionTexts.j2 k2 true x11_12 x12_2 false))) = some true := H
          have A48 := Aside0.mk A480
          clear A480
          by_cases c49 : ((!(t440 == t445) || (!(t441 == t446))) || (!(t442 == t447))) = true
          ·rw [if_pos c49] at H
           have c49b0 : ((!(t440 == t445) || (!(t441 == t446))) || (!(t442 == t447))) = true := c49
           clear c49
           (first | rw [c49b0] | (simp only [i64_w, i32_w]; rw [c49b0]) | skip)
           exact absurd H (wireloomlaw02_FractionTexts.dead_j2_true _ _ _ _)
          ·rw [if_neg c49] at H
           have c49b0 : ((!(t440 == t445) || (!(t441 == t446))) || (!(t442 == t447))) = false := by simpa using c49
           clear c49
           (first | rw [c49b0] | (simp only [i64_w, i32_w]; rw [c49b0]) | skip)
           by_cases c50 : t442 = 0
           ·rw [if_pos c50] at H
            have c50b0 : (t442 == 0) = true := beq_iff_eq.mpr c50
            have c50b1 : (t442 != 0) = false := bne_eq_false_iff_eq.mpr c50
            clear c50
            replace H := Option.bind_eq_some_iff.mp H
            obtain ⟨t448, A510, H⟩ := H
            replace H : (wireloomlaw02_FractionTexts.j2 k2 true x11_12 x12_2 (t448.toList != (rdOf ByteArray.empty x11_12 x12_2).toList)) = some true := H
            have A51 := Aside0.mk A510
            clear A510
            have H' := Aside0.mk H
            clear H
            try go_wp2
            have n0_ : Aside0 (Kd.R Kd.string 9 (((w43.setCell ⟨gb443, 0, none⟩ (.int .i64 t440)).setCell ⟨gb443, 1, none⟩ (.int .i64 t441)).setCell ⟨gb443, 2, none⟩ (.int .i64 t442)) w.heap.size (fun _ => True) (.slice (some ad439) x11_12.length co41) x11_12) := ⟨by (with_reducible repeat (first | apply Kd.R_alloc | apply Kd.R_drewN | apply Kd.R_drew)); exact Kd.R_mono (Kd.R_far (p := ⟨gb443, 2, none⟩) (Kd.R_far (p := ⟨gb443, 1, none⟩) (Kd.R_far (p := ⟨gb443, 0, none⟩) (Kd.R_types HO_11.out BK443.out (by decide)) (fun _ hk => hk.2) (.int .i64 t440)) (fun _ hk => hk.2) (.int .i64 t441)) (fun _ hk => hk.2) (.int .i64 t442)) (fun _ hk => trivial)⟩
            have n1_ : Aside0 ((((w43.setCell ⟨gb443, 0, none⟩ (.int .i64 t440)).setCell ⟨gb443, 1, none⟩ (.int .i64 t441)).setCell ⟨gb443, 2, none⟩ (.int .i64 t442)).heap[gb418]? = some (.cells #[.int .i64 a0_0, .int .i64 a0_1] 22 (0, 0))) := ⟨by repeat first | (with_reducible first | refine blk_drewN ?_ _ | refine blk_drew ?_ | refine blk_alloc ?_ _) | refine blk_far ?_ NB418_443.out _ | exact BK418.out⟩
            have n2_ : Aside0 ((((w43.setCell ⟨gb443, 0, none⟩ (.int .i64 t440)).setCell ⟨gb443, 1, none⟩ (.int .i64 t441)).setCell ⟨gb443, 2, none⟩ (.int .i64 t442)).heap[gb419]? = some (.cells #[.int .u8 a1_0, .int .u8 a1_1, .int .u8 a1_2] 35 (0, 0))) := ⟨by repeat first | (with_reducible first | refine blk_drewN ?_ _ | refine blk_drew ?_ | refine blk_alloc ?_ _) | refine blk_far ?_ NB419_443.out _ | exact BK419.out⟩
            have n3_ : Aside0 ((((w43.setCell ⟨gb443, 0, none⟩ (.int .i64 t440)).setCell ⟨gb443, 1, none⟩ (.int .i64 t441)).setCell ⟨gb443, 2, none⟩ (.int .i64 t442)).heap[gb423]? = some (.cells #[.int .i64 t421, .int .i64 t422] 25 (0, 0))) := ⟨by repeat first | (with_reducible first | refine blk_drewN ?_ _ | refine blk_drew ?_ | refine blk_alloc ?_ _) | refine blk_far ?_ NB423_443.out _ | exact BK423.out⟩
            have n4_ : Aside0 ((((w43.setCell ⟨gb443, 0, none⟩ (.int .i64 t440)).setCell ⟨gb443, 1, none⟩ (.int .i64 t441)).setCell ⟨gb443, 2, none⟩ (.int .i64 t442)).heap[gb443]? = some (.cells #[.int .i64 t440, .int .i64 t441, .int .i64 t442] 31 (0, 0))) := ⟨by (with_reducible repeat (first | refine blk_drewN ?_ _ | refine blk_drew ?_ | refine blk_alloc ?_ _)); refine blk_put (cs := #[.int .i64 t440, .int .i64 t441, .int .i64 0]) ?_ 2 _ rfl; (with_reducible repeat (first | refine blk_drewN ?_ _ | refine blk_drew ?_ | refine blk_alloc ?_ _)); refine blk_put (cs := #[.int .i64 t440, .int .i64 0, .int .i64 0]) ?_ 1 _ rfl; (with_reducible repeat (first | refine blk_drewN ?_ _ | refine blk_drew ?_ | refine blk_alloc ?_ _)); refine blk_put (cs := #[.int .i64 0, .int .i64 0, .int .i64 0]) ?_ 0 _ rfl; (with_reducible repeat (first | refine blk_drewN ?_ _ | refine blk_drew ?_ | refine blk_alloc ?_ _)); exact BK443.out⟩
            have n5_ : Aside0 (Below w.heap.size w (((w43.setCell ⟨gb443, 0, none⟩ (.int .i64 t440)).setCell ⟨gb443, 1, none⟩ (.int .i64 t441)).setCell ⟨gb443, 2, none⟩ (.int .i64 t442))) := ⟨by repeat (first | (with_reducible first | exact HB.out | apply below_alloc | apply pw_below_drewN | apply below_drew1 | refine below_set ?_ GE418.out | refine below_set ?_ GE419.out | refine below_set ?_ GE423.out | refine below_set ?_ GE443.out) | exact HB.out)⟩
            (try clear HO_11)
            (try clear BK418)
            (try clear BK419)
            (try clear BK423)
            (try clear BK443)
            (try clear HB)
            generalize (((w43.setCell ⟨gb443, 0, none⟩ (.int .i64 t440)).setCell ⟨gb443, 1, none⟩ (.int .i64 t441)).setCell ⟨gb443, 2, none⟩ (.int .i64 t442)) = w52 at n0_ n1_ n2_ n3_ n4_ n5_ ⊢
            have HO_11 := n0_
            have BK418 := n1_
            have BK419 := n2_
            have BK423 := n3_
            have BK443 := n4_
            have HB := n5_
            clear n0_ n1_ n2_ n3_ n4_ n5_
            replace HO_11 := Aside0.mk (Kd.R_drew HO_11.out)
            replace BK418 := Aside0.mk (blk_drew BK418.out)
            replace BK419 := Aside0.mk (blk_drew BK419.out)
            replace BK423 := Aside0.mk (blk_drew BK423.out)
            replace BK443 := Aside0.mk (blk_drew BK443.out)
            replace HB := Aside0.mk (below_drew1 HB.out)
            have p444 : 0 ≤ (x12_2 : Int) := of_decide_eq_true (by first | (with_reducible assumption) | assumption)
            have q444 : x12_2 < (x11_12.length : Int) := of_decide_eq_true (by first | (with_reducible assumption) | assumption)
            obtain ⟨ad444, e444, hx444_0⟩ := Kd.at_string (Kd.R_reads' HO_11.out).2.2 x12_2 p444 q444
            obtain rfl : ad439 = ad444 := (by injection e444)
            replace p444 := eq_true p444
            replace q444 := eq_true q444
            have p449 : 0 ≤ (x12_2 : Int) := of_decide_eq_true (by first | (with_reducible assumption) | assumption)
            have q449 : x12_2 < (x11_12.length : Int) := of_decide_eq_true (by first | (with_reducible assumption) | assumption)
            obtain ⟨ad449, e449, hx449_0⟩ := Kd.at_string (Kd.R_reads' HO_11.out).2.2 x12_2 p449 q449
            obtain rfl : ad439 = ad449 := (by injection e449)
            replace p449 := eq_true p449
            replace q449 := eq_true q449
            refine start_ (n := 22) (S := fun w' => w'.cell? ⟨gb443, 0, none⟩ = some (.int .i64 t440) ∧ w'.cell? ⟨gb443, 1, none⟩ = some (.int .i64 t441) ∧ w'.cell? ⟨gb443, 2, none⟩ = some (.int .i64 t442) ∧ w'.cell? (ad439.add (x12_2).toNat) = some (.string (rdOf ByteArray.empty x11_12 x12_2)) ∧ w'.cell? (ad439.add (x12_2).toNat) = some (.string (rdOf ByteArray.empty x11_12 x12_2))) (ds := []) #[F_,F_,F_,F_,F_,F_,F_,F_,F_,F_,F_,F_,F_,F_,F_,F_,F_,F_,F_,F_,F_,F_] (by kernel_rfl) rfl rfl ⟨(blk_cell BK443.out 0).trans rfl, (blk_cell BK443.out 1).trans rfl, (blk_cell BK443.out 2).trans rfl, hx444_0, hx449_0⟩ (fun hHeld => ?_); refine with_tabW wireloomlaw02_FractionTexts.tab16 wireloomlaw02_FractionTexts.bits16 (fun HT_ HW_ => ?_)
            generalize w52.drew = w53 at HO_11 BK418 BK419 BK423 BK443 HB hx444_0 hx449_0 hHeld ⊢
            refine pz_ 1 65 22 2 HT_ rfl rfl (by kernel_rfl) ?_ (fun _ _ _ h => h) (by rfl) (fun w' => ?_) ?_ ?_ ?_;rotate_left;go_simp;with_reducible rfl;rotate_left;simp only [P_,A_,B_,C_,i64_w,i32_w];rfl
            refine pz_ 2 66 22 6 HT_ rfl rfl (by kernel_rfl) ?_ (fun _ _ _ h => h) (by rfl) (fun w' => ?_) ?_ ?_ ?_;rotate_left;go_simp;with_reducible rfl;rotate_left;simp only [P_,A_,B_,C_,i64_w,i32_w];rfl
            refine pz_ 3 67 22 14 HT_ rfl rfl (by kernel_rfl) ?_ (fun _ _ _ h => h) (by rfl) (fun w' => ?_) ?_ ?_ ?_;rotate_left;go_simp;with_reducible rfl;rotate_left;simp only [P_,A_,B_,C_,i64_w,i32_w];rfl
            refine tz_ 0 64 22 15 HT_ HW_ rfl rfl (by kernel_rfl) hHeld ?_ (fun _ _ _ h => h) (by rfl) (fun w' ⟨s0, s1, s2, s3, s4⟩ => ?_) ?_ ?_ ?_;rotate_left;go_simp;with_reducible rfl;rotate_left;simp only [P_,A_,B_,C_,i64_w,i32_w];rfl
            refine tz_ 4 68 22 31 HT_ HW_ rfl rfl (by kernel_rfl) hHeld ?_ (fun _ _ _ h => h) (by rfl) (fun w' ⟨s0, s1, s2, s3, s4⟩ => ?_) ?_ ?_ ?_;rotate_left;go_simp;with_reducible rfl;rotate_left;simp only [P_,A_,B_,C_,i64_w,i32_w];rfl
            refine one_ (i := 5) (N := some 69) #[T_,T_,T_,T_,T_,T_,F_,F_,F_,F_,F_,F_,F_,F_,F_,F_,F_,F_,F_,F_,F_,F_] rfl rfl (one_of HT_.out (by kernel_rfl)) (by decide) (fun K hK => ?_)
            refine goes_ Tryd.func20 (by kernel_rfl) rfl #[.string (rdOf ByteArray.empty x11_12 x12_2)] (by rfl) rfl rfl (by (try simp only [List.map_toArray, List.map_cons, List.map_nil]); first | done | rfl | (simp only [List.length_drop, List.length_take]; rfl)) ?_
            with_reducible refine (wireloomref02_ParseIn.calls k2 (rdOf ByteArray.empty x11_12 x12_2) t445 t446 t447 _ A48.out).mono ?_
            rintro e w54 ⟨rfl, hb⟩
            have HS3_ := (hb.cell (World.block_lt_of_cell? _ _ (hHeld.2.2.2.1))).trans (hHeld.2.2.2.1)
            have HS4_ := (hb.cell (World.block_lt_of_cell? _ _ (hHeld.2.2.2.2))).trans (hHeld.2.2.2.2)
            refine ⟨_, rfl, ?_⟩
            replace HO_11 := Aside0.mk (Kd.R_below (by (with_reducible repeat (first | apply Kd.R_alloc | apply Kd.R_drewN | apply Kd.R_drew)); exact HO_11.out) hb)
            replace BK418 := Aside0.mk (blk_below (g := gb418) (o := .cells #[.int .i64 a0_0, .int .i64 a0_1] 22 (0, 0)) (by (with_reducible repeat (first | refine blk_drewN ?_ _ | refine blk_drew ?_ | refine blk_alloc ?_ _)); exact BK418.out) hb)
            replace BK419 := Aside0.mk (blk_below (g := gb419) (o := .cells #[.int .u8 a1_0, .int .u8 a1_1, .int .u8 a1_2] 35 (0, 0)) (by (with_reducible repeat (first | refine blk_drewN ?_ _ | refine blk_drew ?_ | refine blk_alloc ?_ _)); exact BK419.out) hb)
            replace BK423 := Aside0.mk (blk_below (g := gb423) (o := .cells #[.int .i64 t421, .int .i64 t422] 25 (0, 0)) (by (with_reducible repeat (first | refine blk_drewN ?_ _ | refine blk_drew ?_ | refine blk_alloc ?_ _)); exact BK423.out) hb)
            replace BK443 := Aside0.mk (blk_below (g := gb443) (o := .cells #[.int .i64 t440, .int .i64 t441, .int .i64 t442] 31 (0, 0)) (by (with_reducible repeat (first | refine blk_drewN ?_ _ | refine blk_drew ?_ | refine blk_alloc ?_ _)); exact BK443.out) hb)
            replace HB := Aside0.mk (below_step (by repeat (first | (with_reducible first | exact HB.out | apply below_alloc | apply pw_below_drewN | apply below_drew1 | refine below_set ?_ GE418.out | refine below_set ?_ GE419.out | refine below_set ?_ GE423.out | refine below_set ?_ GE443.out) | exact HB.out)) hb)
            (try clear hb)
            (try clear A48)
            refine hK.out _ _ ⟨(blk_cell BK443.out 0).trans rfl, (blk_cell BK443.out 1).trans rfl, (blk_cell BK443.out 2).trans rfl, HS3_, HS4_⟩ (fun hHeld => ?_)
            clear hK K
            refine norm_ (a' := ?_) ?_ ?_
            rotate_left
            ·show Act.put _ (some 69) _ = _
             simp only [Act.put, List.setIfInBounds_toArray, List.set_cons_zero, List.set_cons_succ, i64_w, i32_w]
             rfl
            refine pz_ 6 70 22 127 HT_ rfl rfl (by kernel_rfl) ?_ (fun _ _ _ h => h) (by rfl) (fun w' => ?_) ?_ ?_ ?_;rotate_left;go_simp;with_reducible rfl;rotate_left;simp only [P_,A_,B_,C_,i64_w,i32_w];rfl
            refine pz_ 7 71 22 255 HT_ rfl rfl (by kernel_rfl) ?_ (fun _ _ _ h => h) (by rfl) (fun w' => ?_) ?_ ?_ ?_;rotate_left;go_simp;with_reducible rfl;rotate_left;simp only [P_,A_,B_,C_,i64_w,i32_w];rfl
            refine pz_ 8 72 22 511 HT_ rfl rfl (by kernel_rfl) ?_ (fun _ _ _ h => h) (by rfl) (fun w' => ?_) ?_ ?_ ?_;rotate_left;go_simp;with_reducible rfl;rotate_left;simp only [P_,A_,B_,C_,i64_w,i32_w];rfl
            refine tz_ 9 73 22 1023 HT_ HW_ rfl rfl (by kernel_rfl) hHeld ?_ (fun _ _ _ h => h) (by rfl) (fun w' ⟨s0, s1, s2, s3, s4⟩ => ?_) ?_ ?_ ?_;rotate_left;go_simp;with_reducible rfl;rotate_left;simp only [P_,A_,B_,C_,i64_w,i32_w];rfl
            refine pz_ 10 74 22 2047 HT_ rfl rfl (by kernel_rfl) ?_ (fun _ _ _ h => h) (by rfl) (fun w' => ?_) ?_ ?_ ?_;rotate_left;go_simp;with_reducible rfl;rotate_left;simp only [P_,A_,B_,C_,i64_w,i32_w];rfl
            refine pz_ 11 75 22 4095 HT_ rfl rfl (by kernel_rfl) ?_ (fun _ _ _ h => h) (by rfl) (fun w' => ?_) ?_ ?_ ?_;rotate_left;go_simp;with_reducible rfl;rotate_left;simp only [P_,A_,B_,C_,i64_w,i32_w];rfl
            refine pz_ 12 76 22 8191 HT_ rfl rfl (by kernel_rfl) ?_ (fun _ _ _ h => h) (by rfl) (fun w' => ?_) ?_ ?_ ?_;rotate_left;go_simp;with_reducible rfl;rotate_left;simp only [P_,A_,B_,C_,i64_w,i32_w];rfl
            refine pz_ 15 79 22 40959 HT_ rfl rfl (by kernel_rfl) ?_ (fun _ _ _ h => h) (by rfl) (fun w' => ?_) ?_ ?_ ?_;rotate_left;go_simp;with_reducible rfl;rotate_left;simp only [P_,A_,B_,C_,i64_w,i32_w];rfl
            refine pz_ 16 80 22 106495 HT_ rfl rfl (by kernel_rfl) ?_ (fun _ _ _ h => h) (by rfl) (fun w' => ?_) ?_ ?_ ?_;rotate_left;go_simp;with_reducible rfl;rotate_left;simp only [P_,A_,B_,C_,i64_w,i32_w];rfl
            refine pz_ 17 81 22 237567 HT_ rfl rfl (by kernel_rfl) ?_ (fun _ _ _ h => h) (by rfl) (fun w' => ?_) ?_ ?_ ?_;rotate_left;go_simp;with_reducible rfl;rotate_left;simp only [P_,A_,B_,C_,i64_w,i32_w];rfl
            refine tz_ 13 77 22 245759 HT_ HW_ rfl rfl (by kernel_rfl) hHeld ?_ (fun _ _ _ h => h) (by rfl) (fun w' ⟨s0, s1, s2, s3, s4⟩ => ?_) ?_ ?_ ?_;rotate_left;go_simp;with_reducible rfl;rotate_left;simp only [P_,A_,B_,C_,i64_w,i32_w];rfl
            refine tz_ 18 82 22 507903 HT_ HW_ rfl rfl (by kernel_rfl) hHeld ?_ (fun _ _ _ h => h) (by rfl) (fun w' ⟨s0, s1, s2, s3, s4⟩ => ?_) ?_ ?_ ?_;rotate_left;go_simp;with_reducible rfl;rotate_left;simp only [P_,A_,B_,C_,i64_w,i32_w];rfl
            refine one_ (i := 14) (N := some 78) #[T_,T_,T_,T_,T_,T_,T_,T_,T_,T_,T_,T_,T_,T_,T_,T_,T_,T_,T_,F_,F_,F_] rfl rfl (one_of HT_.out (by kernel_rfl)) (by decide) (fun K hK => ?_)
            refine goes_ Tryd.func17 (by kernel_rfl) rfl #[.agg #[.int .i64 t440, .int .i64 t441]] (by rfl) rfl rfl (by (try simp only [List.map_toArray, List.map_cons, List.map_nil]); first | done | rfl | (simp only [List.length_drop, List.length_take]; rfl)) ?_
            with_reducible refine (fraction_Text.calls t440 t441 t448 _ ?side1 A51.out).mono ?_
            (case side1 => exact GL.below hGL (by repeat (first | (with_reducible first | exact HB.out | apply below_alloc | apply pw_below_drewN | apply below_drew1 | refine below_set ?_ GE418.out | refine below_set ?_ GE419.out | refine below_set ?_ GE423.out | refine below_set ?_ GE443.out) | exact HB.out)))
            rintro e w55 ⟨rfl, hb⟩
            have HS3_ := (hb.cell (World.block_lt_of_cell? _ _ (hHeld.2.2.2.1))).trans (hHeld.2.2.2.1)
            have HS4_ := (hb.cell (World.block_lt_of_cell? _ _ (hHeld.2.2.2.2))).trans (hHeld.2.2.2.2)
            refine ⟨_, rfl, ?_⟩
            replace HO_11 := Aside0.mk (Kd.R_below (by (with_reducible repeat (first | apply Kd.R_alloc | apply Kd.R_drewN | apply Kd.R_drew)); exact HO_11.out) hb)
            replace BK418 := Aside0.mk (blk_below (g := gb418) (o := .cells #[.int .i64 a0_0, .int .i64 a0_1] 22 (0, 0)) (by (with_reducible repeat (first | refine blk_drewN ?_ _ | refine blk_drew ?_ | refine blk_alloc ?_ _)); exact BK418.out) hb)
            replace BK419 := Aside0.mk (blk_below (g := gb419) (o := .cells #[.int .u8 a1_0, .int .u8 a1_1, .int .u8 a1_2] 35 (0, 0)) (by (with_reducible repeat (first | refine blk_drewN ?_ _ | refine blk_drew ?_ | refine blk_alloc ?_ _)); exact BK419.out) hb)
            replace BK423 := Aside0.mk (blk_below (g := gb423) (o := .cells #[.int .i64 t421, .int .i64 t422] 25 (0, 0)) (by (with_reducible repeat (first | refine blk_drewN ?_ _ | refine blk_drew ?_ | refine blk_alloc ?_ _)); exact BK423.out) hb)
            replace BK443 := Aside0.mk (blk_below (g := gb443) (o := .cells #[.int .i64 t440, .int .i64 t441, .int .i64 t442] 31 (0, 0)) (by (with_reducible repeat (first | refine blk_drewN ?_ _ | refine blk_drew ?_ | refine blk_alloc ?_ _)); exact BK443.out) hb)
            replace HB := Aside0.mk (below_step (by repeat (first | (with_reducible first | exact HB.out | apply below_alloc | apply pw_below_drewN | apply below_drew1 | refine below_set ?_ GE418.out | refine below_set ?_ GE419.out | refine below_set ?_ GE423.out | refine below_set ?_ GE443.out) | exact HB.out)) hb)
            (try clear hb)
            (try clear A51)
            refine hK.out _ _ ⟨(blk_cell BK443.out 0).trans rfl, (blk_cell BK443.out 1).trans rfl, (blk_cell BK443.out 2).trans rfl, HS3_, HS4_⟩ (fun hHeld => ?_)
            clear hK K
            refine norm_ (a' := ?_) ?_ ?_
            rotate_left
            ·show Act.put _ (some 78) _ = _
             simp only [Act.put, List.setIfInBounds_toArray, List.set_cons_zero, List.set_cons_succ, i64_w, i32_w]
             rfl
            refine pz_ 19 83 22 1048575 HT_ rfl rfl (by kernel_rfl) ?_ (fun _ _ _ h => h) (by rfl) (fun w' => ?_) ?_ ?_ ?_;rotate_left;go_simp;with_reducible rfl;rotate_left;simp only [P_,A_,B_,C_,i64_w,i32_w];rfl
            refine pz_ 20 84 22 2097151 HT_ rfl rfl (by kernel_rfl) ?_ (fun _ _ _ h => h) (by rfl) (fun w' => ?_) ?_ ?_ ?_;rotate_left;go_simp;with_reducible rfl;rotate_left;simp only [P_,A_,B_,C_,i64_w,i32_w];rfl
            refine pz_ 21 85 22 4194303 HT_ rfl rfl (by kernel_rfl) ?_ (fun _ _ _ h => h) (by rfl) (fun w' => ?_) ?_ ?_ ?_;rotate_left;go_simp;with_reducible rfl;rotate_left;simp only [P_,A_,B_,C_,i64_w,i32_w];rfl
            refine done_ (done_of HT_.out (by kernel_rfl)) ?_
            try go_wp2
            go_meet
            case rel => exact ⟨_, ((t448.toList != (rdOf ByteArray.empty x11_12 x12_2).toList)), (by first | rfl | (simp; done) | (simp [*]; done)), H', ⟨by have := HJ12.out; have := HK2.out; first | omega | exact Nat.le_refl _⟩, ⟨by (with_reducible repeat (first | apply Kd.R_alloc | apply Kd.R_drewN | apply Kd.R_drew)); exact HO_11.out⟩, ⟨by (with_reducible repeat (first | refine blk_drewN ?_ _ | refine blk_drew ?_ | refine blk_alloc ?_ _)); exact BK418.out⟩, ⟨by (with_reducible repeat (first | refine blk_drewN ?_ _ | refine blk_drew ?_ | refine blk_alloc ?_ _)); exact BK419.out⟩, ⟨by (with_reducible repeat (first | refine blk_drewN ?_ _ | refine blk_drew ?_ | refine blk_alloc ?_ _)); exact BK423.out⟩, ⟨by (with_reducible repeat (first | refine blk_drewN ?_ _ | refine blk_drew ?_ | refine blk_alloc ?_ _)); exact BK443.out⟩, ⟨by repeat (first | (with_reducible first | exact HB.out | apply below_alloc | apply pw_below_drewN | apply below_drew1 | refine below_set ?_ GE418.out | refine below_set ?_ GE419.out | refine below_set ?_ GE423.out | refine below_set ?_ GE443.out) | exact HB.out)⟩⟩
           ·rw [if_neg c50] at H
            have c50b0 : (t442 == 0) = false := beq_eq_false_iff_ne.mpr c50
            have c50b1 : (t442 != 0) = true := bne_iff_ne.mpr c50
            have H' := Aside0.mk H
            clear H
            try go_wp2
            have n0_ : Aside0 (Kd.R Kd.string 9 (((w43.setCell ⟨gb443, 0, none⟩ (.int .i64 t440)).setCell ⟨gb443, 1, none⟩ (.int .i64 t441)).setCell ⟨gb443, 2, none⟩ (.int .i64 t442)) w.heap.size (fun _ => True) (.slice (some ad439) x11_12.length co41) x11_12) := ⟨by (with_reducible repeat (first | apply Kd.R_alloc | apply Kd.R_drewN | apply Kd.R_drew)); exact Kd.R_mono (Kd.R_far (p := ⟨gb443, 2, none⟩) (Kd.R_far (p := ⟨gb443, 1, none⟩) (Kd.R_far (p := ⟨gb443, 0, none⟩) (Kd.R_types HO_11.out BK443.out (by decide)) (fun _ hk => hk.2) (.int .i64 t440)) (fun _ hk => hk.2) (.int .i64 t441)) (fun _ hk => hk.2) (.int .i64 t442)) (fun _ hk => trivial)⟩
            have n1_ : Aside0 ((((w43.setCell ⟨gb443, 0, none⟩ (.int .i64 t440)).setCell ⟨gb443, 1, none⟩ (.int .i64 t441)).setCell ⟨gb443, 2, none⟩ (.int .i64 t442)).heap[gb418]? = some (.cells #[.int .i64 a0_0, .int .i64 a0_1] 22 (0, 0))) := ⟨by repeat first | (with_reducible first | refine blk_drewN ?_ _ | refine blk_drew ?_ | refine blk_alloc ?_ _) | refine blk_far ?_ NB418_443.out _ | exact BK418.out⟩
            have n2_ : Aside0 ((((w43.setCell ⟨gb443, 0, none⟩ (.int .i64 t440)).setCell ⟨gb443, 1, none⟩ (.int .i64 t441)).setCell ⟨gb443, 2, none⟩ (.int .i64 t442)).heap[gb419]? = some (.cells #[.int .u8 a1_0, .int .u8 a1_1, .int .u8 a1_2] 35 (0, 0))) := ⟨by repeat first | (with_reducible first | refine blk_drewN ?_ _ | refine blk_drew ?_ | refine blk_alloc ?_ _) | refine blk_far ?_ NB419_443.out _ | exact BK419.out⟩
            have n3_ : Aside0 ((((w43.setCell ⟨gb443, 0, none⟩ (.int .i64 t440)).setCell ⟨gb443, 1, none⟩ (.int .i64 t441)).setCell ⟨gb443, 2, none⟩ (.int .i64 t442)).heap[gb423]? = some (.cells #[.int .i64 t421, .int .i64 t422] 25 (0, 0))) := ⟨by repeat first | (with_reducible first | refine blk_drewN ?_ _ | refine blk_drew ?_ | refine blk_alloc ?_ _) | refine blk_far ?_ NB423_443.out _ | exact BK423.out⟩
            have n4_ : Aside0 ((((w43.setCell ⟨gb443, 0, none⟩ (.int .i64 t440)).setCell ⟨gb443, 1, none⟩ (.int .i64 t441)).setCell ⟨gb443, 2, none⟩ (.int .i64 t442)).heap[gb443]? = some (.cells #[.int .i64 t440, .int .i64 t441, .int .i64 t442] 31 (0, 0))) := ⟨by (with_reducible repeat (first | refine blk_drewN ?_ _ | refine blk_drew ?_ | refine blk_alloc ?_ _)); refine blk_put (cs := #[.int .i64 t440, .int .i64 t441, .int .i64 0]) ?_ 2 _ rfl; (with_reducible repeat (first | refine blk_drewN ?_ _ | refine blk_drew ?_ | refine blk_alloc ?_ _)); refine blk_put (cs := #[.int .i64 t440, .int .i64 0, .int .i64 0]) ?_ 1 _ rfl; (with_reducible repeat (first | refine blk_drewN ?_ _ | refine blk_drew ?_ | refine blk_alloc ?_ _)); refine blk_put (cs := #[.int .i64 0, .int .i64 0, .int .i64 0]) ?_ 0 _ rfl; (with_reducible repeat (first | refine blk_drewN ?_ _ | refine blk_drew ?_ | refine blk_alloc ?_ _)); exact BK443.out⟩
            have n5_ : Aside0 (Below w.heap.size w (((w43.setCell ⟨gb443, 0, none⟩ (.int .i64 t440)).setCell ⟨gb443, 1, none⟩ (.int .i64 t441)).setCell ⟨gb443, 2, none⟩ (.int .i64 t442))) := ⟨by repeat (first | (with_reducible first | exact HB.out | apply below_alloc | apply pw_below_drewN | apply below_drew1 | refine below_set ?_ GE418.out | refine below_set ?_ GE419.out | refine below_set ?_ GE423.out | refine below_set ?_ GE443.out) | exact HB.out)⟩
            (try clear HO_11)
            (try clear BK418)
            (try clear BK419)
            (try clear BK423)
            (try clear BK443)
            (try clear HB)
            generalize (((w43.setCell ⟨gb443, 0, none⟩ (.int .i64 t440)).setCell ⟨gb443, 1, none⟩ (.int .i64 t441)).setCell ⟨gb443, 2, none⟩ (.int .i64 t442)) = w56 at n0_ n1_ n2_ n3_ n4_ n5_ ⊢
            have HO_11 := n0_
            have BK418 := n1_
            have BK419 := n2_
            have BK423 := n3_
            have BK443 := n4_
            have HB := n5_
            clear n0_ n1_ n2_ n3_ n4_ n5_
            replace HO_11 := Aside0.mk (Kd.R_drew HO_11.out)
            replace BK418 := Aside0.mk (blk_drew BK418.out)
            replace BK419 := Aside0.mk (blk_drew BK419.out)
            replace BK423 := Aside0.mk (blk_drew BK423.out)
            replace BK443 := Aside0.mk (blk_drew BK443.out)
            replace HB := Aside0.mk (below_drew1 HB.out)
            have p444 : 0 ≤ (x12_2 : Int) := of_decide_eq_true (by first | (with_reducible assumption) | assumption)
            have q444 : x12_2 < (x11_12.length : Int) := of_decide_eq_true (by first | (with_reducible assumption) | assumption)
            obtain ⟨ad444, e444, hx444_0⟩ := Kd.at_string (Kd.R_reads' HO_11.out).2.2 x12_2 p444 q444
            obtain rfl : ad439 = ad444 := (by injection e444)
            replace p444 := eq_true p444
            replace q444 := eq_true q444
            refine start_ (n := 22) (S := fun w' => w'.cell? ⟨gb443, 0, none⟩ = some (.int .i64 t440) ∧ w'.cell? ⟨gb443, 1, none⟩ = some (.int .i64 t441) ∧ w'.cell? ⟨gb443, 2, none⟩ = some (.int .i64 t442) ∧ w'.cell? (ad439.add (x12_2).toNat) = some (.string (rdOf ByteArray.empty x11_12 x12_2))) (ds := []) #[F_,F_,F_,F_,F_,F_,F_,F_,F_,F_,F_,F_,F_,F_,F_,F_,F_,F_,F_,F_,F_,F_] (by kernel_rfl) rfl rfl ⟨(blk_cell BK443.out 0).trans rfl, (blk_cell BK443.out 1).trans rfl, (blk_cell BK443.out 2).trans rfl, hx444_0⟩ (fun hHeld => ?_); refine with_tabW wireloomlaw02_FractionTexts.tab16 wireloomlaw02_FractionTexts.bits16 (fun HT_ HW_ => ?_)
            generalize w56.drew = w57 at HO_11 BK418 BK419 BK423 BK443 HB hx444_0 hHeld ⊢
            refine pz_ 1 65 22 2 HT_ rfl rfl (by kernel_rfl) ?_ (fun _ _ _ h => h) (by rfl) (fun w' => ?_) ?_ ?_ ?_;rotate_left;go_simp;with_reducible rfl;rotate_left;simp only [P_,A_,B_,C_,i64_w,i32_w];rfl
            refine pz_ 2 66 22 6 HT_ rfl rfl (by kernel_rfl) ?_ (fun _ _ _ h => h) (by rfl) (fun w' => ?_) ?_ ?_ ?_;rotate_left;go_simp;with_reducible rfl;rotate_left;simp only [P_,A_,B_,C_,i64_w,i32_w];rfl
            refine pz_ 3 67 22 14 HT_ rfl rfl (by kernel_rfl) ?_ (fun _ _ _ h => h) (by rfl) (fun w' => ?_) ?_ ?_ ?_;rotate_left;go_simp;with_reducible rfl;rotate_left;simp only [P_,A_,B_,C_,i64_w,i32_w];rfl
            refine tz_ 0 64 22 15 HT_ HW_ rfl rfl (by kernel_rfl) hHeld ?_ (fun _ _ _ h => h) (by rfl) (fun w' ⟨s0, s1, s2, s3⟩ => ?_) ?_ ?_ ?_;rotate_left;go_simp;with_reducible rfl;rotate_left;simp only [P_,A_,B_,C_,i64_w,i32_w];rfl
            refine tz_ 4 68 22 31 HT_ HW_ rfl rfl (by kernel_rfl) hHeld ?_ (fun _ _ _ h => h) (by rfl) (fun w' ⟨s0, s1, s2, s3⟩ => ?_) ?_ ?_ ?_;rotate_left;go_simp;with_reducible rfl;rotate_left;simp only [P_,A_,B_,C_,i64_w,i32_w];rfl
            refine one_ (i := 5) (N := some 69) #[T_,T_,T_,T_,T_,T_,F_,F_,F_,F_,F_,F_,F_,F_,F_,F_,F_,F_,F_,F_,F_,F_] rfl rfl (one_of HT_.out (by kernel_rfl)) (by decide) (fun K hK => ?_)
            refine goes_ Tryd.func20 (by kernel_rfl) rfl #[.string (rdOf ByteArray.empty x11_12 x12_2)] (by rfl) rfl rfl (by (try simp only [List.map_toArray, List.map_cons, List.map_nil]); first | done | rfl | (simp only [List.length_drop, List.length_take]; rfl)) ?_
            with_reducible refine (wireloomref02_ParseIn.calls k2 (rdOf ByteArray.empty x11_12 x12_2) t445 t446 t447 _ A48.out).mono ?_
            rintro e w58 ⟨rfl, hb⟩
            have HS3_ := (hb.cell (World.block_lt_of_cell? _ _ (hHeld.2.2.2))).trans (hHeld.2.2.2)
            refine ⟨_, rfl, ?_⟩
            replace HO_11 := Aside0.mk (Kd.R_below (by (with_reducible repeat (first | apply Kd.R_alloc | apply Kd.R_drewN | apply Kd.R_drew)); exact HO_11.out) hb)
            replace BK418 := Aside0.mk (blk_below (g := gb418) (o := .cells #[.int .i64 a0_0, .int .i64 a0_1] 22 (0, 0)) (by (with_reducible repeat (first | refine blk_drewN ?_ _ | refine blk_drew ?_ | refine blk_alloc ?_ _)); exact BK418.out) hb)
            replace BK419 := Aside0.mk (blk_below (g := gb419) (o := .cells #[.int .u8 a1_0, .int .u8 a1_1, .int .u8 a1_2] 35 (0, 0)) (by (with_reducible repeat (first | refine blk_drewN ?_ _ | refine blk_drew ?_ | refine blk_alloc ?_ _)); exact BK419.out) hb)
            replace BK423 := Aside0.mk (blk_below (g := gb423) (o := .cells #[.int .i64 t421, .int .i64 t422] 25 (0, 0)) (by (with_reducible repeat (first | refine blk_drewN ?_ _ | refine blk_drew ?_ | refine blk_alloc ?_ _)); exact BK423.out) hb)
            replace BK443 := Aside0.mk (blk_below (g := gb443) (o := .cells #[.int .i64 t440, .int .i64 t441, .int .i64 t442] 31 (0, 0)) (by (with_reducible repeat (first | refine blk_drewN ?_ _ | refine blk_drew ?_ | refine blk_alloc ?_ _)); exact BK443.out) hb)
            replace HB := Aside0.mk (below_step (by repeat (first | (with_reducible first | exact HB.out | apply below_alloc | apply pw_below_drewN | apply below_drew1 | refine below_set ?_ GE418.out | refine below_set ?_ GE419.out | refine below_set ?_ GE423.out | refine below_set ?_ GE443.out) | exact HB.out)) hb)
            (try clear hb)
            (try clear A48)
            refine hK.out _ _ ⟨(blk_cell BK443.out 0).trans rfl, (blk_cell BK443.out 1).trans rfl, (blk_cell BK443.out 2).trans rfl, HS3_⟩ (fun hHeld => ?_)
            clear hK K
            refine norm_ (a' := ?_) ?_ ?_
            rotate_left
            ·show Act.put _ (some 69) _ = _
             simp only [Act.put, List.setIfInBounds_toArray, List.set_cons_zero, List.set_cons_succ, i64_w, i32_w]
             rfl
            refine pz_ 6 70 22 127 HT_ rfl rfl (by kernel_rfl) ?_ (fun _ _ _ h => h) (by rfl) (fun w' => ?_) ?_ ?_ ?_;rotate_left;go_simp;with_reducible rfl;rotate_left;simp only [P_,A_,B_,C_,i64_w,i32_w];rfl
            refine pz_ 7 71 22 255 HT_ rfl rfl (by kernel_rfl) ?_ (fun _ _ _ h => h) (by rfl) (fun w' => ?_) ?_ ?_ ?_;rotate_left;go_simp;with_reducible rfl;rotate_left;simp only [P_,A_,B_,C_,i64_w,i32_w];rfl
            refine pz_ 8 72 22 511 HT_ rfl rfl (by kernel_rfl) ?_ (fun _ _ _ h => h) (by rfl) (fun w' => ?_) ?_ ?_ ?_;rotate_left;go_simp;with_reducible rfl;rotate_left;simp only [P_,A_,B_,C_,i64_w,i32_w];rfl
            refine tz_ 9 73 22 1023 HT_ HW_ rfl rfl (by kernel_rfl) hHeld ?_ (fun _ _ _ h => h) (by rfl) (fun w' ⟨s0, s1, s2, s3⟩ => ?_) ?_ ?_ ?_;rotate_left;go_simp;with_reducible rfl;rotate_left;simp only [P_,A_,B_,C_,i64_w,i32_w];rfl
            refine pz_ 10 74 22 2047 HT_ rfl rfl (by kernel_rfl) ?_ (fun _ _ _ h => h) (by rfl) (fun w' => ?_) ?_ ?_ ?_;rotate_left;go_simp;with_reducible rfl;rotate_left;simp only [P_,A_,B_,C_,i64_w,i32_w];rfl
            refine pz_ 11 75 22 4095 HT_ rfl rfl (by kernel_rfl) ?_ (fun _ _ _ h => h) (by rfl) (fun w' => ?_) ?_ ?_ ?_;rotate_left;go_simp;with_reducible rfl;rotate_left;simp only [P_,A_,B_,C_,i64_w,i32_w];rfl
            refine pu_ 12 76 22 8191 HT_ rfl rfl (by kernel_rfl) (fun _ _ _ h => h) (by rfl) ?_ ?_ ?_;rotate_left;simp only [P_,A_,B_,C_,i64_w,i32_w];rfl
            refine pu_ 13 77 22 16383 HT_ rfl rfl (by kernel_rfl) (fun _ _ _ h => h) (by rfl) ?_ ?_ ?_;rotate_left;simp only [P_,A_,B_,C_,i64_w,i32_w];rfl
            refine pu_ 14 78 22 32767 HT_ rfl rfl (by kernel_rfl) (fun _ _ _ h => h) (by rfl) ?_ ?_ ?_;rotate_left;simp only [P_,A_,B_,C_,i64_w,i32_w];rfl
            refine pu_ 15 79 22 65535 HT_ rfl rfl (by kernel_rfl) (fun _ _ _ h => h) (by rfl) ?_ ?_ ?_;rotate_left;simp only [P_,A_,B_,C_,i64_w,i32_w];rfl
            refine pu_ 16 80 22 131071 HT_ rfl rfl (by kernel_rfl) (fun _ _ _ h => h) (by rfl) ?_ ?_ ?_;rotate_left;simp only [P_,A_,B_,C_,i64_w,i32_w];rfl
            refine pu_ 17 81 22 262143 HT_ rfl rfl (by kernel_rfl) (fun _ _ _ h => h) (by rfl) ?_ ?_ ?_;rotate_left;simp only [P_,A_,B_,C_,i64_w,i32_w];rfl
            refine pu_ 18 82 22 524287 HT_ rfl rfl (by kernel_rfl) (fun _ _ _ h => h) (by rfl) ?_ ?_ ?_;rotate_left;simp only [P_,A_,B_,C_,i64_w,i32_w];rfl
            refine pu_ 19 83 22 1048575 HT_ rfl rfl (by kernel_rfl) (fun _ _ _ h => h) (by rfl) ?_ ?_ ?_;rotate_left;simp only [P_,A_,B_,C_,i64_w,i32_w];rfl
            refine pz_ 20 84 22 2097151 HT_ rfl rfl (by kernel_rfl) ?_ (fun _ _ _ h => h) (by rfl) (fun w' => ?_) ?_ ?_ ?_;rotate_left;go_simp;with_reducible rfl;rotate_left;simp only [P_,A_,B_,C_,i64_w,i32_w];rfl
            refine pz_ 21 85 22 4194303 HT_ rfl rfl (by kernel_rfl) ?_ (fun _ _ _ h => h) (by rfl) (fun w' => ?_) ?_ ?_ ?_;rotate_left;go_simp;with_reducible rfl;rotate_left;simp only [P_,A_,B_,C_,i64_w,i32_w];rfl
            refine done_ (done_of HT_.out (by kernel_rfl)) ?_
            try go_wp2
            go_meet
            case rel => exact ⟨_, (false), (by first | rfl | (simp; done) | (simp [*]; done)), H', ⟨by have := HJ12.out; have := HK2.out; first | omega | exact Nat.le_refl _⟩, ⟨by (with_reducible repeat (first | apply Kd.R_alloc | apply Kd.R_drewN | apply Kd.R_drew)); exact HO_11.out⟩, ⟨by (with_reducible repeat (first | refine blk_drewN ?_ _ | refine blk_drew ?_ | refine blk_alloc ?_ _)); exact BK418.out⟩, ⟨by (with_reducible repeat (first | refine blk_drewN ?_ _ | refine blk_drew ?_ | refine blk_alloc ?_ _)); exact BK419.out⟩, ⟨by (with_reducible repeat (first | refine blk_drewN ?_ _ | refine blk_drew ?_ | refine blk_alloc ?_ _)); exact BK423.out⟩, ⟨by (with_reducible repeat (first | refine blk_drewN ?_ _ | refine blk_drew ?_ | refine blk_alloc ?_ _)); exact BK443.out⟩, ⟨by repeat (first | (with_reducible first | exact HB.out | apply below_alloc | apply pw_below_drewN | apply below_drew1 | refine below_set ?_ GE418.out | refine below_set ?_ GE419.out | refine below_set ?_ GE423.out | refine below_set ?_ GE443.out) | exact HB.out)⟩⟩
         case rest =>
          clear HC40
          try clear c1
          try clear c2
          try clear p2
          try clear c3
          try clear c4
          try clear p4
          try clear q4
          try clear hx4
          try clear c5
          try clear c17
          try clear c18
          try clear c20
          try clear c37
          try clear c37b0
          try clear c38
          try clear c38b0
          try clear p43
          try clear q43
          try clear hx43
          try clear c44
          try clear p44
          try clear q44
          try clear hx44
          try clear c45
          try clear c46
          try clear c49
          try clear c49b0
          try clear c50
          try clear c50b0
          try clear c50b1
          try clear hcz47_0
          try clear hcz47_1
          try clear hcz47_2
          try clear hfz18_1
          try clear hfz23_0
          try clear hfz23_1
          try clear hfz28_0
          try clear hfz28_1
          try clear hfz28_2
          try clear hfz30_0
          try clear hfz30_1
          try clear hfz30_2
          try clear hfz47_0
          try clear hfz47_1
          try clear hfz47_2
          try clear hx439_0
          try clear hx444_0
          try clear hx449_0
          try clear p2
          try clear p439
          try clear p444
          try clear p449
          try clear q439
          try clear q444
          try clear q449
          obtain ⟨kq, x85_39, rfl, HA, HJ39, HO_11, BK418, BK419, BK423, BK443, HB⟩ := hcut
          cases kq with
          | zero => exact absurd HA.out (by simp [wireloomlaw02_FractionTexts.j2])
          | succ kj39 =>
           have H := HA.out
           clear HA
           simp only [wireloomlaw02_FractionTexts.j2] at H
           by_cases c59 : x85_39 = true
           ·subst c59
            have H1 : (some false) = some true := by rw [if_pos rfl] at H; exact H
            clear H
            have H := H1
            clear H1
            exact absurd H (by decide)
           ·replace c59 := Bool.eq_false_iff.mpr c59
            subst c59
            have H1 : (wireloomlaw02_FractionTexts.l0 kj39 true x11_12 (wrap64 (x12_2 + 1))) = some true := by rw [if_neg (show ¬ (false = true) by decide)] at H; exact H
            clear H
            have H := H1
            clear H1
            have H' := Aside0.mk H
            clear H
            go_wp2
            go_roundg kj39
            case measure => have := HJ12.out; have := HK2.out; have := HJ39.out; omega
            case rel => exact ⟨(wrap64 (x12_2 + 1)), (by first | rfl | (simp; done) | (simp [*]; done)), H', ⟨by have := HJ12.out; have := HK2.out; have := HJ39.out; omega⟩, ⟨by (with_reducible repeat (first | apply Kd.R_alloc | apply Kd.R_drewN | apply Kd.R_drew)); exact HO_11.out⟩, ⟨by (with_reducible repeat (first | refine blk_drewN ?_ _ | refine blk_drew ?_ | refine blk_alloc ?_ _)); exact BK418.out⟩, ⟨by (with_reducible repeat (first | refine blk_drewN ?_ _ | refine blk_drew ?_ | refine blk_alloc ?_ _)); exact BK419.out⟩, ⟨by (with_reducible repeat (first | refine blk_drewN ?_ _ | refine blk_drew ?_ | refine blk_alloc ?_ _)); exact BK423.out⟩, ⟨by repeat (first | (with_reducible first | exact HB.out | apply below_alloc | apply pw_below_drewN | apply below_drew1 | refine below_set ?_ GE418.out | refine below_set ?_ GE419.out | refine below_set ?_ GE423.out | refine below_set ?_ GE443.out) | exact HB.out)⟩⟩
        ·rw [if_neg c38] at H
         exact absurd H (by simp)
       ·rw [if_neg c37] at H
        have c37b0 : decide (x12_2 < (x11_12.length : Int)) = false := decide_eq_false c37
        clear c37
        have Hr_ := Option.some.inj H
        (try subst Hr_)
        obtain ⟨Ao60, co60, eo60⟩ := Kd.R_slice HO_11.out
        subst eo60
        go_wp2
        go_ret
        exact ⟨by first | rfl | (simp [errW_none, errW_some] <;> rfl) | (simp [*, errW_none, errW_some] <;> rfl), by repeat (first | (with_reducible first | exact HB.out | apply below_alloc | apply pw_below_drewN | apply below_drew1 | refine below_set ?_ GE418.out | refine below_set ?_ GE419.out | refine below_set ?_ GE423.out) | exact HB.out)⟩
 ·replace c5 := Bool.eq_false_iff.mpr c5
  subst c5
  have H1 : (some false) = some true := by rw [if_neg (show ¬ (false = true) by decide)] at H; exact H
  clear H
  have H := H1
  clear H1
  exact absurd H (by decide)

/-- THE ONE PURE STATEMENT of wireloomlaw02_FractionTexts: yours. -/
def wireloomlaw02_FractionTexts.Pure : Prop := ∀ (a0_0 : Int) (a0_1 : Int) (a1_0 : Int) (a1_1 : Int) (a1_2 : Int) (a2 : ByteArray), (Lit.int .i64 a0_0).wf = true → (Lit.int .i64 a0_1).wf = true → (Lit.int .u8 a1_0).wf = true → (Lit.int .u8 a1_1).wf = true → (Lit.int .u8 a1_2).wf = true → a2.size ≤ 140737488351232 → ∃ k, wireloomlaw02_FractionTexts.f k a0_0 a0_1 a1_0 a1_1 a1_2 a2 = some true
theorem wireloomlaw02_FractionTexts.walk (P : wireloomlaw02_FractionTexts.Pure) (a0_0 : Int) (a0_1 : Int) (a1_0 : Int) (a1_1 : Int) (a1_2 : Int) (a2 : ByteArray) (w : World) (hGL : GL w) (w0_0 : (Lit.int .i64 a0_0).wf = true) (w0_1 : (Lit.int .i64 a0_1).wf = true) (w1_0 : (Lit.int .u8 a1_0).wf = true) (w1_1 : (Lit.int .u8 a1_1).wf = true) (w1_2 : (Lit.int .u8 a1_2).wf = true) (w2 : a2.size ≤ 140737488351232) :
  Calls Tryd.prog 4 #[.agg #[.int .i64 a0_0, .int .i64 a0_1], .agg #[.int .u8 a1_0, .int .u8 a1_1, .int .u8 a1_2], .string a2] w fun e w' => e = .returned (.bool true) ∧ Below w.heap.size w w' := by
 obtain ⟨k, h⟩ := P a0_0 a0_1 a1_0 a1_1 a1_2 a2 w0_0 w0_1 w1_0 w1_1 w1_2 w2
 refine (wireloomlaw02_FractionTexts.calls k a0_0 a0_1 a1_0 a1_1 a1_2 a2 w hGL h).mono ?_
 rintro e w' ⟨rfl, hd⟩
 exact ⟨rfl, hd⟩
end Go.Proofs.YtndfjpnpdnnpkaaDoor.F
