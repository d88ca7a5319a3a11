-- made by a program of this claim (wip/myprint.sh); Lean checks it
import Derived.Test.YtndfjpnpdnnpkaaDoorFx0
import Derived.Test.YtndfjpnpdnnpkaaDoorSt
import Derived.Test.YtndfjpnpdnnpkaaDoorFx1
import Derived.Test.YtndfjpnpdnnpkaaDoorFx2
import Derived.Test.YtndfjpnpdnnpkaaDoorFx5
import Derived.Test.YtndfjpnpdnnpkaaDoorFx6
import Derived.Test.YtndfjpnpdnnpkaaDoorFx7
import Derived.Test.YtndfjpnpdnnpkaaDoorFx8
import Derived.Test.YtndfjpnpdnnpkaaDoorFs
import Derived.Test.YtndfjpnpdnnpkaaDoorGiven
namespace Go.Proofs.YtndfjpnpdnnpkaaDoor.F
open Go.RowKit Go.Proofs.YtndfjpnpdnnpkaaDoorW.PrintWords Go.Proofs.YtndfjpnpdnnpkaaDoorW.PrintLast Go.Proofs.YtndfjpnpdnnpkaaDoorW.PrintMore
attribute [local go_sem] max2_int min2_int max_two min_two max_three min_three max_four min_four   -- for this text's walks alone
set_option linter.unusedVariables false
set_option linter.unusedSimpArgs false

attribute [local go_sem high] eqA25 eqA31
/-! ### wireloomlaw02_FractionCanonical: function 7 -/
mutual
def wireloomlaw02_FractionCanonical.l0 : Nat → Int → Bool → List (S31) → Int → Int → Int → Option (Bool)
 | 0, _, _, _, _, _, _ => none
 | k + 1, x2, x7, x10, x11, x628000, x628001 => if x11 < (x10.length : Int) then (if 0 ≤ x11 then ((fraction_Valid.f ((rd_T31 x10 x11).f0.f0) ((rd_T31 x10 x11).f0.f1)).bind fun t655 => (if (t655 != (((rd_T31 x10 x11).f1) == 0)) = true then (wireloomlaw02_FractionCanonical.j1 k x2 x7 x10 x11 true x628000 x628001) else (if ((rd_T31 x10 x11).f1) = 0 then (wireloomlaw02_FractionCanonical.j1 k x2 x7 x10 x11 false x628000 x628001) else (wireloomlaw02_FractionCanonical.j1 k x2 x7 x10 x11 (!(((rd_T31 x10 x11).f0.f0) == 0) || (!(((rd_T31 x10 x11).f0.f1) == 0))) x628000 x628001)))) else (none)) else (if (Int.tmod x628001 1073741824) = 0 then (wireloomlaw02_FractionCanonical.j2 k x2 x7 (Int.tmod x628000 1073741824) (Int.tmod x628001 1073741824) true) else (wireloomlaw02_FractionCanonical.j2 k x2 x7 (Int.tmod x628000 1073741824) (Int.tmod x628001 1073741824) (x2 == 0)))
def wireloomlaw02_FractionCanonical.j1 : Nat → Int → Bool → List (S31) → Int → Bool → Int → Int → Option (Bool)
 | 0, _, _, _, _, _, _, _ => none
 | k + 1, x2, x7, x10, x11, x82, x628000, x628001 => if x82 = true then (some false) else (wireloomlaw02_FractionCanonical.l0 k x2 x7 x10 (wrap64 (x11 + 1)) x628000 x628001)
def wireloomlaw02_FractionCanonical.j2 : Nat → Int → Bool → Int → Int → Bool → Option (Bool)
 | 0, _, _, _, _, _ => none
 | k + 1, x2, x7, x12, x13, x94 => if x94 = true then (some x7) else ((wireloomlaw02_created.f k x12 x13).bind fun bt659 => ((wireloomlaw02_created.f k (wrap64 (x12 * (wrap64 (x2)))) (wrap64 (x13 * (wrap64 (x2))))).bind fun bt663 => (if x7 = true then (if bt659.2.2 = 0 then (if ((bt659.1 == bt663.1 && (bt659.2.1 == bt663.2.1)) && (bt659.2.2 == bt663.2.2)) = true then (some ((wrap64 (bt659.1 * x13)) == (wrap64 (bt659.2.1 * x12)))) else (some false)) else (some false)) else (some false))))
end
def wireloomlaw02_FractionCanonical.f (k : Nat) (a0_0 : Int) (a0_1 : Int) (a1_0 : Int) (a1_1 : Int) (a2 : Int) : Option (Bool) := (wireloomlaw02_examples.f k).bind fun t629 => (if t629 = true then ((wireloomref02_Made.f k a0_0 a0_1).bind fun bt630 => ((wireloomref02_Made.f k a1_0 a1_1).bind fun bt633 => ((wireloomlaw02_add.f k bt630.1 bt630.2 bt633.1 bt633.2).bind fun bt636 => ((wireloomlaw02_sub.f k bt630.1 bt630.2 bt633.1 bt633.2).bind fun bt639 => ((wireloomlaw02_mul.f k bt630.1 bt630.2 bt633.1 bt633.2).bind fun bt642 => ((wireloomlaw02_div.f k bt630.1 bt630.2 bt633.1 bt633.2).bind fun bt645 => ((wireloomlaw02_created.f k a0_0 a1_0).bind fun bt648 => (wireloomlaw02_FractionCanonical.l0 k a2 t629 (([(⟨(⟨bt636.1, bt636.2.1⟩ : S25), bt636.2.2⟩ : S31), (⟨(⟨bt639.1, bt639.2.1⟩ : S25), bt639.2.2⟩ : S31), (⟨(⟨bt642.1, bt642.2.1⟩ : S25), bt642.2.2⟩ : S31), (⟨(⟨bt645.1, bt645.2.1⟩ : S25), bt645.2.2⟩ : S31), (⟨(⟨bt648.1, bt648.2.1⟩ : S25), bt648.2.2⟩ : S31)] : List (S31))) 0 a0_0 a0_1)))))))) else (some false))
theorem wireloomlaw02_FractionCanonical.mono_l : ∀ k, (∀ y0 y1 y2 y3 y4 y5, LeO (wireloomlaw02_FractionCanonical.l0 k y0 y1 y2 y3 y4 y5) (wireloomlaw02_FractionCanonical.l0 (k + 1) y0 y1 y2 y3 y4 y5)) ∧ (∀ y0 y1 y2 y3 y4 y5 y6, LeO (wireloomlaw02_FractionCanonical.j1 k y0 y1 y2 y3 y4 y5 y6) (wireloomlaw02_FractionCanonical.j1 (k + 1) y0 y1 y2 y3 y4 y5 y6)) ∧ (∀ y0 y1 y2 y3 y4, LeO (wireloomlaw02_FractionCanonical.j2 k y0 y1 y2 y3 y4) (wireloomlaw02_FractionCanonical.j2 (k + 1) y0 y1 y2 y3 y4))
 | 0 => ⟨fun _ _ _ _ _ _ r h => by simp [wireloomlaw02_FractionCanonical.l0] at h, fun _ _ _ _ _ _ _ r h => by simp [wireloomlaw02_FractionCanonical.j1] at h, fun _ _ _ _ _ r h => by simp [wireloomlaw02_FractionCanonical.j2] at h⟩
 | k + 1 => by
  obtain ⟨ih0, ih1, ih2⟩ := wireloomlaw02_FractionCanonical.mono_l k
  refine ⟨?_, ?_, ?_⟩
  ·intro y0 y1 y2 y3 y4 y5
   unfold wireloomlaw02_FractionCanonical.l0
   repeat' first
   | (with_reducible exact ih0 _ _ _ _ _ _)
   | (with_reducible exact ih1 _ _ _ _ _ _ _)
   | (with_reducible exact ih2 _ _ _ _ _)
   | (with_reducible exact wireloomlaw02_add.mono _ _ _ _ _)
   | (with_reducible exact wireloomlaw02_created.mono _ _ _)
   | (with_reducible exact wireloomlaw02_div.mono _ _ _ _ _)
   | (with_reducible exact wireloomlaw02_examples.mono _)
   | (with_reducible exact wireloomlaw02_mul.mono _ _ _ _ _)
   | (with_reducible exact wireloomlaw02_sub.mono _ _ _ _ _)
   | (with_reducible exact wireloomref02_Made.mono _ _ _)
   | (with_reducible exact LeO.refl _)
   | (with_reducible exact LeO.none _)
   | (with_reducible refine LeO.ite ?_ ?_)
   | (with_reducible refine LeO.bind ?_ (fun _ => ?_))
   | exact ih0 _ _ _ _ _ _
   | exact ih1 _ _ _ _ _ _ _
   | exact ih2 _ _ _ _ _
   | exact wireloomlaw02_add.mono _ _ _ _ _
   | exact wireloomlaw02_created.mono _ _ _
   | exact wireloomlaw02_div.mono _ _ _ _ _
   | exact wireloomlaw02_examples.mono _
   | exact wireloomlaw02_mul.mono _ _ _ _ _
   | exact wireloomlaw02_sub.mono _ _ _ _ _
   | exact wireloomref02_Made.mono _ _ _
   | exact LeO.none _
   | refine LeO.ite ?_ ?_
   | refine LeO.bind ?_ (fun _ => ?_)
  ·intro y0 y1 y2 y3 y4 y5 y6
   unfold wireloomlaw02_FractionCanonical.j1
   repeat' first
   | (with_reducible exact ih0 _ _ _ _ _ _)
   | (with_reducible exact ih1 _ _ _ _ _ _ _)
   | (with_reducible exact ih2 _ _ _ _ _)
   | (with_reducible exact wireloomlaw02_add.mono _ _ _ _ _)
   | (with_reducible exact wireloomlaw02_created.mono _ _ _)
   | (with_reducible exact wireloomlaw02_div.mono _ _ _ _ _)
   | (with_reducible exact wireloomlaw02_examples.mono _)
   | (with_reducible exact wireloomlaw02_mul.mono _ _ _ _ _)
   | (with_reducible exact wireloomlaw02_sub.mono _ _ _ _ _)
   | (with_reducible exact wireloomref02_Made.mono _ _ _)
   | (with_reducible exact LeO.refl _)
   | (with_reducible exact LeO.none _)
   | (with_reducible refine LeO.ite ?_ ?_)
   | (with_reducible refine LeO.bind ?_ (fun _ => ?_))
   | exact ih0 _ _ _ _ _ _
   | exact ih1 _ _ _ _ _ _ _
   | exact ih2 _ _ _ _ _
   | exact wireloomlaw02_add.mono _ _ _ _ _
   | exact wireloomlaw02_created.mono _ _ _
   | exact wireloomlaw02_div.mono _ _ _ _ _
   | exact wireloomlaw02_examples.mono _
   | exact wireloomlaw02_mul.mono _ _ _ _ _
   | exact wireloomlaw02_sub.mono _ _ _ _ _
   | exact wireloomref02_Made.mono _ _ _
   | exact LeO.none _
   | refine LeO.ite ?_ ?_
   | refine LeO.bind ?_ (fun _ => ?_)
  ·intro y0 y1 y2 y3 y4
   unfold wireloomlaw02_FractionCanonical.j2
   repeat' first
   | (with_reducible exact ih0 _ _ _ _ _ _)
   | (with_reducible exact ih1 _ _ _ _ _ _ _)
   | (with_reducible exact ih2 _ _ _ _ _)
   | (with_reducible exact wireloomlaw02_add.mono _ _ _ _ _)
   | (with_reducible exact wireloomlaw02_created.mono _ _ _)
   | (with_reducible exact wireloomlaw02_div.mono _ _ _ _ _)
   | (with_reducible exact wireloomlaw02_examples.mono _)
   | (with_reducible exact wireloomlaw02_mul.mono _ _ _ _ _)
   | (with_reducible exact wireloomlaw02_sub.mono _ _ _ _ _)
   | (with_reducible exact wireloomref02_Made.mono _ _ _)
   | (with_reducible exact LeO.refl _)
   | (with_reducible exact LeO.none _)
   | (with_reducible refine LeO.ite ?_ ?_)
   | (with_reducible refine LeO.bind ?_ (fun _ => ?_))
   | exact ih0 _ _ _ _ _ _
   | exact ih1 _ _ _ _ _ _ _
   | exact ih2 _ _ _ _ _
   | exact wireloomlaw02_add.mono _ _ _ _ _
   | exact wireloomlaw02_created.mono _ _ _
   | exact wireloomlaw02_div.mono _ _ _ _ _
   | exact wireloomlaw02_examples.mono _
   | exact wireloomlaw02_mul.mono _ _ _ _ _
   | exact wireloomlaw02_sub.mono _ _ _ _ _
   | exact wireloomref02_Made.mono _ _ _
   | exact LeO.none _
   | refine LeO.ite ?_ ?_
   | refine LeO.bind ?_ (fun _ => ?_)
theorem wireloomlaw02_FractionCanonical.mono : ∀ a0 a1 a2 a3 a4 k, LeO (wireloomlaw02_FractionCanonical.f k a0 a1 a2 a3 a4) (wireloomlaw02_FractionCanonical.f (k + 1) a0 a1 a2 a3 a4) := by
 intro a0 a1 a2 a3 a4 k
 obtain ⟨ih0, ih1, ih2⟩ := wireloomlaw02_FractionCanonical.mono_l k
 unfold wireloomlaw02_FractionCanonical.f
 repeat' first
   | (with_reducible exact ih0 _ _ _ _ _ _)
   | (with_reducible exact ih1 _ _ _ _ _ _ _)
   | (with_reducible exact ih2 _ _ _ _ _)
   | (with_reducible exact wireloomlaw02_add.mono _ _ _ _ _)
   | (with_reducible exact wireloomlaw02_created.mono _ _ _)
   | (with_reducible exact wireloomlaw02_div.mono _ _ _ _ _)
   | (with_reducible exact wireloomlaw02_examples.mono _)
   | (with_reducible exact wireloomlaw02_mul.mono _ _ _ _ _)
   | (with_reducible exact wireloomlaw02_sub.mono _ _ _ _ _)
   | (with_reducible exact wireloomref02_Made.mono _ _ _)
   | (with_reducible exact LeO.refl _)
   | (with_reducible exact LeO.none _)
   | (with_reducible refine LeO.ite ?_ ?_)
   | (with_reducible refine LeO.bind ?_ (fun _ => ?_))
   | exact ih0 _ _ _ _ _ _
   | exact ih1 _ _ _ _ _ _ _
   | exact ih2 _ _ _ _ _
   | exact wireloomlaw02_add.mono _ _ _ _ _
   | exact wireloomlaw02_created.mono _ _ _
   | exact wireloomlaw02_div.mono _ _ _ _ _
   | exact wireloomlaw02_examples.mono _
   | exact wireloomlaw02_mul.mono _ _ _ _ _
   | exact wireloomlaw02_sub.mono _ _ _ _ _
   | exact wireloomref02_Made.mono _ _ _
   | exact LeO.none _
   | refine LeO.ite ?_ ?_
   | refine LeO.bind ?_ (fun _ => ?_)
theorem wireloomlaw02_FractionCanonical.dead_j1_true (k : Nat) (x2 : Int) (x7 : Bool) (x10 : List (S31)) (x11 : Int) (x628000 : Int) (x628001 : Int) : ¬ wireloomlaw02_FractionCanonical.j1 k x2 x7 x10 x11 true x628000 x628001 = some true := by
 cases k with
 | zero => simp [wireloomlaw02_FractionCanonical.j1]
 | succ k => simp [wireloomlaw02_FractionCanonical.j1]
def wireloomlaw02_FractionCanonical.T6 : Bool × List (List Nat × List Nat) := (true, [([], []), ([], []), ([0, 1], [0, 1]), ([], []), ([], []), ([3, 4, 2], [3, 4]), ([], []), ([], []), ([6, 7, 5], [6, 7]), ([], []), ([], []), ([9, 10, 8], [9, 10]), ([], []), ([12], [12]), ([], []), ([14], [14]), ([13, 15, 11], [13, 15]), ([2, 5, 8, 11, 16], [2, 5, 8, 11, 16]), ([17, 16, 0, 1, 2, 3, 4, 5, 6, 7, 8, 9, 10, 11, 12, 13, 14, 15, 16, 17], [17])])
def wireloomlaw02_FractionCanonical.B6 : List Nat := [0, 0, 3, 0, 0, 31, 0, 0, 255, 0, 0, 2047, 0, 4096, 0, 16384, 65535, 131071, 262143]
theorem wireloomlaw02_FractionCanonical.tab6 : rtab .any (opsOf Tryd.f7 6) = wireloomlaw02_FractionCanonical.T6 := by kernel_rfl
theorem wireloomlaw02_FractionCanonical.bits6 : waitsOk wireloomlaw02_FractionCanonical.T6.2 wireloomlaw02_FractionCanonical.B6 = true := by kernel_rfl
def wireloomlaw02_FractionCanonical.T10 : Bool × List (List Nat × List Nat) := (true, [([], []), ([], []), ([0, 1], [0, 1]), ([2], [2]), ([3], [3]), ([4], [4]), ([], []), ([], []), ([6, 7], [6, 7]), ([8], [8]), ([9], [9]), ([10], [10]), ([5, 11], [5, 11]), ([12, 5], [12]), ([13], [13]), ([13], [13]), ([14, 15, 13], [13, 14, 15]), ([16, 13], [13, 16]), ([17, 13], [13, 17]), ([18, 13], [13, 18]), ([19, 13, 13], [13, 19]), ([20], [20]), ([20], [20]), ([21, 22, 20], [20, 21, 22]), ([23, 20], [20, 23]), ([24, 20], [20, 24]), ([20], [20]), ([25, 26, 20], [20, 25, 26]), ([20, 27, 13], [13, 20, 27]), ([13, 28], [13, 28])])
def wireloomlaw02_FractionCanonical.B10 : List Nat := [0, 0, 3, 7, 15, 31, 0, 0, 192, 448, 960, 1984, 4095, 8191, 16383, 16383, 65535, 131071, 262143, 524287, 1048575, 2097151, 2097151, 8388607, 16777215, 33554431, 2097151, 134217727, 268435455, 536870911]
theorem wireloomlaw02_FractionCanonical.tab10 : rtab .any (opsOf Tryd.f7 10) = wireloomlaw02_FractionCanonical.T10 := by kernel_rfl
theorem wireloomlaw02_FractionCanonical.bits10 : waitsOk wireloomlaw02_FractionCanonical.T10.2 wireloomlaw02_FractionCanonical.B10 = true := by kernel_rfl
set_option maxHeartbeats 8000000 in
set_option maxRecDepth 100000 in
theorem wireloomlaw02_FractionCanonical.calls (k : Nat) (a0_0 : Int) (a0_1 : Int) (a1_0 : Int) (a1_1 : Int) (a2 : Int) (w : World) (hGL : GL w) (h : wireloomlaw02_FractionCanonical.f k a0_0 a0_1 a1_0 a1_1 a2 = some true) :
  Calls Tryd.prog 7 #[.agg #[.int .i64 a0_0, .int .i64 a0_1], .agg #[.int .i64 a1_0, .int .i64 a1_1], .int .i32 a2] w fun e w' => e = .returned (.bool true) ∧ Below w.heap.size w w' := by
 have hu22 := Tryd.underlying22
 have hu25 := Tryd.underlying25
 have hu31 := Tryd.underlying31
 have HB := Aside0.mk (Below.refl w.heap.size w)
 have H : ((wireloomlaw02_examples.f k).bind fun t629 => (if t629 = true then ((wireloomref02_Made.f k a0_0 a0_1).bind fun bt630 => ((wireloomref02_Made.f k a1_0 a1_1).bind fun bt633 => ((wireloomlaw02_add.f k bt630.1 bt630.2 bt633.1 bt633.2).bind fun bt636 => ((wireloomlaw02_sub.f k bt630.1 bt630.2 bt633.1 bt633.2).bind fun bt639 => ((wireloomlaw02_mul.f k bt630.1 bt630.2 bt633.1 bt633.2).bind fun bt642 => ((wireloomlaw02_div.f k bt630.1 bt630.2 bt633.1 bt633.2).bind fun bt645 => ((wireloomlaw02_created.f k a0_0 a1_0).bind fun bt648 => (wireloomlaw02_FractionCanonical.l0 k a2 t629 (([(⟨(⟨bt636.1, bt636.2.1⟩ : S25), bt636.2.2⟩ : S31), (⟨(⟨bt639.1, bt639.2.1⟩ : S25), bt639.2.2⟩ : S31), (⟨(⟨bt642.1, bt642.2.1⟩ : S25), bt642.2.2⟩ : S31), (⟨(⟨bt645.1, bt645.2.1⟩ : S25), bt645.2.2⟩ : S31), (⟨(⟨bt648.1, bt648.2.1⟩ : S25), bt648.2.2⟩ : S31)] : List (S31))) 0 a0_0 a0_1)))))))) else (some false))) = some true := h
 clear h
 replace H := Option.bind_eq_some_iff.mp H
 obtain ⟨t629, A40, H⟩ := H
 replace H : (if t629 = true then ((wireloomref02_Made.f k a0_0 a0_1).bind fun bt630 => ((wireloomref02_Made.f k a1_0 a1_1).bind fun bt633 => ((wireloomlaw02_add.f k bt630.1 bt630.2 bt633.1 bt633.2).bind fun bt636 => ((wireloomlaw02_sub.f k bt630.1 bt630.2 bt633.1 bt633.2).bind fun bt639 => ((wireloomlaw02_mul.f k bt630.1 bt630.2 bt633.1 bt633.2).bind fun bt642 => ((wireloomlaw02_div.f k bt630.1 bt630.2 bt633.1 bt633.2).bind fun bt645 => ((wireloomlaw02_created.f k a0_0 a1_0).bind fun bt648 => (wireloomlaw02_FractionCanonical.l0 k a2 t629 (([(⟨(⟨bt636.1, bt636.2.1⟩ : S25), bt636.2.2⟩ : S31), (⟨(⟨bt639.1, bt639.2.1⟩ : S25), bt639.2.2⟩ : S31), (⟨(⟨bt642.1, bt642.2.1⟩ : S25), bt642.2.2⟩ : S31), (⟨(⟨bt645.1, bt645.2.1⟩ : S25), bt645.2.2⟩ : S31), (⟨(⟨bt648.1, bt648.2.1⟩ : S25), bt648.2.2⟩ : S31)] : List (S31))) 0 a0_0 a0_1)))))))) else (some false)) = some true := H
 have A4 := Aside0.mk A40
 clear A40
 by_cases c5 : t629 = true
 ·subst c5
  have H1 : ((wireloomref02_Made.f k a0_0 a0_1).bind fun bt630 => ((wireloomref02_Made.f k a1_0 a1_1).bind fun bt633 => ((wireloomlaw02_add.f k bt630.1 bt630.2 bt633.1 bt633.2).bind fun bt636 => ((wireloomlaw02_sub.f k bt630.1 bt630.2 bt633.1 bt633.2).bind fun bt639 => ((wireloomlaw02_mul.f k bt630.1 bt630.2 bt633.1 bt633.2).bind fun bt642 => ((wireloomlaw02_div.f k bt630.1 bt630.2 bt633.1 bt633.2).bind fun bt645 => ((wireloomlaw02_created.f k a0_0 a1_0).bind fun bt648 => (wireloomlaw02_FractionCanonical.l0 k a2 true (([(⟨(⟨bt636.1, bt636.2.1⟩ : S25), bt636.2.2⟩ : S31), (⟨(⟨bt639.1, bt639.2.1⟩ : S25), bt639.2.2⟩ : S31), (⟨(⟨bt642.1, bt642.2.1⟩ : S25), bt642.2.2⟩ : S31), (⟨(⟨bt645.1, bt645.2.1⟩ : S25), bt645.2.2⟩ : S31), (⟨(⟨bt648.1, bt648.2.1⟩ : S25), bt648.2.2⟩ : S31)] : List (S31))) 0 a0_0 a0_1)))))))) = some true := by rw [if_pos rfl] at H; exact H
  clear H
  have H := H1
  clear H1
  replace H := Option.bind_eq_some_iff.mp H
  obtain ⟨⟨t630, t631⟩, A60, H⟩ := H
  replace H : ((wireloomref02_Made.f k a1_0 a1_1).bind fun bt633 => ((wireloomlaw02_add.f k t630 t631 bt633.1 bt633.2).bind fun bt636 => ((wireloomlaw02_sub.f k t630 t631 bt633.1 bt633.2).bind fun bt639 => ((wireloomlaw02_mul.f k t630 t631 bt633.1 bt633.2).bind fun bt642 => ((wireloomlaw02_div.f k t630 t631 bt633.1 bt633.2).bind fun bt645 => ((wireloomlaw02_created.f k a0_0 a1_0).bind fun bt648 => (wireloomlaw02_FractionCanonical.l0 k a2 true (([(⟨(⟨bt636.1, bt636.2.1⟩ : S25), bt636.2.2⟩ : S31), (⟨(⟨bt639.1, bt639.2.1⟩ : S25), bt639.2.2⟩ : S31), (⟨(⟨bt642.1, bt642.2.1⟩ : S25), bt642.2.2⟩ : S31), (⟨(⟨bt645.1, bt645.2.1⟩ : S25), bt645.2.2⟩ : S31), (⟨(⟨bt648.1, bt648.2.1⟩ : S25), bt648.2.2⟩ : S31)] : List (S31))) 0 a0_0 a0_1))))))) = some true := H
  have A6 := Aside0.mk A60
  clear A60
  replace H := Option.bind_eq_some_iff.mp H
  obtain ⟨⟨t633, t634⟩, A70, H⟩ := H
  replace H : ((wireloomlaw02_add.f k t630 t631 t633 t634).bind fun bt636 => ((wireloomlaw02_sub.f k t630 t631 t633 t634).bind fun bt639 => ((wireloomlaw02_mul.f k t630 t631 t633 t634).bind fun bt642 => ((wireloomlaw02_div.f k t630 t631 t633 t634).bind fun bt645 => ((wireloomlaw02_created.f k a0_0 a1_0).bind fun bt648 => (wireloomlaw02_FractionCanonical.l0 k a2 true (([(⟨(⟨bt636.1, bt636.2.1⟩ : S25), bt636.2.2⟩ : S31), (⟨(⟨bt639.1, bt639.2.1⟩ : S25), bt639.2.2⟩ : S31), (⟨(⟨bt642.1, bt642.2.1⟩ : S25), bt642.2.2⟩ : S31), (⟨(⟨bt645.1, bt645.2.1⟩ : S25), bt645.2.2⟩ : S31), (⟨(⟨bt648.1, bt648.2.1⟩ : S25), bt648.2.2⟩ : S31)] : List (S31))) 0 a0_0 a0_1)))))) = some true := H
  have A7 := Aside0.mk A70
  clear A70
  replace H := Option.bind_eq_some_iff.mp H
  obtain ⟨⟨t636, t637, t638⟩, A80, H⟩ := H
  replace H : ((wireloomlaw02_sub.f k t630 t631 t633 t634).bind fun bt639 => ((wireloomlaw02_mul.f k t630 t631 t633 t634).bind fun bt642 => ((wireloomlaw02_div.f k t630 t631 t633 t634).bind fun bt645 => ((wireloomlaw02_created.f k a0_0 a1_0).bind fun bt648 => (wireloomlaw02_FractionCanonical.l0 k a2 true (([(⟨(⟨t636, t637⟩ : S25), t638⟩ : S31), (⟨(⟨bt639.1, bt639.2.1⟩ : S25), bt639.2.2⟩ : S31), (⟨(⟨bt642.1, bt642.2.1⟩ : S25), bt642.2.2⟩ : S31), (⟨(⟨bt645.1, bt645.2.1⟩ : S25), bt645.2.2⟩ : S31), (⟨(⟨bt648.1, bt648.2.1⟩ : S25), bt648.2.2⟩ : S31)] : List (S31))) 0 a0_0 a0_1))))) = some true := H
  have A8 := Aside0.mk A80
  clear A80
  replace H := Option.bind_eq_some_iff.mp H
  obtain ⟨⟨t639, t640, t641⟩, A90, H⟩ := H
  replace H : ((wireloomlaw02_mul.f k t630 t631 t633 t634).bind fun bt642 => ((wireloomlaw02_div.f k t630 t631 t633 t634).bind fun bt645 => ((wireloomlaw02_created.f k a0_0 a1_0).bind fun bt648 => (wireloomlaw02_FractionCanonical.l0 k a2 true (([(⟨(⟨t636, t637⟩ : S25), t638⟩ : S31), (⟨(⟨t639, t640⟩ : S25), t641⟩ : S31), (⟨(⟨bt642.1, bt642.2.1⟩ : S25), bt642.2.2⟩ : S31), (⟨(⟨bt645.1, bt645.2.1⟩ : S25), bt645.2.2⟩ : S31), (⟨(⟨bt648.1, bt648.2.1⟩ : S25), bt648.2.2⟩ : S31)] : List (S31))) 0 a0_0 a0_1)))) = some true := H
  have A9 := Aside0.mk A90
  clear A90
  replace H := Option.bind_eq_some_iff.mp H
  obtain ⟨⟨t642, t643, t644⟩, A100, H⟩ := H
  replace H : ((wireloomlaw02_div.f k t630 t631 t633 t634).bind fun bt645 => ((wireloomlaw02_created.f k a0_0 a1_0).bind fun bt648 => (wireloomlaw02_FractionCanonical.l0 k a2 true (([(⟨(⟨t636, t637⟩ : S25), t638⟩ : S31), (⟨(⟨t639, t640⟩ : S25), t641⟩ : S31), (⟨(⟨t642, t643⟩ : S25), t644⟩ : S31), (⟨(⟨bt645.1, bt645.2.1⟩ : S25), bt645.2.2⟩ : S31), (⟨(⟨bt648.1, bt648.2.1⟩ : S25), bt648.2.2⟩ : S31)] : List (S31))) 0 a0_0 a0_1))) = some true := H
  have A10 := Aside0.mk A100
  clear A100
  replace H := Option.bind_eq_some_iff.mp H
  obtain ⟨⟨t645, t646, t647⟩, A110, H⟩ := H
  replace H : ((wireloomlaw02_created.f k a0_0 a1_0).bind fun bt648 => (wireloomlaw02_FractionCanonical.l0 k a2 true (([(⟨(⟨t636, t637⟩ : S25), t638⟩ : S31), (⟨(⟨t639, t640⟩ : S25), t641⟩ : S31), (⟨(⟨t642, t643⟩ : S25), t644⟩ : S31), (⟨(⟨t645, t646⟩ : S25), t647⟩ : S31), (⟨(⟨bt648.1, bt648.2.1⟩ : S25), bt648.2.2⟩ : S31)] : List (S31))) 0 a0_0 a0_1)) = some true := H
  have A11 := Aside0.mk A110
  clear A110
  replace H := Option.bind_eq_some_iff.mp H
  obtain ⟨⟨t648, t649, t650⟩, A120, H⟩ := H
  replace H : (wireloomlaw02_FractionCanonical.l0 k a2 true (([(⟨(⟨t636, t637⟩ : S25), t638⟩ : S31), (⟨(⟨t639, t640⟩ : S25), t641⟩ : S31), (⟨(⟨t642, t643⟩ : S25), t644⟩ : S31), (⟨(⟨t645, t646⟩ : S25), t647⟩ : S31), (⟨(⟨t648, t649⟩ : S25), t650⟩ : S31)] : List (S31))) 0 a0_0 a0_1) = some true := H
  have A12 := Aside0.mk A120
  clear A120
  obtain ⟨y651, hy651⟩ : ∃ y_ : List (S31), y_ = (([(⟨(⟨t636, t637⟩ : S25), t638⟩ : S31), (⟨(⟨t639, t640⟩ : S25), t641⟩ : S31), (⟨(⟨t642, t643⟩ : S25), t644⟩ : S31), (⟨(⟨t645, t646⟩ : S25), t647⟩ : S31), (⟨(⟨t648, t649⟩ : S25), t650⟩ : S31)] : List (S31))) := ⟨_, rfl⟩
  replace H : (wireloomlaw02_FractionCanonical.l0 k a2 true y651 0 a0_0 a0_1) = some true := by first | (rw [hy651]; with_reducible exact H) | (have H2_ := (Option.bind_some _ _).symm.trans H; rw [hy651]; with_reducible exact H2_) | (have H2_ := (Option.bind_some _ _).symm.trans H; with_reducible exact H2_) | with_reducible exact H | (rw [hy651]; exact H) | exact H
  have Ny651 := Aside0.mk hy651
  clear hy651
  have H' := Aside0.mk H
  clear H
  go_enter Tryd.func7, Tryd.ntmps7
  try go_wp2_with (first | ((with_reducible refine gate_dst (N := 3) rfl ?_); refine box_event ?hg (N := 3) ?hd (cs := #[.int .i64 a0_0, .int .i64 a0_1]) (t := 22) ?hr ?_; (case hd => rfl); (case hg => rfl); (case hr => first | (go_simp; done) | (go_simp; rfl)); intro gb627 hg w13 hbox hb; have n0_ := Aside0.mk (below_step (by repeat (first | (with_reducible first | exact HB.out | apply below_alloc | apply pw_below_drewN | apply below_drew1) | exact HB.out)) hb); have n1_ := Aside0.mk (hbox); have n2_ := Aside0.mk ((by rw [hg]; exact (below_size (by repeat (first | (with_reducible first | exact HB.out | apply below_alloc | apply pw_below_drewN | apply below_drew1) | exact HB.out))) : w.heap.size ≤ gb627)); have n3_ := Aside0.mk ((by rw [hg]; exact (below_size (by repeat (first | (with_reducible first | exact HB.out | apply below_alloc | apply pw_below_drewN | apply below_drew1) | exact HB.out))) : w.heap.size ≤ gb627)); clear HB; have HB := n0_; have BK627 := n1_; have GW627 := n2_; have GE627 := n3_; clear n0_ n1_ n2_ n3_; clear hb hbox hg) | ((with_reducible refine gate_dst (N := 4) rfl ?_); refine box_event ?hg (N := 4) ?hd (cs := #[.int .i64 a1_0, .int .i64 a1_1]) (t := 22) ?hr ?_; (case hd => rfl); (case hg => rfl); (case hr => first | (go_simp; done) | (go_simp; rfl)); intro gb628 hg w14 hbox hb; have n0_ := Aside0.mk (blk_below (g := gb627) (o := .cells #[.int .i64 a0_0, .int .i64 a0_1] 22 (0, 0)) (by (with_reducible repeat (first | refine blk_drewN ?_ _ | refine blk_drew ?_ | refine blk_alloc ?_ _)); exact BK627.out) hb); have n1_ := Aside0.mk (below_step (by repeat (first | (with_reducible first | exact HB.out | apply below_alloc | apply pw_below_drewN | apply below_drew1 | refine below_set ?_ GE627.out) | exact HB.out)) hb); have n2_ := Aside0.mk (hbox); have n3_ := Aside0.mk ((by rw [hg]; exact (below_size (by repeat (first | (with_reducible first | exact HB.out | apply below_alloc | apply pw_below_drewN | apply below_drew1 | refine below_set ?_ GE627.out) | exact HB.out))) : w.heap.size ≤ gb628)); have n4_ := Aside0.mk ((by rw [hg]; exact (below_size (by repeat (first | (with_reducible first | exact HB.out | apply below_alloc | apply pw_below_drewN | apply below_drew1 | refine below_set ?_ GE627.out) | exact HB.out))) : w.heap.size ≤ gb628)); have n5_ := Aside0.mk ((by rw [hg]; exact Nat.ne_of_lt (blk_lt (g := gb627) (o := .cells #[.int .i64 a0_0, .int .i64 a0_1] 22 (0, 0)) (by (with_reducible repeat (first | refine blk_drewN ?_ _ | refine blk_drew ?_ | refine blk_alloc ?_ _)); exact BK627.out)) : gb627 ≠ gb628)); have n6_ := Aside0.mk ((by rw [hg]; exact Nat.ne_of_gt (blk_lt (g := gb627) (o := .cells #[.int .i64 a0_0, .int .i64 a0_1] 22 (0, 0)) (by (with_reducible repeat (first | refine blk_drewN ?_ _ | refine blk_drew ?_ | refine blk_alloc ?_ _)); exact BK627.out)) : gb628 ≠ gb627)); clear BK627; clear HB; have BK627 := n0_; have HB := n1_; have BK628 := n2_; have GW628 := n3_; have GE628 := n4_; have NB627_628 := n5_; have NB628_627 := n6_; clear n0_ n1_ n2_ n3_ n4_ n5_ n6_; clear hb hbox hg) | ((with_reducible refine gate_callee (f := 9) rfl ?_); refine goesL_ (some 16) rfl rfl Tryd.func9 (by kernel_rfl) rfl #[] rfl (by (try simp only [List.map_toArray, List.map_cons, List.map_nil]); first | done | rfl | (simp only [List.length_drop, List.length_take]; rfl)) ?_; (with_reducible refine (wireloomlaw02_examples.calls k  true _ ?side1 A4.out).mono ?_); (case side1 => exact GL.below hGL (by repeat (first | (with_reducible first | exact HB.out | apply below_alloc | apply pw_below_drewN | apply below_drew1 | refine below_set ?_ GE627.out | refine below_set ?_ GE628.out) | exact HB.out))); rintro e w15 ⟨rfl, hb⟩; refine ⟨_, rfl, ?_⟩; have n0_ := Aside0.mk (blk_below (g := gb627) (o := .cells #[.int .i64 a0_0, .int .i64 a0_1] 22 (0, 0)) (by (with_reducible repeat (first | refine blk_drewN ?_ _ | refine blk_drew ?_ | refine blk_alloc ?_ _)); exact BK627.out) hb); have n1_ := Aside0.mk (blk_below (g := gb628) (o := .cells #[.int .i64 a1_0, .int .i64 a1_1] 22 (0, 0)) (by (with_reducible repeat (first | refine blk_drewN ?_ _ | refine blk_drew ?_ | refine blk_alloc ?_ _)); exact BK628.out) hb); have n2_ := Aside0.mk (below_step (by repeat (first | (with_reducible first | exact HB.out | apply below_alloc | apply pw_below_drewN | apply below_drew1 | refine below_set ?_ GE627.out | refine below_set ?_ GE628.out) | exact HB.out)) hb); clear BK627; clear BK628; clear HB; have BK627 := n0_; have BK628 := n1_; have HB := n2_; clear n0_ n1_ n2_; (try clear hb); (try clear hb2); (try clear hk); (try clear hi); (try clear A4); have hnb16 := NB627_628.out; have hnc16 := NB628_627.out; have hcz17_0 : w15.cell? ⟨gb627, 0, none⟩ = some (.int .i64 a0_0) := (blk_cell BK627.out 0).trans rfl; have hcz17_1 : w15.cell? ⟨gb627, 1, none⟩ = some (.int .i64 a0_1) := (blk_cell BK627.out 1).trans rfl; have hfz17_0 := blk_frozen BK627.out 0; have hfz17_1 := blk_frozen BK627.out 1) | ((with_reducible refine gate_callee (f := 10) rfl ?_); refine goesL_ (some 23) rfl rfl Tryd.func10 (by kernel_rfl) rfl #[.int .i64 a0_0, .int .i64 a0_1] rfl (by (try simp only [List.map_toArray, List.map_cons, List.map_nil]); first | done | rfl | (simp only [List.length_drop, List.length_take]; rfl)) ?_; (with_reducible refine (wireloomref02_Made.calls k a0_0 a0_1 t630 t631 _ A6.out).mono ?_); rintro e w18 ⟨rfl, hb⟩; refine ⟨_, rfl, ?_⟩; have n0_ := Aside0.mk (blk_below (g := gb627) (o := .cells #[.int .i64 a0_0, .int .i64 a0_1] 22 (0, 0)) (by (with_reducible repeat (first | refine blk_drewN ?_ _ | refine blk_drew ?_ | refine blk_alloc ?_ _)); exact BK627.out) hb); have n1_ := Aside0.mk (blk_below (g := gb628) (o := .cells #[.int .i64 a1_0, .int .i64 a1_1] 22 (0, 0)) (by (with_reducible repeat (first | refine blk_drewN ?_ _ | refine blk_drew ?_ | refine blk_alloc ?_ _)); exact BK628.out) hb); have n2_ := Aside0.mk (below_step (by repeat (first | (with_reducible first | exact HB.out | apply below_alloc | apply pw_below_drewN | apply below_drew1 | refine below_set ?_ GE627.out | refine below_set ?_ GE628.out) | exact HB.out)) hb); clear BK627; clear BK628; clear HB; have BK627 := n0_; have BK628 := n1_; have HB := n2_; clear n0_ n1_ n2_; (try clear hb); (try clear hb2); (try clear hk); (try clear hi); (try clear A6)) | ((with_reducible refine gate_dst (N := 8) rfl ?_); refine box_event ?hg (N := 8) ?hd (cs := #[.int .i64 0, .int .i64 0]) (t := 25) ?hr ?_; (case hd => rfl); (case hg => rfl); (case hr => first | (go_simp; done) | (go_simp; rfl)); intro gb632 hg w19 hbox hb; have n0_ := Aside0.mk (blk_below (g := gb627) (o := .cells #[.int .i64 a0_0, .int .i64 a0_1] 22 (0, 0)) (by (with_reducible repeat (first | refine blk_drewN ?_ _ | refine blk_drew ?_ | refine blk_alloc ?_ _)); exact BK627.out) hb); have n1_ := Aside0.mk (blk_below (g := gb628) (o := .cells #[.int .i64 a1_0, .int .i64 a1_1] 22 (0, 0)) (by (with_reducible repeat (first | refine blk_drewN ?_ _ | refine blk_drew ?_ | refine blk_alloc ?_ _)); exact BK628.out) hb); have n2_ := Aside0.mk (below_step (by repeat (first | (with_reducible first | exact HB.out | apply below_alloc | apply pw_below_drewN | apply below_drew1 | refine below_set ?_ GE627.out | refine below_set ?_ GE628.out) | exact HB.out)) hb); have n3_ := Aside0.mk (hbox); have n4_ := Aside0.mk ((by rw [hg]; exact (below_size (by repeat (first | (with_reducible first | exact HB.out | apply below_alloc | apply pw_below_drewN | apply below_drew1 | refine below_set ?_ GE627.out | refine below_set ?_ GE628.out) | exact HB.out))) : w.heap.size ≤ gb632)); have n5_ := Aside0.mk ((by rw [hg]; exact (below_size (by repeat (first | (with_reducible first | exact HB.out | apply below_alloc | apply pw_below_drewN | apply below_drew1 | refine below_set ?_ GE627.out | refine below_set ?_ GE628.out) | exact HB.out))) : w.heap.size ≤ gb632)); have n6_ := Aside0.mk ((by rw [hg]; exact Nat.ne_of_lt (blk_lt (g := gb627) (o := .cells #[.int .i64 a0_0, .int .i64 a0_1] 22 (0, 0)) (by (with_reducible repeat (first | refine blk_drewN ?_ _ | refine blk_drew ?_ | refine blk_alloc ?_ _)); exact BK627.out)) : gb627 ≠ gb632)); have n7_ := Aside0.mk ((by rw [hg]; exact Nat.ne_of_gt (blk_lt (g := gb627) (o := .cells #[.int .i64 a0_0, .int .i64 a0_1] 22 (0, 0)) (by (with_reducible repeat (first | refine blk_drewN ?_ _ | refine blk_drew ?_ | refine blk_alloc ?_ _)); exact BK627.out)) : gb632 ≠ gb627)); have n8_ := Aside0.mk ((by rw [hg]; exact Nat.ne_of_lt (blk_lt (g := gb628) (o := .cells #[.int .i64 a1_0, .int .i64 a1_1] 22 (0, 0)) (by (with_reducible repeat (first | refine blk_drewN ?_ _ | refine blk_drew ?_ | refine blk_alloc ?_ _)); exact BK628.out)) : gb628 ≠ gb632)); have n9_ := Aside0.mk ((by rw [hg]; exact Nat.ne_of_gt (blk_lt (g := gb628) (o := .cells #[.int .i64 a1_0, .int .i64 a1_1] 22 (0, 0)) (by (with_reducible repeat (first | refine blk_drewN ?_ _ | refine blk_drew ?_ | refine blk_alloc ?_ _)); exact BK628.out)) : gb632 ≠ gb628)); clear BK627; clear BK628; clear HB; have BK627 := n0_; have BK628 := n1_; have HB := n2_; have BK632 := n3_; have GW632 := n4_; have GE632 := n5_; have NB627_632 := n6_; have NB632_627 := n7_; have NB628_632 := n8_; have NB632_628 := n9_; clear n0_ n1_ n2_ n3_ n4_ n5_ n6_ n7_ n8_ n9_; clear hb hbox hg; have hnb20 := NB632_627.out; have hnc20 := NB627_632.out; have hnb21 := NB632_628.out; have hnc21 := NB628_632.out; have hcz22_0 : w19.cell? ⟨gb632, 0, none⟩ = some (.int .i64 0) := (blk_cell BK632.out 0).trans rfl; have hcz22_1 : w19.cell? ⟨gb632, 1, none⟩ = some (.int .i64 0) := (blk_cell BK632.out 1).trans rfl; have hfz22_0 := blk_frozen BK632.out 0; have hfz22_1 := blk_frozen BK632.out 1; have hcz23_0 : w19.cell? ⟨gb628, 0, none⟩ = some (.int .i64 a1_0) := (blk_cell BK628.out 0).trans rfl; have hcz23_1 : w19.cell? ⟨gb628, 1, none⟩ = some (.int .i64 a1_1) := (blk_cell BK628.out 1).trans rfl; have hfz23_0 := blk_frozen BK628.out 0; have hfz23_1 := blk_frozen BK628.out 1) | ((with_reducible refine gate_callee (f := 10) rfl ?_); refine goesL_ (some 28) rfl rfl Tryd.func10 (by kernel_rfl) rfl #[.int .i64 a1_0, .int .i64 a1_1] rfl (by (try simp only [List.map_toArray, List.map_cons, List.map_nil]); first | done | rfl | (simp only [List.length_drop, List.length_take]; rfl)) ?_; (with_reducible refine (wireloomref02_Made.calls k a1_0 a1_1 t633 t634 _ A7.out).mono ?_); rintro e w24 ⟨rfl, hb⟩; refine ⟨_, rfl, ?_⟩; have n0_ := Aside0.mk (blk_below (g := gb627) (o := .cells #[.int .i64 a0_0, .int .i64 a0_1] 22 (0, 0)) (by repeat first | (with_reducible first | refine blk_drewN ?_ _ | refine blk_drew ?_ | refine blk_alloc ?_ _) | refine blk_far ?_ NB627_632.out _ | exact BK627.out) hb); have n1_ := Aside0.mk (blk_below (g := gb628) (o := .cells #[.int .i64 a1_0, .int .i64 a1_1] 22 (0, 0)) (by repeat first | (with_reducible first | refine blk_drewN ?_ _ | refine blk_drew ?_ | refine blk_alloc ?_ _) | refine blk_far ?_ NB628_632.out _ | exact BK628.out) hb); have n2_ := Aside0.mk (blk_below (g := gb632) (o := .cells #[.int .i64 t630, .int .i64 t631] 25 (0, 0)) (by (with_reducible repeat (first | refine blk_drewN ?_ _ | refine blk_drew ?_ | refine blk_alloc ?_ _)); refine blk_put (cs := #[.int .i64 t630, .int .i64 0]) ?_ 1 _ rfl; (with_reducible repeat (first | refine blk_drewN ?_ _ | refine blk_drew ?_ | refine blk_alloc ?_ _)); refine blk_put (cs := #[.int .i64 0, .int .i64 0]) ?_ 0 _ rfl; (with_reducible repeat (first | refine blk_drewN ?_ _ | refine blk_drew ?_ | refine blk_alloc ?_ _)); exact BK632.out) hb); have n3_ := Aside0.mk (below_step (by repeat (first | (with_reducible first | exact HB.out | apply below_alloc | apply pw_below_drewN | apply below_drew1 | refine below_set ?_ GE627.out | refine below_set ?_ GE628.out | refine below_set ?_ GE632.out) | exact HB.out)) hb); clear BK627; clear BK628; clear BK632; clear HB; have BK627 := n0_; have BK628 := n1_; have BK632 := n2_; have HB := n3_; clear n0_ n1_ n2_ n3_; (try clear hb); (try clear hb2); (try clear hk); (try clear hi); (try clear A7)) | ((with_reducible refine gate_dst (N := 9) rfl ?_); refine box_event ?hg (N := 9) ?hd (cs := #[.int .i64 0, .int .i64 0]) (t := 25) ?hr ?_; (case hd => rfl); (case hg => rfl); (case hr => first | (go_simp; done) | (go_simp; rfl)); intro gb635 hg w25 hbox hb; have n0_ := Aside0.mk (blk_below (g := gb627) (o := .cells #[.int .i64 a0_0, .int .i64 a0_1] 22 (0, 0)) (by (with_reducible repeat (first | refine blk_drewN ?_ _ | refine blk_drew ?_ | refine blk_alloc ?_ _)); exact BK627.out) hb); have n1_ := Aside0.mk (blk_below (g := gb628) (o := .cells #[.int .i64 a1_0, .int .i64 a1_1] 22 (0, 0)) (by (with_reducible repeat (first | refine blk_drewN ?_ _ | refine blk_drew ?_ | refine blk_alloc ?_ _)); exact BK628.out) hb); have n2_ := Aside0.mk (blk_below (g := gb632) (o := .cells #[.int .i64 t630, .int .i64 t631] 25 (0, 0)) (by (with_reducible repeat (first | refine blk_drewN ?_ _ | refine blk_drew ?_ | refine blk_alloc ?_ _)); exact BK632.out) hb); have n3_ := Aside0.mk (below_step (by repeat (first | (with_reducible first | exact HB.out | apply below_alloc | apply pw_below_drewN | apply below_drew1 | refine below_set ?_ GE627.out | refine below_set ?_ GE628.out | refine below_set ?_ GE632.out) | exact HB.out)) hb); have n4_ := Aside0.mk (hbox); have n5_ := Aside0.mk ((by rw [hg]; exact (below_size (by repeat (first | (with_reducible first | exact HB.out | apply below_alloc | apply pw_below_drewN | apply below_drew1 | refine below_set ?_ GE627.out | refine below_set ?_ GE628.out | refine below_set ?_ GE632.out) | exact HB.out))) : w.heap.size ≤ gb635)); have n6_ := Aside0.mk ((by rw [hg]; exact (below_size (by repeat (first | (with_reducible first | exact HB.out | apply below_alloc | apply pw_below_drewN | apply below_drew1 | refine below_set ?_ GE627.out | refine below_set ?_ GE628.out | refine below_set ?_ GE632.out) | exact HB.out))) : w.heap.size ≤ gb635)); have n7_ := Aside0.mk ((by rw [hg]; exact Nat.ne_of_lt (blk_lt (g := gb627) (o := .cells #[.int .i64 a0_0, .int .i64 a0_1] 22 (0, 0)) (by (with_reducible repeat (first | refine blk_drewN ?_ _ | refine blk_drew ?_ | refine blk_alloc ?_ _)); exact BK627.out)) : gb627 ≠ gb635)); have n8_ := Aside0.mk ((by rw [hg]; exact Nat.ne_of_gt (blk_lt (g := gb627) (o := .cells #[.int .i64 a0_0, .int .i64 a0_1] 22 (0, 0)) (by (with_reducible repeat (first | refine blk_drewN ?_ _ | refine blk_drew ?_ | refine blk_alloc ?_ _)); exact BK627.out)) : gb635 ≠ gb627)); have n9_ := Aside0.mk ((by rw [hg]; exact Nat.ne_of_lt (blk_lt (g := gb628) (o := .cells #[.int .i64 a1_0, .int .i64 a1_1] 22 (0, 0)) (by (with_reducible repeat (first | refine blk_drewN ?_ _ | refine blk_drew ?_ | refine blk_alloc ?_ _)); exact BK628.out)) : gb628 ≠ gb635)); have n10_ := Aside0.mk ((by rw [hg]; exact Nat.ne_of_gt (blk_lt (g := gb628) (o := .cells #[.int .i64 a1_0, .int .i64 a1_1] 22 (0, 0)) (by (with_reducible repeat (first | refine blk_drewN ?_ _ | refine blk_drew ?_ | refine blk_alloc ?_ _)); exact BK628.out)) : gb635 ≠ gb628)); have n11_ := Aside0.mk ((by rw [hg]; exact Nat.ne_of_lt (blk_lt (g := gb632) (o := .cells #[.int .i64 t630, .int .i64 t631] 25 (0, 0)) (by (with_reducible repeat (first | refine blk_drewN ?_ _ | refine blk_drew ?_ | refine blk_alloc ?_ _)); exact BK632.out)) : gb632 ≠ gb635)); have n12_ := Aside0.mk ((by rw [hg]; exact Nat.ne_of_gt (blk_lt (g := gb632) (o := .cells #[.int .i64 t630, .int .i64 t631] 25 (0, 0)) (by (with_reducible repeat (first | refine blk_drewN ?_ _ | refine blk_drew ?_ | refine blk_alloc ?_ _)); exact BK632.out)) : gb635 ≠ gb632)); clear BK627; clear BK628; clear BK632; clear HB; have BK627 := n0_; have BK628 := n1_; have BK632 := n2_; have HB := n3_; have BK635 := n4_; have GW635 := n5_; have GE635 := n6_; have NB627_635 := n7_; have NB635_627 := n8_; have NB628_635 := n9_; have NB635_628 := n10_; have NB632_635 := n11_; have NB635_632 := n12_; clear n0_ n1_ n2_ n3_ n4_ n5_ n6_ n7_ n8_ n9_ n10_ n11_ n12_; clear hb hbox hg; have hnb26 := NB635_627.out; have hnc26 := NB627_635.out; have hnb27 := NB635_628.out; have hnc27 := NB628_635.out; have hnb28 := NB635_632.out; have hnc28 := NB632_635.out; have hcz29_0 : w25.cell? ⟨gb635, 0, none⟩ = some (.int .i64 0) := (blk_cell BK635.out 0).trans rfl; have hcz29_1 : w25.cell? ⟨gb635, 1, none⟩ = some (.int .i64 0) := (blk_cell BK635.out 1).trans rfl; have hfz29_0 := blk_frozen BK635.out 0; have hfz29_1 := blk_frozen BK635.out 1))
  have n0_ : Aside0 (((w25.setCell ⟨gb635, 0, none⟩ (.int .i64 t633)).setCell ⟨gb635, 1, none⟩ (.int .i64 t634)).heap[gb627]? = some (.cells #[.int .i64 a0_0, .int .i64 a0_1] 22 (0, 0))) := ⟨by repeat first | (with_reducible first | refine blk_drewN ?_ _ | refine blk_drew ?_ | refine blk_alloc ?_ _) | refine blk_far ?_ NB627_635.out _ | exact BK627.out⟩
  have n1_ : Aside0 (((w25.setCell ⟨gb635, 0, none⟩ (.int .i64 t633)).setCell ⟨gb635, 1, none⟩ (.int .i64 t634)).heap[gb628]? = some (.cells #[.int .i64 a1_0, .int .i64 a1_1] 22 (0, 0))) := ⟨by repeat first | (with_reducible first | refine blk_drewN ?_ _ | refine blk_drew ?_ | refine blk_alloc ?_ _) | refine blk_far ?_ NB628_635.out _ | exact BK628.out⟩
  have n2_ : Aside0 (((w25.setCell ⟨gb635, 0, none⟩ (.int .i64 t633)).setCell ⟨gb635, 1, none⟩ (.int .i64 t634)).heap[gb632]? = some (.cells #[.int .i64 t630, .int .i64 t631] 25 (0, 0))) := ⟨by repeat first | (with_reducible first | refine blk_drewN ?_ _ | refine blk_drew ?_ | refine blk_alloc ?_ _) | refine blk_far ?_ NB632_635.out _ | exact BK632.out⟩
  have n3_ : Aside0 (((w25.setCell ⟨gb635, 0, none⟩ (.int .i64 t633)).setCell ⟨gb635, 1, none⟩ (.int .i64 t634)).heap[gb635]? = some (.cells #[.int .i64 t633, .int .i64 t634] 25 (0, 0))) := ⟨by (with_reducible repeat (first | refine blk_drewN ?_ _ | refine blk_drew ?_ | refine blk_alloc ?_ _)); refine blk_put (cs := #[.int .i64 t633, .int .i64 0]) ?_ 1 _ rfl; (with_reducible repeat (first | refine blk_drewN ?_ _ | refine blk_drew ?_ | refine blk_alloc ?_ _)); refine blk_put (cs := #[.int .i64 0, .int .i64 0]) ?_ 0 _ rfl; (with_reducible repeat (first | refine blk_drewN ?_ _ | refine blk_drew ?_ | refine blk_alloc ?_ _)); exact BK635.out⟩
  have n4_ : Aside0 (Below w.heap.size w ((w25.setCell ⟨gb635, 0, none⟩ (.int .i64 t633)).setCell ⟨gb635, 1, none⟩ (.int .i64 t634))) := ⟨by repeat (first | (with_reducible first | exact HB.out | apply below_alloc | apply pw_below_drewN | apply below_drew1 | refine below_set ?_ GE627.out | refine below_set ?_ GE628.out | refine below_set ?_ GE632.out | refine below_set ?_ GE635.out) | exact HB.out)⟩
  (try clear BK627)
  (try clear BK628)
  (try clear BK632)
  (try clear BK635)
  (try clear HB)
  generalize ((w25.setCell ⟨gb635, 0, none⟩ (.int .i64 t633)).setCell ⟨gb635, 1, none⟩ (.int .i64 t634)) = w30 at n0_ n1_ n2_ n3_ n4_ ⊢
  have BK627 := n0_
  have BK628 := n1_
  have BK632 := n2_
  have BK635 := n3_
  have HB := n4_
  clear n0_ n1_ n2_ n3_ n4_
  have n0_ := Aside0.mk (blk_drew BK627.out)
  have n1_ := Aside0.mk (blk_drew BK628.out)
  have n2_ := Aside0.mk (blk_drew BK632.out)
  have n3_ := Aside0.mk (blk_drew BK635.out)
  have n4_ := Aside0.mk (below_drew1 HB.out)
  clear BK627
  clear BK628
  clear BK632
  clear BK635
  clear HB
  have BK627 := n0_
  have BK628 := n1_
  have BK632 := n2_
  have BK635 := n3_
  have HB := n4_
  clear n0_ n1_ n2_ n3_ n4_
  refine start_ (n := 19) (S := fun w' => w'.cell? ⟨gb632, 0, none⟩ = some (.int .i64 t630) ∧ w'.cell? ⟨gb632, 1, none⟩ = some (.int .i64 t631) ∧ w'.cell? ⟨gb635, 0, none⟩ = some (.int .i64 t633) ∧ w'.cell? ⟨gb635, 1, none⟩ = some (.int .i64 t634) ∧ w'.cell? ⟨gb627, 0, none⟩ = some (.int .i64 a0_0) ∧ w'.cell? ⟨gb627, 1, none⟩ = some (.int .i64 a0_1) ∧ w'.cell? ⟨gb628, 0, none⟩ = some (.int .i64 a1_0) ∧ w'.cell? ⟨gb628, 1, none⟩ = some (.int .i64 a1_1)) (ds := []) #[F_,F_,F_,F_,F_,F_,F_,F_,F_,F_,F_,F_,F_,F_,F_,F_,F_,F_,F_] (by kernel_rfl) rfl rfl ⟨(blk_cell BK632.out 0).trans rfl, (blk_cell BK632.out 1).trans rfl, (blk_cell BK635.out 0).trans rfl, (blk_cell BK635.out 1).trans rfl, (blk_cell BK627.out 0).trans rfl, (blk_cell BK627.out 1).trans rfl, (blk_cell BK628.out 0).trans rfl, (blk_cell BK628.out 1).trans rfl⟩ (fun hHeld => ?_); refine with_tabW wireloomlaw02_FractionCanonical.tab6 wireloomlaw02_FractionCanonical.bits6 (fun HT_ HW_ => ?_)
  generalize w30.drew = w31 at BK627 BK628 BK632 BK635 HB hHeld ⊢
  refine pz_ 12 41 19 4096 HT_ rfl rfl (by kernel_rfl) ?_ (fun _ _ _ h => h) (by rfl) (fun w' => ?_) ?_ ?_ ?_;rotate_left;go_simp;with_reducible rfl;rotate_left;simp only [P_,A_,B_,C_,i64_w,i32_w];rfl
  refine pz_ 14 43 19 20480 HT_ rfl rfl (by kernel_rfl) ?_ (fun _ _ _ h => h) (by rfl) (fun w' => ?_) ?_ ?_ ?_;rotate_left;go_simp;with_reducible rfl;rotate_left;simp only [P_,A_,B_,C_,i64_w,i32_w];rfl
  refine tz_ 0 29 19 20481 HT_ HW_ rfl rfl (by kernel_rfl) hHeld ?_ (fun _ _ _ h => h) (by rfl) (fun w' ⟨s0, s1, s2, s3, s4, s5, s6, s7⟩ => ?_) ?_ ?_ ?_;rotate_left;go_simp;with_reducible rfl;rotate_left;simp only [P_,A_,B_,C_,i64_w,i32_w];rfl
  refine tz_ 1 30 19 20483 HT_ HW_ rfl rfl (by kernel_rfl) hHeld ?_ (fun _ _ _ h => h) (by rfl) (fun w' ⟨s0, s1, s2, s3, s4, s5, s6, s7⟩ => ?_) ?_ ?_ ?_;rotate_left;go_simp;with_reducible rfl;rotate_left;simp only [P_,A_,B_,C_,i64_w,i32_w];rfl
  refine tz_ 3 32 19 20491 HT_ HW_ rfl rfl (by kernel_rfl) hHeld ?_ (fun _ _ _ h => h) (by rfl) (fun w' ⟨s0, s1, s2, s3, s4, s5, s6, s7⟩ => ?_) ?_ ?_ ?_;rotate_left;go_simp;with_reducible rfl;rotate_left;simp only [P_,A_,B_,C_,i64_w,i32_w];rfl
  refine tz_ 4 33 19 20507 HT_ HW_ rfl rfl (by kernel_rfl) hHeld ?_ (fun _ _ _ h => h) (by rfl) (fun w' ⟨s0, s1, s2, s3, s4, s5, s6, s7⟩ => ?_) ?_ ?_ ?_;rotate_left;go_simp;with_reducible rfl;rotate_left;simp only [P_,A_,B_,C_,i64_w,i32_w];rfl
  refine tz_ 6 35 19 20571 HT_ HW_ rfl rfl (by kernel_rfl) hHeld ?_ (fun _ _ _ h => h) (by rfl) (fun w' ⟨s0, s1, s2, s3, s4, s5, s6, s7⟩ => ?_) ?_ ?_ ?_;rotate_left;go_simp;with_reducible rfl;rotate_left;simp only [P_,A_,B_,C_,i64_w,i32_w];rfl
  refine tz_ 7 36 19 20699 HT_ HW_ rfl rfl (by kernel_rfl) hHeld ?_ (fun _ _ _ h => h) (by rfl) (fun w' ⟨s0, s1, s2, s3, s4, s5, s6, s7⟩ => ?_) ?_ ?_ ?_;rotate_left;go_simp;with_reducible rfl;rotate_left;simp only [P_,A_,B_,C_,i64_w,i32_w];rfl
  refine tz_ 9 38 19 21211 HT_ HW_ rfl rfl (by kernel_rfl) hHeld ?_ (fun _ _ _ h => h) (by rfl) (fun w' ⟨s0, s1, s2, s3, s4, s5, s6, s7⟩ => ?_) ?_ ?_ ?_;rotate_left;go_simp;with_reducible rfl;rotate_left;simp only [P_,A_,B_,C_,i64_w,i32_w];rfl
  refine tz_ 10 39 19 22235 HT_ HW_ rfl rfl (by kernel_rfl) hHeld ?_ (fun _ _ _ h => h) (by rfl) (fun w' ⟨s0, s1, s2, s3, s4, s5, s6, s7⟩ => ?_) ?_ ?_ ?_;rotate_left;go_simp;with_reducible rfl;rotate_left;simp only [P_,A_,B_,C_,i64_w,i32_w];rfl
  refine tz_ 13 42 19 30427 HT_ HW_ rfl rfl (by kernel_rfl) hHeld ?_ (fun _ _ _ h => h) (by rfl) (fun w' ⟨s0, s1, s2, s3, s4, s5, s6, s7⟩ => ?_) ?_ ?_ ?_;rotate_left;go_simp;with_reducible rfl;rotate_left;simp only [P_,A_,B_,C_,i64_w,i32_w];rfl
  refine tz_ 15 44 19 63195 HT_ HW_ rfl rfl (by kernel_rfl) hHeld ?_ (fun _ _ _ h => h) (by rfl) (fun w' ⟨s0, s1, s2, s3, s4, s5, s6, s7⟩ => ?_) ?_ ?_ ?_;rotate_left;go_simp;with_reducible rfl;rotate_left;simp only [P_,A_,B_,C_,i64_w,i32_w];rfl
  refine one_ (i := 2) (N := some 31) #[T_,T_,T_,T_,T_,F_,T_,T_,F_,T_,T_,F_,T_,T_,T_,T_,F_,F_,F_] rfl rfl (one_of HT_.out (by kernel_rfl)) (by decide) (fun K hK => ?_)
  refine goes_ Tryd.func14 (by kernel_rfl) rfl #[.agg #[.int .i64 t630, .int .i64 t631], .agg #[.int .i64 t633, .int .i64 t634]] (by rfl) rfl rfl (by (try simp only [List.map_toArray, List.map_cons, List.map_nil]); first | done | rfl | (simp only [List.length_drop, List.length_take]; rfl)) ?_
  with_reducible refine (wireloomlaw02_add.calls k t630 t631 t633 t634 t636 t637 t638 _ A8.out).mono ?_
  rintro e w32 ⟨rfl, hb⟩
  refine ⟨_, rfl, ?_⟩
  have n0_ := Aside0.mk (blk_below (g := gb627) (o := .cells #[.int .i64 a0_0, .int .i64 a0_1] 22 (0, 0)) (by (with_reducible repeat (first | refine blk_drewN ?_ _ | refine blk_drew ?_ | refine blk_alloc ?_ _)); exact BK627.out) hb)
  have n1_ := Aside0.mk (blk_below (g := gb628) (o := .cells #[.int .i64 a1_0, .int .i64 a1_1] 22 (0, 0)) (by (with_reducible repeat (first | refine blk_drewN ?_ _ | refine blk_drew ?_ | refine blk_alloc ?_ _)); exact BK628.out) hb)
  have n2_ := Aside0.mk (blk_below (g := gb632) (o := .cells #[.int .i64 t630, .int .i64 t631] 25 (0, 0)) (by (with_reducible repeat (first | refine blk_drewN ?_ _ | refine blk_drew ?_ | refine blk_alloc ?_ _)); exact BK632.out) hb)
  have n3_ := Aside0.mk (blk_below (g := gb635) (o := .cells #[.int .i64 t633, .int .i64 t634] 25 (0, 0)) (by (with_reducible repeat (first | refine blk_drewN ?_ _ | refine blk_drew ?_ | refine blk_alloc ?_ _)); exact BK635.out) hb)
  have n4_ := Aside0.mk (below_step (by repeat (first | (with_reducible first | exact HB.out | apply below_alloc | apply pw_below_drewN | apply below_drew1 | refine below_set ?_ GE627.out | refine below_set ?_ GE628.out | refine below_set ?_ GE632.out | refine below_set ?_ GE635.out) | exact HB.out)) hb)
  clear BK627
  clear BK628
  clear BK632
  clear BK635
  clear HB
  have BK627 := n0_
  have BK628 := n1_
  have BK632 := n2_
  have BK635 := n3_
  have HB := n4_
  clear n0_ n1_ n2_ n3_ n4_
  (try clear hb)
  (try clear hb2)
  (try clear hk)
  (try clear hi)
  (try clear A8)
  refine hK.out _ _ ⟨(blk_cell BK632.out 0).trans rfl, (blk_cell BK632.out 1).trans rfl, (blk_cell BK635.out 0).trans rfl, (blk_cell BK635.out 1).trans rfl, (blk_cell BK627.out 0).trans rfl, (blk_cell BK627.out 1).trans rfl, (blk_cell BK628.out 0).trans rfl, (blk_cell BK628.out 1).trans rfl⟩ (fun hHeld => ?_)
  clear hK K
  refine norm_ (a' := ?_) ?_ ?_
  rotate_left
  ·show Act.put _ (some 31) _ = _
   simp only [Act.put, List.setIfInBounds_toArray, List.set_cons_zero, List.set_cons_succ, i64_w, i32_w]
   rfl
  refine one_ (i := 5) (N := some 34) #[T_,T_,T_,T_,T_,T_,T_,T_,F_,T_,T_,F_,T_,T_,T_,T_,F_,F_,F_] rfl rfl (one_of HT_.out (by kernel_rfl)) (by decide) (fun K hK => ?_)
  refine goes_ Tryd.func21 (by kernel_rfl) rfl #[.agg #[.int .i64 t630, .int .i64 t631], .agg #[.int .i64 t633, .int .i64 t634]] (by rfl) rfl rfl (by (try simp only [List.map_toArray, List.map_cons, List.map_nil]); first | done | rfl | (simp only [List.length_drop, List.length_take]; rfl)) ?_
  with_reducible refine (wireloomlaw02_sub.calls k t630 t631 t633 t634 t639 t640 t641 _ A9.out).mono ?_
  rintro e w33 ⟨rfl, hb⟩
  refine ⟨_, rfl, ?_⟩
  have n0_ := Aside0.mk (blk_below (g := gb627) (o := .cells #[.int .i64 a0_0, .int .i64 a0_1] 22 (0, 0)) (by (with_reducible repeat (first | refine blk_drewN ?_ _ | refine blk_drew ?_ | refine blk_alloc ?_ _)); exact BK627.out) hb)
  have n1_ := Aside0.mk (blk_below (g := gb628) (o := .cells #[.int .i64 a1_0, .int .i64 a1_1] 22 (0, 0)) (by (with_reducible repeat (first | refine blk_drewN ?_ _ | refine blk_drew ?_ | refine blk_alloc ?_ _)); exact BK628.out) hb)
  have n2_ := Aside0.mk (blk_below (g := gb632) (o := .cells #[.int .i64 t630, .int .i64 t631] 25 (0, 0)) (by (with_reducible repeat (first | refine blk_drewN ?_ _ | refine blk_drew ?_ | refine blk_alloc ?_ _)); exact BK632.out) hb)
  have n3_ := Aside0.mk (blk_below (g := gb635) (o := .cells #[.int .i64 t633, .int .i64 t634] 25 (0, 0)) (by (with_reducible repeat (first | refine blk_drewN ?_ _ | refine blk_drew ?_ | refine blk_alloc ?_ _)); exact BK635.out) hb)
  have n4_ := Aside0.mk (below_step (by repeat (first | (with_reducible first | exact HB.out | apply below_alloc | apply pw_below_drewN | apply below_drew1 | refine below_set ?_ GE627.out | refine below_set ?_ GE628.out | refine below_set ?_ GE632.out | refine below_set ?_ GE635.out) | exact HB.out)) hb)
  clear BK627
  clear BK628
  clear BK632
  clear BK635
  clear HB
  have BK627 := n0_
  have BK628 := n1_
  have BK632 := n2_
  have BK635 := n3_
  have HB := n4_
  clear n0_ n1_ n2_ n3_ n4_
  (try clear hb)
  (try clear hb2)
  (try clear hk)
  (try clear hi)
  (try clear A9)
  refine hK.out _ _ ⟨(blk_cell BK632.out 0).trans rfl, (blk_cell BK632.out 1).trans rfl, (blk_cell BK635.out 0).trans rfl, (blk_cell BK635.out 1).trans rfl, (blk_cell BK627.out 0).trans rfl, (blk_cell BK627.out 1).trans rfl, (blk_cell BK628.out 0).trans rfl, (blk_cell BK628.out 1).trans rfl⟩ (fun hHeld => ?_)
  clear hK K
  refine norm_ (a' := ?_) ?_ ?_
  rotate_left
  ·show Act.put _ (some 34) _ = _
   simp only [Act.put, List.setIfInBounds_toArray, List.set_cons_zero, List.set_cons_succ, i64_w, i32_w]
   rfl
  refine one_ (i := 8) (N := some 37) #[T_,T_,T_,T_,T_,T_,T_,T_,T_,T_,T_,F_,T_,T_,T_,T_,F_,F_,F_] rfl rfl (one_of HT_.out (by kernel_rfl)) (by decide) (fun K hK => ?_)
  refine goes_ Tryd.func15 (by kernel_rfl) rfl #[.agg #[.int .i64 t630, .int .i64 t631], .agg #[.int .i64 t633, .int .i64 t634]] (by rfl) rfl rfl (by (try simp only [List.map_toArray, List.map_cons, List.map_nil]); first | done | rfl | (simp only [List.length_drop, List.length_take]; rfl)) ?_
  with_reducible refine (wireloomlaw02_mul.calls k t630 t631 t633 t634 t642 t643 t644 _ A10.out).mono ?_
  rintro e w34 ⟨rfl, hb⟩
  refine ⟨_, rfl, ?_⟩
  have n0_ := Aside0.mk (blk_below (g := gb627) (o := .cells #[.int .i64 a0_0, .int .i64 a0_1] 22 (0, 0)) (by (with_reducible repeat (first | refine blk_drewN ?_ _ | refine blk_drew ?_ | refine blk_alloc ?_ _)); exact BK627.out) hb)
  have n1_ := Aside0.mk (blk_below (g := gb628) (o := .cells #[.int .i64 a1_0, .int .i64 a1_1] 22 (0, 0)) (by (with_reducible repeat (first | refine blk_drewN ?_ _ | refine blk_drew ?_ | refine blk_alloc ?_ _)); exact BK628.out) hb)
  have n2_ := Aside0.mk (blk_below (g := gb632) (o := .cells #[.int .i64 t630, .int .i64 t631] 25 (0, 0)) (by (with_reducible repeat (first | refine blk_drewN ?_ _ | refine blk_drew ?_ | refine blk_alloc ?_ _)); exact BK632.out) hb)
  have n3_ := Aside0.mk (blk_below (g := gb635) (o := .cells #[.int .i64 t633, .int .i64 t634] 25 (0, 0)) (by (with_reducible repeat (first | refine blk_drewN ?_ _ | refine blk_drew ?_ | refine blk_alloc ?_ _)); exact BK635.out) hb)
  have n4_ := Aside0.mk (below_step (by repeat (first | (with_reducible first | exact HB.out | apply below_alloc | apply pw_below_drewN | apply below_drew1 | refine below_set ?_ GE627.out | refine below_set ?_ GE628.out | refine below_set ?_ GE632.out | refine below_set ?_ GE635.out) | exact HB.out)) hb)
  clear BK627
  clear BK628
  clear BK632
  clear BK635
  clear HB
  have BK627 := n0_
  have BK628 := n1_
  have BK632 := n2_
  have BK635 := n3_
  have HB := n4_
  clear n0_ n1_ n2_ n3_ n4_
  (try clear hb)
  (try clear hb2)
  (try clear hk)
  (try clear hi)
  (try clear A10)
  refine hK.out _ _ ⟨(blk_cell BK632.out 0).trans rfl, (blk_cell BK632.out 1).trans rfl, (blk_cell BK635.out 0).trans rfl, (blk_cell BK635.out 1).trans rfl, (blk_cell BK627.out 0).trans rfl, (blk_cell BK627.out 1).trans rfl, (blk_cell BK628.out 0).trans rfl, (blk_cell BK628.out 1).trans rfl⟩ (fun hHeld => ?_)
  clear hK K
  refine norm_ (a' := ?_) ?_ ?_
  rotate_left
  ·show Act.put _ (some 37) _ = _
   simp only [Act.put, List.setIfInBounds_toArray, List.set_cons_zero, List.set_cons_succ, i64_w, i32_w]
   rfl
  refine one_ (i := 11) (N := some 40) #[T_,T_,T_,T_,T_,T_,T_,T_,T_,T_,T_,T_,T_,T_,T_,T_,F_,F_,F_] rfl rfl (one_of HT_.out (by kernel_rfl)) (by decide) (fun K hK => ?_)
  refine goes_ Tryd.func22 (by kernel_rfl) rfl #[.agg #[.int .i64 t630, .int .i64 t631], .agg #[.int .i64 t633, .int .i64 t634]] (by rfl) rfl rfl (by (try simp only [List.map_toArray, List.map_cons, List.map_nil]); first | done | rfl | (simp only [List.length_drop, List.length_take]; rfl)) ?_
  with_reducible refine (wireloomlaw02_div.calls k t630 t631 t633 t634 t645 t646 t647 _ A11.out).mono ?_
  rintro e w35 ⟨rfl, hb⟩
  refine ⟨_, rfl, ?_⟩
  have n0_ := Aside0.mk (blk_below (g := gb627) (o := .cells #[.int .i64 a0_0, .int .i64 a0_1] 22 (0, 0)) (by (with_reducible repeat (first | refine blk_drewN ?_ _ | refine blk_drew ?_ | refine blk_alloc ?_ _)); exact BK627.out) hb)
  have n1_ := Aside0.mk (blk_below (g := gb628) (o := .cells #[.int .i64 a1_0, .int .i64 a1_1] 22 (0, 0)) (by (with_reducible repeat (first | refine blk_drewN ?_ _ | refine blk_drew ?_ | refine blk_alloc ?_ _)); exact BK628.out) hb)
  have n2_ := Aside0.mk (blk_below (g := gb632) (o := .cells #[.int .i64 t630, .int .i64 t631] 25 (0, 0)) (by (with_reducible repeat (first | refine blk_drewN ?_ _ | refine blk_drew ?_ | refine blk_alloc ?_ _)); exact BK632.out) hb)
  have n3_ := Aside0.mk (blk_below (g := gb635) (o := .cells #[.int .i64 t633, .int .i64 t634] 25 (0, 0)) (by (with_reducible repeat (first | refine blk_drewN ?_ _ | refine blk_drew ?_ | refine blk_alloc ?_ _)); exact BK635.out) hb)
  have n4_ := Aside0.mk (below_step (by repeat (first | (with_reducible first | exact HB.out | apply below_alloc | apply pw_below_drewN | apply below_drew1 | refine below_set ?_ GE627.out | refine below_set ?_ GE628.out | refine below_set ?_ GE632.out | refine below_set ?_ GE635.out) | exact HB.out)) hb)
  clear BK627
  clear BK628
  clear BK632
  clear BK635
  clear HB
  have BK627 := n0_
  have BK628 := n1_
  have BK632 := n2_
  have BK635 := n3_
  have HB := n4_
  clear n0_ n1_ n2_ n3_ n4_
  (try clear hb)
  (try clear hb2)
  (try clear hk)
  (try clear hi)
  (try clear A11)
  refine hK.out _ _ ⟨(blk_cell BK632.out 0).trans rfl, (blk_cell BK632.out 1).trans rfl, (blk_cell BK635.out 0).trans rfl, (blk_cell BK635.out 1).trans rfl, (blk_cell BK627.out 0).trans rfl, (blk_cell BK627.out 1).trans rfl, (blk_cell BK628.out 0).trans rfl, (blk_cell BK628.out 1).trans rfl⟩ (fun hHeld => ?_)
  clear hK K
  refine norm_ (a' := ?_) ?_ ?_
  rotate_left
  ·show Act.put _ (some 40) _ = _
   simp only [Act.put, List.setIfInBounds_toArray, List.set_cons_zero, List.set_cons_succ, i64_w, i32_w]
   rfl
  refine one_ (i := 16) (N := some 45) #[T_,T_,T_,T_,T_,T_,T_,T_,T_,T_,T_,T_,T_,T_,T_,T_,T_,F_,F_] rfl rfl (one_of HT_.out (by kernel_rfl)) (by decide) (fun K hK => ?_)
  refine goes_ Tryd.func25 (by kernel_rfl) rfl #[.int .i64 a0_0, .int .i64 a1_0] (by rfl) rfl rfl (by (try simp only [List.map_toArray, List.map_cons, List.map_nil]); first | done | rfl | (simp only [List.length_drop, List.length_take]; rfl)) ?_
  with_reducible refine (wireloomlaw02_created.calls k a0_0 a1_0 t648 t649 t650 _ A12.out).mono ?_
  rintro e w36 ⟨rfl, hb⟩
  refine ⟨_, rfl, ?_⟩
  have n0_ := Aside0.mk (blk_below (g := gb627) (o := .cells #[.int .i64 a0_0, .int .i64 a0_1] 22 (0, 0)) (by (with_reducible repeat (first | refine blk_drewN ?_ _ | refine blk_drew ?_ | refine blk_alloc ?_ _)); exact BK627.out) hb)
  have n1_ := Aside0.mk (blk_below (g := gb628) (o := .cells #[.int .i64 a1_0, .int .i64 a1_1] 22 (0, 0)) (by (with_reducible repeat (first | refine blk_drewN ?_ _ | refine blk_drew ?_ | refine blk_alloc ?_ _)); exact BK628.out) hb)
  have n2_ := Aside0.mk (blk_below (g := gb632) (o := .cells #[.int .i64 t630, .int .i64 t631] 25 (0, 0)) (by (with_reducible repeat (first | refine blk_drewN ?_ _ | refine blk_drew ?_ | refine blk_alloc ?_ _)); exact BK632.out) hb)
  have n3_ := Aside0.mk (blk_below (g := gb635) (o := .cells #[.int .i64 t633, .int .i64 t634] 25 (0, 0)) (by (with_reducible repeat (first | refine blk_drewN ?_ _ | refine blk_drew ?_ | refine blk_alloc ?_ _)); exact BK635.out) hb)
  have n4_ := Aside0.mk (below_step (by repeat (first | (with_reducible first | exact HB.out | apply below_alloc | apply pw_below_drewN | apply below_drew1 | refine below_set ?_ GE627.out | refine below_set ?_ GE628.out | refine below_set ?_ GE632.out | refine below_set ?_ GE635.out) | exact HB.out)) hb)
  clear BK627
  clear BK628
  clear BK632
  clear BK635
  clear HB
  have BK627 := n0_
  have BK628 := n1_
  have BK632 := n2_
  have BK635 := n3_
  have HB := n4_
  clear n0_ n1_ n2_ n3_ n4_
  (try clear hb)
  (try clear hb2)
  (try clear hk)
  (try clear hi)
  (try clear A12)
  refine hK.out _ _ ⟨(blk_cell BK632.out 0).trans rfl, (blk_cell BK632.out 1).trans rfl, (blk_cell BK635.out 0).trans rfl, (blk_cell BK635.out 1).trans rfl, (blk_cell BK627.out 0).trans rfl, (blk_cell BK627.out 1).trans rfl, (blk_cell BK628.out 0).trans rfl, (blk_cell BK628.out 1).trans rfl⟩ (fun hHeld => ?_)
  clear hK K
  refine norm_ (a' := ?_) ?_ ?_
  rotate_left
  ·show Act.put _ (some 45) _ = _
   simp only [Act.put, List.setIfInBounds_toArray, List.set_cons_zero, List.set_cons_succ, i64_w, i32_w]
   rfl
  refine one_ (i := 17) (N := some 46) #[T_,T_,T_,T_,T_,T_,T_,T_,T_,T_,T_,T_,T_,T_,T_,T_,T_,T_,F_] rfl rfl (one_of HT_.out (by kernel_rfl)) (by decide) (fun K hK => ?_)
  refine Kd.R_lit_step k31 _ 31 ?hg (N := 46) ?hd (xs := ([(⟨(⟨t636, t637⟩ : S25), t638⟩ : S31), (⟨(⟨t639, t640⟩ : S25), t641⟩ : S31), (⟨(⟨t642, t643⟩ : S25), t644⟩ : S31), (⟨(⟨t645, t646⟩ : S25), t647⟩ : S31), (⟨(⟨t648, t649⟩ : S25), t650⟩ : S31)] : List (S31))) (inner := [.int .i64 t636, .int .i64 t637, .int .i64 t638, .int .i64 t639, .int .i64 t640, .int .i64 t641, .int .i64 t642, .int .i64 t643, .int .i64 t644, .int .i64 t645, .int .i64 t646, .int .i64 t647, .int .i64 t648, .int .i64 t649, .int .i64 t650]) (ok := fun _ => True) (okp := fun _ => True) ?hr ?hp (fun _ hk => hk) trivial (Below.refl _ _) (Nat.le_refl _) (by simp) ?_; (case hd => rfl); (case hg => rfl); (case hr => first | (go_simp; done) | (go_simp; rfl)); (case hp => exact (Reps.c3 (show Kd.M k31 _ _ _ (⟨(⟨t636, t637⟩ : S25), t638⟩ : S31) [.int .i64 t636, .int .i64 t637, .int .i64 t638] from (k31_mkM _ _ _ (⟨(⟨t636, t637⟩ : S25), t638⟩ : S31) )) (Reps.c3 (show Kd.M k31 _ _ _ (⟨(⟨t639, t640⟩ : S25), t641⟩ : S31) [.int .i64 t639, .int .i64 t640, .int .i64 t641] from (k31_mkM _ _ _ (⟨(⟨t639, t640⟩ : S25), t641⟩ : S31) )) (Reps.c3 (show Kd.M k31 _ _ _ (⟨(⟨t642, t643⟩ : S25), t644⟩ : S31) [.int .i64 t642, .int .i64 t643, .int .i64 t644] from (k31_mkM _ _ _ (⟨(⟨t642, t643⟩ : S25), t644⟩ : S31) )) (Reps.c3 (show Kd.M k31 _ _ _ (⟨(⟨t645, t646⟩ : S25), t647⟩ : S31) [.int .i64 t645, .int .i64 t646, .int .i64 t647] from (k31_mkM _ _ _ (⟨(⟨t645, t646⟩ : S25), t647⟩ : S31) )) (Reps.c3 (show Kd.M k31 _ _ _ (⟨(⟨t648, t649⟩ : S25), t650⟩ : S31) [.int .i64 t648, .int .i64 t649, .int .i64 t650] from (k31_mkM _ _ _ (⟨(⟨t648, t649⟩ : S25), t650⟩ : S31) )) (Reps.none _ _)))))))
  intro v652 w37 ho38 hb hg_ hnew_
  clear hg_ hnew_
  (first | rw [← Ny651.out] at ho38 | (simp only [Int.reduceToNat] at ho38; rw [← Ny651.out] at ho38))
  have n0_ := Aside0.mk (Kd.R_lower ho38 (below_size (by repeat (first | (with_reducible first | exact HB.out | apply below_alloc | apply pw_below_drewN | apply below_drew1 | refine below_set ?_ GE627.out | refine below_set ?_ GE628.out | refine below_set ?_ GE632.out | refine below_set ?_ GE635.out) | exact HB.out))))
  have n1_ := Aside0.mk (blk_below (g := gb627) (o := .cells #[.int .i64 a0_0, .int .i64 a0_1] 22 (0, 0)) (by (with_reducible repeat (first | refine blk_drewN ?_ _ | refine blk_drew ?_ | refine blk_alloc ?_ _)); exact BK627.out) hb)
  have n2_ := Aside0.mk (blk_below (g := gb628) (o := .cells #[.int .i64 a1_0, .int .i64 a1_1] 22 (0, 0)) (by (with_reducible repeat (first | refine blk_drewN ?_ _ | refine blk_drew ?_ | refine blk_alloc ?_ _)); exact BK628.out) hb)
  have n3_ := Aside0.mk (blk_below (g := gb632) (o := .cells #[.int .i64 t630, .int .i64 t631] 25 (0, 0)) (by (with_reducible repeat (first | refine blk_drewN ?_ _ | refine blk_drew ?_ | refine blk_alloc ?_ _)); exact BK632.out) hb)
  have n4_ := Aside0.mk (blk_below (g := gb635) (o := .cells #[.int .i64 t633, .int .i64 t634] 25 (0, 0)) (by (with_reducible repeat (first | refine blk_drewN ?_ _ | refine blk_drew ?_ | refine blk_alloc ?_ _)); exact BK635.out) hb)
  have n5_ := Aside0.mk (below_step (by repeat (first | (with_reducible first | exact HB.out | apply below_alloc | apply pw_below_drewN | apply below_drew1 | refine below_set ?_ GE627.out | refine below_set ?_ GE628.out | refine below_set ?_ GE632.out | refine below_set ?_ GE635.out) | exact HB.out)) hb)
  clear BK627
  clear BK628
  clear BK632
  clear BK635
  clear HB
  have HO653 := n0_
  have BK627 := n1_
  have BK628 := n2_
  have BK632 := n3_
  have BK635 := n4_
  have HB := n5_
  clear n0_ n1_ n2_ n3_ n4_ n5_
  clear hb ho38
  refine hK.out _ _ ⟨(blk_cell BK632.out 0).trans rfl, (blk_cell BK632.out 1).trans rfl, (blk_cell BK635.out 0).trans rfl, (blk_cell BK635.out 1).trans rfl, (blk_cell BK627.out 0).trans rfl, (blk_cell BK627.out 1).trans rfl, (blk_cell BK628.out 0).trans rfl, (blk_cell BK628.out 1).trans rfl⟩ (fun hHeld => ?_)
  clear hK K
  refine norm_ (a' := ?_) ?_ ?_
  rotate_left
  ·show Act.put _ (some 46) _ = _
   simp only [Act.put, List.setIfInBounds_toArray, List.set_cons_zero, List.set_cons_succ, i64_w, i32_w]
   rfl
  refine pz_ 18 10 19 524287 HT_ rfl rfl (by kernel_rfl) ?_ (fun _ _ _ h => h) (by rfl) (fun w' => ?_) ?_ ?_ ?_;rotate_left;go_simp;with_reducible rfl;rotate_left;simp only [P_,A_,B_,C_,i64_w,i32_w];rfl
  refine done_ (done_of HT_.out (by kernel_rfl)) ?_
  try go_wp2
  go_loopg [11] k (fun kq v11 w' => ∃ (x11_1 : Int), v11 = .int .i64 x11_1 ∧ Aside0 (wireloomlaw02_FractionCanonical.l0 kq a2 true y651 x11_1 a0_0 a0_1 = some true) ∧ Aside0 (kq ≤ k) ∧ Aside0 (Kd.R k31 31 w' w.heap.size (fun _ => True) v652 y651) ∧ Aside0 (w'.heap[gb627]? = some (.cells #[.int .i64 a0_0, .int .i64 a0_1] 22 (0, 0))) ∧ Aside0 (w'.heap[gb628]? = some (.cells #[.int .i64 a1_0, .int .i64 a1_1] 22 (0, 0))) ∧ Aside0 (w'.heap[gb632]? = some (.cells #[.int .i64 t630, .int .i64 t631] 25 (0, 0))) ∧ Aside0 (w'.heap[gb635]? = some (.cells #[.int .i64 t633, .int .i64 t634] 25 (0, 0))) ∧ Aside0 (Below w.heap.size w w'))
  case atStart => exact ⟨(0), (by first | rfl | (simp; done) | (simp [*]; done)), H', ⟨Nat.le_refl _⟩, ⟨by (with_reducible repeat (first | apply Kd.R_alloc | apply Kd.R_drewN | apply Kd.R_drew)); exact HO653.out⟩, ⟨by (with_reducible repeat (first | refine blk_drewN ?_ _ | refine blk_drew ?_ | refine blk_alloc ?_ _)); exact BK627.out⟩, ⟨by (with_reducible repeat (first | refine blk_drewN ?_ _ | refine blk_drew ?_ | refine blk_alloc ?_ _)); exact BK628.out⟩, ⟨by (with_reducible repeat (first | refine blk_drewN ?_ _ | refine blk_drew ?_ | refine blk_alloc ?_ _)); exact BK632.out⟩, ⟨by (with_reducible repeat (first | refine blk_drewN ?_ _ | refine blk_drew ?_ | refine blk_alloc ?_ _)); exact BK635.out⟩, ⟨by repeat (first | (with_reducible first | exact HB.out | apply below_alloc | apply pw_below_drewN | apply below_drew1 | refine below_set ?_ GE627.out | refine below_set ?_ GE628.out | refine below_set ?_ GE632.out | refine below_set ?_ GE635.out) | exact HB.out)⟩⟩
  case round =>
   clear H'
   try clear c1
   try clear c2
   try clear p2
   try clear c3
   try clear c5
   try clear c7
   try clear c9
   try clear c10
   try clear c14
   try clear c15
   try clear c16
   try clear c20
   try clear c21
   try clear c22
   try clear c25
   try clear c26
   try clear c27
   try clear c28
   try clear hcz17_0
   try clear hcz17_1
   try clear hcz22_0
   try clear hcz22_1
   try clear hcz23_0
   try clear hcz23_1
   try clear hcz29_0
   try clear hcz29_1
   try clear hfz17_0
   try clear hfz17_1
   try clear hfz22_0
   try clear hfz22_1
   try clear hfz23_0
   try clear hfz23_1
   try clear hfz29_0
   try clear hfz29_1
   obtain ⟨x11_1, rfl, HA, HK1, HO_10, BK627, BK628, BK632, BK635, HB⟩ := hrel
   cases gk with
   | zero => exact absurd HA.out (by simp [wireloomlaw02_FractionCanonical.l0])
   | succ k1 =>
    have H := HA.out
    clear HA
    simp only [wireloomlaw02_FractionCanonical.l0] at H
    by_cases c39 : x11_1 < (y651.length : Int)
    ·rw [if_pos c39] at H
     have c39b0 : decide (x11_1 < (y651.length : Int)) = true := decide_eq_true c39
     clear c39
     have HC40 := Aside0.mk H
     clear H
     obtain ⟨Ao41, co41, eo41⟩ := Kd.R_slice HO_10.out
     subst eo41
     go_upto_region 10 with (fail)
     go_cut [82] (fun v82 wc => ∃ (kq : Nat) (x82_39 : Bool), v82 = .bool x82_39 ∧ Aside0 (wireloomlaw02_FractionCanonical.j1 kq a2 true y651 x11_1 x82_39 a0_0 a0_1 = some true) ∧ Aside0 (kq ≤ k1) ∧ Aside0 (Kd.R k31 31 wc w.heap.size (fun _ => True) (.slice Ao41 y651.length co41) y651) ∧ Aside0 (wc.heap[gb627]? = some (.cells #[.int .i64 a0_0, .int .i64 a0_1] 22 (0, 0))) ∧ Aside0 (wc.heap[gb628]? = some (.cells #[.int .i64 a1_0, .int .i64 a1_1] 22 (0, 0))) ∧ Aside0 (wc.heap[gb632]? = some (.cells #[.int .i64 t630, .int .i64 t631] 25 (0, 0))) ∧ Aside0 (wc.heap[gb635]? = some (.cells #[.int .i64 t633, .int .i64 t634] 25 (0, 0))) ∧ Aside0 (Below w.heap.size w wc))
     case first =>
      have H := HC40.out
      clear HC40
      by_cases c42 : 0 ≤ x11_1
      ·rw [if_pos c42] at H
       have c42b0 : decide (0 ≤ x11_1) = true := decide_eq_true c42
       clear c42
       (first | rw [c42b0] | (simp only [i64_w, i32_w]; rw [c42b0]) | skip)
       replace H := Option.bind_eq_some_iff.mp H
       obtain ⟨t655, A430, H⟩ := H
       replace H : (if (t655 != (((rd_T31 y651 x11_1).f1) == 0)) = true then (wireloomlaw02_FractionCanonical.j1 k1 a2 true y651 x11_1 true a0_0 a0_1) else (if ((rd_T31 y651 x11_1).f1) = 0 then (wireloomlaw02_FractionCanonical.j1 k1 a2 true y651 x11_1 false a0_0 a0_1) else (wireloomlaw02_FractionCanonical.j1 k1 a2 true y651 x11_1 (!(((rd_T31 y651 x11_1).f0.f0) == 0) || (!(((rd_T31 y651 x11_1).f0.f1) == 0))) a0_0 a0_1))) = some true := H
       have A43 := Aside0.mk A430
       clear A430
       by_cases c44 : (t655 != (((rd_T31 y651 x11_1).f1) == 0)) = true
       ·rw [if_pos c44] at H
        have c44b0 : (t655 != (((rd_T31 y651 x11_1).f1) == 0)) = true := c44
        (try (have c44b1 : decide (t655 = (((rd_T31 y651 x11_1).f1) == 0)) = false := by simpa using c44))
        (try (have c44b2 : (t655 == (((rd_T31 y651 x11_1).f1) == 0)) = false := by simpa using c44))
        (try (have c44b3 : ¬ (t655 = (((rd_T31 y651 x11_1).f1) == 0)) := by simpa using c44))
        clear c44
        exact absurd H (wireloomlaw02_FractionCanonical.dead_j1_true _ _ _ _ _ _ _)
       ·rw [if_neg c44] at H
        have c44b0 : (t655 != (((rd_T31 y651 x11_1).f1) == 0)) = false := by simpa using c44
        (try (have c44b1 : decide (t655 = (((rd_T31 y651 x11_1).f1) == 0)) = true := by simpa using c44))
        (try (have c44b2 : (t655 == (((rd_T31 y651 x11_1).f1) == 0)) = true := by simpa using c44))
        clear c44
        by_cases c45 : ((rd_T31 y651 x11_1).f1) = 0
        ·rw [if_pos c45] at H
         have c45b0 : (((rd_T31 y651 x11_1).f1) == 0) = true := beq_iff_eq.mpr c45
         have c45b1 : (((rd_T31 y651 x11_1).f1) != 0) = false := bne_eq_false_iff_eq.mpr c45
         have c44c : t655 = true := by rw [c45b0] at c44b0; revert c44b0; cases t655 <;> simp
         clear c45
         have H' := Aside0.mk H
         clear H
         try go_wp2
         have n0_ := Aside0.mk (Kd.R_drew HO_10.out)
         have n1_ := Aside0.mk (blk_drew BK627.out)
         have n2_ := Aside0.mk (blk_drew BK628.out)
         have n3_ := Aside0.mk (blk_drew BK632.out)
         have n4_ := Aside0.mk (blk_drew BK635.out)
         have n5_ := Aside0.mk (below_drew1 HB.out)
         clear HO_10
         clear BK627
         clear BK628
         clear BK632
         clear BK635
         clear HB
         have HO_10 := n0_
         have BK627 := n1_
         have BK628 := n2_
         have BK632 := n3_
         have BK635 := n4_
         have HB := n5_
         clear n0_ n1_ n2_ n3_ n4_ n5_
         have p654 : 0 ≤ (x11_1 : Int) := of_decide_eq_true (by first | (with_reducible assumption) | assumption)
         have q654 : x11_1 < (y651.length : Int) := of_decide_eq_true (by first | (with_reducible assumption) | assumption)
         obtain ⟨ad654, e654, hx654_0, hx654_1, hx654_2⟩ := at_T31 (Kd.R_reads' HO_10.out).2.2 x11_1 p654 q654
         cases e654
         replace p654 := eq_true p654
         replace q654 := eq_true q654
         have p656 : 0 ≤ (x11_1 : Int) := of_decide_eq_true (by first | (with_reducible assumption) | assumption)
         have q656 : x11_1 < (y651.length : Int) := of_decide_eq_true (by first | (with_reducible assumption) | assumption)
         obtain ⟨ad656, e656, hx656_0, hx656_1, hx656_2⟩ := at_T31 (Kd.R_reads' HO_10.out).2.2 x11_1 p656 q656
         obtain rfl : ad654 = ad656 := (by injection e656)
         replace p656 := eq_true p656
         replace q656 := eq_true q656
         have p657 : 0 ≤ (x11_1 : Int) := of_decide_eq_true (by first | (with_reducible assumption) | assumption)
         have q657 : x11_1 < (y651.length : Int) := of_decide_eq_true (by first | (with_reducible assumption) | assumption)
         obtain ⟨ad657, e657, hx657_0, hx657_1, hx657_2⟩ := at_T31 (Kd.R_reads' HO_10.out).2.2 x11_1 p657 q657
         obtain rfl : ad654 = ad657 := (by injection e657)
         replace p657 := eq_true p657
         replace q657 := eq_true q657
         refine start_ (n := 30) (S := fun w' => w'.cell? (ad654.add ((x11_1).toNat * 3)) = some (.int .i64 ((rd_T31 y651 x11_1).f0.f0)) ∧ w'.cell? ⟨(ad654.add ((x11_1).toNat * 3)).block, (ad654.add ((x11_1).toNat * 3)).off + 1, none⟩ = some (.int .i64 ((rd_T31 y651 x11_1).f0.f1)) ∧ w'.cell? ⟨(ad654.add ((x11_1).toNat * 3)).block, (ad654.add ((x11_1).toNat * 3)).off + 2, none⟩ = some (.int .i64 ((rd_T31 y651 x11_1).f1)) ∧ w'.cell? (ad654.add ((x11_1).toNat * 3)) = some (.int .i64 ((rd_T31 y651 x11_1).f0.f0)) ∧ w'.cell? ⟨(ad654.add ((x11_1).toNat * 3)).block, (ad654.add ((x11_1).toNat * 3)).off + 1, none⟩ = some (.int .i64 ((rd_T31 y651 x11_1).f0.f1)) ∧ w'.cell? ⟨(ad654.add ((x11_1).toNat * 3)).block, (ad654.add ((x11_1).toNat * 3)).off + 2, none⟩ = some (.int .i64 ((rd_T31 y651 x11_1).f1)) ∧ w'.cell? (ad654.add ((x11_1).toNat * 3)) = some (.int .i64 ((rd_T31 y651 x11_1).f0.f0)) ∧ w'.cell? ⟨(ad654.add ((x11_1).toNat * 3)).block, (ad654.add ((x11_1).toNat * 3)).off + 1, none⟩ = some (.int .i64 ((rd_T31 y651 x11_1).f0.f1)) ∧ w'.cell? ⟨(ad654.add ((x11_1).toNat * 3)).block, (ad654.add ((x11_1).toNat * 3)).off + 2, none⟩ = some (.int .i64 ((rd_T31 y651 x11_1).f1))) (ds := []) #[F_,F_,F_,F_,F_,F_,F_,F_,F_,F_,F_,F_,F_,F_,F_,F_,F_,F_,F_,F_,F_,F_,F_,F_,F_,F_,F_,F_,F_,F_] (by kernel_rfl) rfl rfl ⟨hx654_0, hx654_1, hx654_2, hx656_0, hx656_1, hx656_2, hx657_0, hx657_1, hx657_2⟩ (fun hHeld => ?_); refine with_tabW wireloomlaw02_FractionCanonical.tab10 wireloomlaw02_FractionCanonical.bits10 (fun HT_ HW_ => ?_)
         generalize wr.drew = w46 at HO_10 BK627 BK628 BK632 BK635 HB hx654_0 hx654_1 hx654_2 hx656_0 hx656_1 hx656_2 hx657_0 hx657_1 hx657_2 hHeld ⊢
         refine pz_ 0 53 30 1 HT_ rfl rfl (by kernel_rfl) ?_ (fun _ _ _ h => h) (by rfl) (fun w' => ?_) ?_ ?_ ?_;rotate_left;go_simp;with_reducible rfl;rotate_left;simp only [P_,A_,B_,C_,i64_w,i32_w];rfl
         refine pz_ 1 54 30 3 HT_ rfl rfl (by kernel_rfl) ?_ (fun _ _ _ h => h) (by rfl) (fun w' => ?_) ?_ ?_ ?_;rotate_left;go_simp;with_reducible rfl;rotate_left;simp only [P_,A_,B_,C_,i64_w,i32_w];rfl
         refine pz_ 2 55 30 7 HT_ rfl rfl (by kernel_rfl) ?_ (fun _ _ _ h => h) (by rfl) (fun w' => ?_) ?_ ?_ ?_;rotate_left;go_simp;with_reducible rfl;rotate_left;simp only [P_,A_,B_,C_,i64_w,i32_w];rfl
         refine pz_ 3 56 30 15 HT_ rfl rfl (by kernel_rfl) ?_ (fun _ _ _ h => h) (by rfl) (fun w' => ?_) ?_ ?_ ?_;rotate_left;go_simp;with_reducible rfl;rotate_left;simp only [P_,A_,B_,C_,i64_w,i32_w];rfl
         refine pz_ 6 59 30 79 HT_ rfl rfl (by kernel_rfl) ?_ (fun _ _ _ h => h) (by rfl) (fun w' => ?_) ?_ ?_ ?_;rotate_left;go_simp;with_reducible rfl;rotate_left;simp only [P_,A_,B_,C_,i64_w,i32_w];rfl
         refine pz_ 7 60 30 207 HT_ rfl rfl (by kernel_rfl) ?_ (fun _ _ _ h => h) (by rfl) (fun w' => ?_) ?_ ?_ ?_;rotate_left;go_simp;with_reducible rfl;rotate_left;simp only [P_,A_,B_,C_,i64_w,i32_w];rfl
         refine pz_ 8 61 30 463 HT_ rfl rfl (by kernel_rfl) ?_ (fun _ _ _ h => h) (by rfl) (fun w' => ?_) ?_ ?_ ?_;rotate_left;go_simp;with_reducible rfl;rotate_left;simp only [P_,A_,B_,C_,i64_w,i32_w];rfl
         refine pz_ 9 62 30 975 HT_ rfl rfl (by kernel_rfl) ?_ (fun _ _ _ h => h) (by rfl) (fun w' => ?_) ?_ ?_ ?_;rotate_left;go_simp;with_reducible rfl;rotate_left;simp only [P_,A_,B_,C_,i64_w,i32_w];rfl
         refine tz_ 4 57 30 991 HT_ HW_ rfl rfl (by kernel_rfl) hHeld ?_ (fun _ _ _ h => h) (by rfl) (fun w' ⟨s0, s1, s2, s3, s4, s5, s6, s7, s8⟩ => ?_) ?_ ?_ ?_;rotate_left;go_simp;with_reducible rfl;rotate_left;simp only [P_,A_,B_,C_,i64_w,i32_w];rfl
         refine tz_ 10 63 30 2015 HT_ HW_ rfl rfl (by kernel_rfl) hHeld ?_ (fun _ _ _ h => h) (by rfl) (fun w' ⟨s0, s1, s2, s3, s4, s5, s6, s7, s8⟩ => ?_) ?_ ?_ ?_;rotate_left;go_simp;with_reducible rfl;rotate_left;simp only [P_,A_,B_,C_,i64_w,i32_w];rfl
         refine pz_ 11 64 30 4063 HT_ rfl rfl (by kernel_rfl) ?_ (fun _ _ _ h => h) (by rfl) (fun w' => ?_) ?_ ?_ ?_;rotate_left;go_simp;with_reducible rfl;rotate_left;simp only [P_,A_,B_,C_,i64_w,i32_w];rfl
         refine one_ (i := 5) (N := some 58) #[T_,T_,T_,T_,T_,T_,T_,T_,T_,T_,T_,T_,F_,F_,F_,F_,F_,F_,F_,F_,F_,F_,F_,F_,F_,F_,F_,F_,F_,F_] rfl rfl (one_of HT_.out (by kernel_rfl)) (by decide) (fun K hK => ?_)
         refine goes_ Tryd.func26 (by kernel_rfl) rfl #[.agg #[.int .i64 ((rd_T31 y651 x11_1).f0.f0), .int .i64 ((rd_T31 y651 x11_1).f0.f1)]] (by rfl) rfl rfl (by (try simp only [List.map_toArray, List.map_cons, List.map_nil]); first | done | rfl | (simp only [List.length_drop, List.length_take]; rfl)) ?_
         with_reducible refine (fraction_Valid.calls ((rd_T31 y651 x11_1).f0.f0) ((rd_T31 y651 x11_1).f0.f1) t655 _ A43.out).mono ?_
         rintro e w47 ⟨rfl, hb⟩
         have HS0_ := (hb.cell (World.block_lt_of_cell? _ _ (hHeld.1))).trans (hHeld.1)
         have HS1_ := (hb.cell (World.block_lt_of_cell? _ _ (hHeld.2.1))).trans (hHeld.2.1)
         have HS2_ := (hb.cell (World.block_lt_of_cell? _ _ (hHeld.2.2.1))).trans (hHeld.2.2.1)
         have HS3_ := (hb.cell (World.block_lt_of_cell? _ _ (hHeld.2.2.2.1))).trans (hHeld.2.2.2.1)
         have HS4_ := (hb.cell (World.block_lt_of_cell? _ _ (hHeld.2.2.2.2.1))).trans (hHeld.2.2.2.2.1)
         have HS5_ := (hb.cell (World.block_lt_of_cell? _ _ (hHeld.2.2.2.2.2.1))).trans (hHeld.2.2.2.2.2.1)
         have HS6_ := (hb.cell (World.block_lt_of_cell? _ _ (hHeld.2.2.2.2.2.2.1))).trans (hHeld.2.2.2.2.2.2.1)
         have HS7_ := (hb.cell (World.block_lt_of_cell? _ _ (hHeld.2.2.2.2.2.2.2.1))).trans (hHeld.2.2.2.2.2.2.2.1)
         have HS8_ := (hb.cell (World.block_lt_of_cell? _ _ (hHeld.2.2.2.2.2.2.2.2))).trans (hHeld.2.2.2.2.2.2.2.2)
         refine ⟨_, rfl, ?_⟩
         have n0_ := Aside0.mk (Kd.R_below (by (with_reducible repeat (first | apply Kd.R_alloc | apply Kd.R_drewN | apply Kd.R_drew)); exact HO_10.out) hb)
         have n1_ := Aside0.mk (blk_below (g := gb627) (o := .cells #[.int .i64 a0_0, .int .i64 a0_1] 22 (0, 0)) (by (with_reducible repeat (first | refine blk_drewN ?_ _ | refine blk_drew ?_ | refine blk_alloc ?_ _)); exact BK627.out) hb)
         have n2_ := Aside0.mk (blk_below (g := gb628) (o := .cells #[.int .i64 a1_0, .int .i64 a1_1] 22 (0, 0)) (by (with_reducible repeat (first | refine blk_drewN ?_ _ | refine blk_drew ?_ | refine blk_alloc ?_ _)); exact BK628.out) hb)
         have n3_ := Aside0.mk (blk_below (g := gb632) (o := .cells #[.int .i64 t630, .int .i64 t631] 25 (0, 0)) (by (with_reducible repeat (first | refine blk_drewN ?_ _ | refine blk_drew ?_ | refine blk_alloc ?_ _)); exact BK632.out) hb)
         have n4_ := Aside0.mk (blk_below (g := gb635) (o := .cells #[.int .i64 t633, .int .i64 t634] 25 (0, 0)) (by (with_reducible repeat (first | refine blk_drewN ?_ _ | refine blk_drew ?_ | refine blk_alloc ?_ _)); exact BK635.out) hb)
         have n5_ := Aside0.mk (below_step (by repeat (first | (with_reducible first | exact HB.out | apply below_alloc | apply pw_below_drewN | apply below_drew1 | refine below_set ?_ GE627.out | refine below_set ?_ GE628.out | refine below_set ?_ GE632.out | refine below_set ?_ GE635.out) | exact HB.out)) hb)
         clear HO_10
         clear BK627
         clear BK628
         clear BK632
         clear BK635
         clear HB
         have HO_10 := n0_
         have BK627 := n1_
         have BK628 := n2_
         have BK632 := n3_
         have BK635 := n4_
         have HB := n5_
         clear n0_ n1_ n2_ n3_ n4_ n5_
         (try clear hb)
         (try clear hb2)
         (try clear hk)
         (try clear hi)
         (try clear A43)
         refine hK.out _ _ ⟨HS0_, HS1_, HS2_, HS3_, HS4_, HS5_, HS6_, HS7_, HS8_⟩ (fun hHeld => ?_)
         clear hK K
         refine norm_ (a' := ?_) ?_ ?_
         rotate_left
         ·show Act.put _ (some 58) _ = _
          simp only [Act.put, List.setIfInBounds_toArray, List.set_cons_zero, List.set_cons_succ, i64_w, i32_w]
          rfl
         refine pz_ 12 65 30 8191 HT_ rfl rfl (by kernel_rfl) ?_ (fun _ _ _ h => h) (by rfl) (fun w' => ?_) ?_ ?_ ?_;rotate_left;go_simp;with_reducible rfl;rotate_left;simp only [P_,A_,B_,C_,i64_w,i32_w];rfl
         refine pz_ 13 66 30 16383 HT_ rfl rfl (by kernel_rfl) ?_ (fun _ _ _ h => h) (by rfl) (fun w' => ?_) ?_ ?_ ?_;rotate_left;go_simp;with_reducible rfl;rotate_left;simp only [P_,A_,B_,C_,i64_w,i32_w];rfl
         refine pz_ 14 67 30 32767 HT_ rfl rfl (by kernel_rfl) ?_ (fun _ _ _ h => h) (by rfl) (fun w' => ?_) ?_ ?_ ?_;rotate_left;go_simp;with_reducible rfl;rotate_left;simp only [P_,A_,B_,C_,i64_w,i32_w];rfl
         refine pz_ 15 68 30 65535 HT_ rfl rfl (by kernel_rfl) ?_ (fun _ _ _ h => h) (by rfl) (fun w' => ?_) ?_ ?_ ?_;rotate_left;go_simp;with_reducible rfl;rotate_left;simp only [P_,A_,B_,C_,i64_w,i32_w];rfl
         refine pz_ 16 69 30 131071 HT_ rfl rfl (by kernel_rfl) ?_ (fun _ _ _ h => h) (by rfl) (fun w' => ?_) ?_ ?_ ?_;rotate_left;go_simp;with_reducible rfl;rotate_left;simp only [P_,A_,B_,C_,i64_w,i32_w];rfl
         refine pz_ 17 70 30 262143 HT_ rfl rfl (by kernel_rfl) ?_ (fun _ _ _ h => h) (by rfl) (fun w' => ?_) ?_ ?_ ?_;rotate_left;go_simp;with_reducible rfl;rotate_left;simp only [P_,A_,B_,C_,i64_w,i32_w];rfl
         refine tz_ 18 71 30 524287 HT_ HW_ rfl rfl (by kernel_rfl) hHeld ?_ (fun _ _ _ h => h) (by rfl) (fun w' ⟨s0, s1, s2, s3, s4, s5, s6, s7, s8⟩ => ?_) ?_ ?_ ?_;rotate_left;go_simp;with_reducible rfl;rotate_left;simp only [P_,A_,B_,C_,i64_w,i32_w];rfl
         refine pz_ 19 72 30 1048575 HT_ rfl rfl (by kernel_rfl) ?_ (fun _ _ _ h => h) (by rfl) (fun w' => ?_) ?_ ?_ ?_;rotate_left;go_simp;with_reducible rfl;rotate_left;simp only [P_,A_,B_,C_,i64_w,i32_w];rfl
         refine pz_ 20 73 30 2097151 HT_ rfl rfl (by kernel_rfl) ?_ (fun _ _ _ h => h) (by rfl) (fun w' => ?_) ?_ ?_ ?_;rotate_left;go_simp;with_reducible rfl;rotate_left;simp only [P_,A_,B_,C_,i64_w,i32_w];rfl
         refine pu_ 21 74 30 4194303 HT_ rfl rfl (by kernel_rfl) (fun _ _ _ h => h) (by rfl) ?_ ?_ ?_;rotate_left;simp only [P_,A_,B_,C_,i64_w,i32_w];rfl
         refine pu_ 22 75 30 8388607 HT_ rfl rfl (by kernel_rfl) (fun _ _ _ h => h) (by rfl) ?_ ?_ ?_;rotate_left;simp only [P_,A_,B_,C_,i64_w,i32_w];rfl
         refine pu_ 23 76 30 16777215 HT_ rfl rfl (by kernel_rfl) (fun _ _ _ h => h) (by rfl) ?_ ?_ ?_;rotate_left;simp only [P_,A_,B_,C_,i64_w,i32_w];rfl
         refine pu_ 24 77 30 33554431 HT_ rfl rfl (by kernel_rfl) (fun _ _ _ h => h) (by rfl) ?_ ?_ ?_;rotate_left;simp only [P_,A_,B_,C_,i64_w,i32_w];rfl
         refine pu_ 25 78 30 67108863 HT_ rfl rfl (by kernel_rfl) (fun _ _ _ h => h) (by rfl) ?_ ?_ ?_;rotate_left;simp only [P_,A_,B_,C_,i64_w,i32_w];rfl
         refine pu_ 26 79 30 134217727 HT_ rfl rfl (by kernel_rfl) (fun _ _ _ h => h) (by rfl) ?_ ?_ ?_;rotate_left;simp only [P_,A_,B_,C_,i64_w,i32_w];rfl
         refine pu_ 27 80 30 268435455 HT_ rfl rfl (by kernel_rfl) (fun _ _ _ h => h) (by rfl) ?_ ?_ ?_;rotate_left;simp only [P_,A_,B_,C_,i64_w,i32_w];rfl
         refine pz_ 28 81 30 536870911 HT_ rfl rfl (by kernel_rfl) ?_ (fun _ _ _ h => h) (by rfl) (fun w' => ?_) ?_ ?_ ?_;rotate_left;go_simp;with_reducible rfl;rotate_left;simp only [P_,A_,B_,C_,i64_w,i32_w];rfl
         refine pz_ 29 82 30 1073741823 HT_ rfl rfl (by kernel_rfl) ?_ (fun _ _ _ h => h) (by rfl) (fun w' => ?_) ?_ ?_ ?_;rotate_left;go_simp;with_reducible rfl;rotate_left;simp only [P_,A_,B_,C_,i64_w,i32_w];rfl
         refine done_ (done_of HT_.out (by kernel_rfl)) ?_
         try go_wp2
         go_meet
         case rel => exact ⟨_, (false), (by first | rfl | (simp; done) | (simp [*]; done)), H', ⟨by have := HK1.out; first | omega | exact Nat.le_refl _⟩, ⟨by (with_reducible repeat (first | apply Kd.R_alloc | apply Kd.R_drewN | apply Kd.R_drew)); exact HO_10.out⟩, ⟨by (with_reducible repeat (first | refine blk_drewN ?_ _ | refine blk_drew ?_ | refine blk_alloc ?_ _)); exact BK627.out⟩, ⟨by (with_reducible repeat (first | refine blk_drewN ?_ _ | refine blk_drew ?_ | refine blk_alloc ?_ _)); exact BK628.out⟩, ⟨by (with_reducible repeat (first | refine blk_drewN ?_ _ | refine blk_drew ?_ | refine blk_alloc ?_ _)); exact BK632.out⟩, ⟨by (with_reducible repeat (first | refine blk_drewN ?_ _ | refine blk_drew ?_ | refine blk_alloc ?_ _)); exact BK635.out⟩, ⟨by repeat (first | (with_reducible first | exact HB.out | apply below_alloc | apply pw_below_drewN | apply below_drew1 | refine below_set ?_ GE627.out | refine below_set ?_ GE628.out | refine below_set ?_ GE632.out | refine below_set ?_ GE635.out) | exact HB.out)⟩⟩
        ·rw [if_neg c45] at H
         have c45b0 : (((rd_T31 y651 x11_1).f1) == 0) = false := beq_eq_false_iff_ne.mpr c45
         have c45b1 : (((rd_T31 y651 x11_1).f1) != 0) = true := bne_iff_ne.mpr c45
         have c44c : t655 = false := by rw [c45b0] at c44b0; revert c44b0; cases t655 <;> simp
         have H' := Aside0.mk H
         clear H
         try go_wp2
         have n0_ := Aside0.mk (Kd.R_drew HO_10.out)
         have n1_ := Aside0.mk (blk_drew BK627.out)
         have n2_ := Aside0.mk (blk_drew BK628.out)
         have n3_ := Aside0.mk (blk_drew BK632.out)
         have n4_ := Aside0.mk (blk_drew BK635.out)
         have n5_ := Aside0.mk (below_drew1 HB.out)
         clear HO_10
         clear BK627
         clear BK628
         clear BK632
         clear BK635
         clear HB
         have HO_10 := n0_
         have BK627 := n1_
         have BK628 := n2_
         have BK632 := n3_
         have BK635 := n4_
         have HB := n5_
         clear n0_ n1_ n2_ n3_ n4_ n5_
         have p654 : 0 ≤ (x11_1 : Int) := of_decide_eq_true (by first | (with_reducible assumption) | assumption)
         have q654 : x11_1 < (y651.length : Int) := of_decide_eq_true (by first | (with_reducible assumption) | assumption)
         obtain ⟨ad654, e654, hx654_0, hx654_1, hx654_2⟩ := at_T31 (Kd.R_reads' HO_10.out).2.2 x11_1 p654 q654
         cases e654
         replace p654 := eq_true p654
         replace q654 := eq_true q654
         have p656 : 0 ≤ (x11_1 : Int) := of_decide_eq_true (by first | (with_reducible assumption) | assumption)
         have q656 : x11_1 < (y651.length : Int) := of_decide_eq_true (by first | (with_reducible assumption) | assumption)
         obtain ⟨ad656, e656, hx656_0, hx656_1, hx656_2⟩ := at_T31 (Kd.R_reads' HO_10.out).2.2 x11_1 p656 q656
         obtain rfl : ad654 = ad656 := (by injection e656)
         replace p656 := eq_true p656
         replace q656 := eq_true q656
         have p657 : 0 ≤ (x11_1 : Int) := of_decide_eq_true (by first | (with_reducible assumption) | assumption)
         have q657 : x11_1 < (y651.length : Int) := of_decide_eq_true (by first | (with_reducible assumption) | assumption)
         obtain ⟨ad657, e657, hx657_0, hx657_1, hx657_2⟩ := at_T31 (Kd.R_reads' HO_10.out).2.2 x11_1 p657 q657
         obtain rfl : ad654 = ad657 := (by injection e657)
         replace p657 := eq_true p657
         replace q657 := eq_true q657
         have p658 : 0 ≤ (x11_1 : Int) := of_decide_eq_true (by first | (with_reducible assumption) | assumption)
         have q658 : x11_1 < (y651.length : Int) := of_decide_eq_true (by first | (with_reducible assumption) | assumption)
         obtain ⟨ad658, e658, hx658_0, hx658_1, hx658_2⟩ := at_T31 (Kd.R_reads' HO_10.out).2.2 x11_1 p658 q658
         obtain rfl : ad654 = ad658 := (by injection e658)
         replace p658 := eq_true p658
         replace q658 := eq_true q658
         refine start_ (n := 30) (S := fun w' => w'.cell? (ad654.add ((x11_1).toNat * 3)) = some (.int .i64 ((rd_T31 y651 x11_1).f0.f0)) ∧ w'.cell? ⟨(ad654.add ((x11_1).toNat * 3)).block, (ad654.add ((x11_1).toNat * 3)).off + 1, none⟩ = some (.int .i64 ((rd_T31 y651 x11_1).f0.f1)) ∧ w'.cell? ⟨(ad654.add ((x11_1).toNat * 3)).block, (ad654.add ((x11_1).toNat * 3)).off + 2, none⟩ = some (.int .i64 ((rd_T31 y651 x11_1).f1)) ∧ w'.cell? (ad654.add ((x11_1).toNat * 3)) = some (.int .i64 ((rd_T31 y651 x11_1).f0.f0)) ∧ w'.cell? ⟨(ad654.add ((x11_1).toNat * 3)).block, (ad654.add ((x11_1).toNat * 3)).off + 1, none⟩ = some (.int .i64 ((rd_T31 y651 x11_1).f0.f1)) ∧ w'.cell? ⟨(ad654.add ((x11_1).toNat * 3)).block, (ad654.add ((x11_1).toNat * 3)).off + 2, none⟩ = some (.int .i64 ((rd_T31 y651 x11_1).f1)) ∧ w'.cell? (ad654.add ((x11_1).toNat * 3)) = some (.int .i64 ((rd_T31 y651 x11_1).f0.f0)) ∧ w'.cell? ⟨(ad654.add ((x11_1).toNat * 3)).block, (ad654.add ((x11_1).toNat * 3)).off + 1, none⟩ = some (.int .i64 ((rd_T31 y651 x11_1).f0.f1)) ∧ w'.cell? ⟨(ad654.add ((x11_1).toNat * 3)).block, (ad654.add ((x11_1).toNat * 3)).off + 2, none⟩ = some (.int .i64 ((rd_T31 y651 x11_1).f1)) ∧ w'.cell? (ad654.add ((x11_1).toNat * 3)) = some (.int .i64 ((rd_T31 y651 x11_1).f0.f0)) ∧ w'.cell? ⟨(ad654.add ((x11_1).toNat * 3)).block, (ad654.add ((x11_1).toNat * 3)).off + 1, none⟩ = some (.int .i64 ((rd_T31 y651 x11_1).f0.f1)) ∧ w'.cell? ⟨(ad654.add ((x11_1).toNat * 3)).block, (ad654.add ((x11_1).toNat * 3)).off + 2, none⟩ = some (.int .i64 ((rd_T31 y651 x11_1).f1))) (ds := []) #[F_,F_,F_,F_,F_,F_,F_,F_,F_,F_,F_,F_,F_,F_,F_,F_,F_,F_,F_,F_,F_,F_,F_,F_,F_,F_,F_,F_,F_,F_] (by kernel_rfl) rfl rfl ⟨hx654_0, hx654_1, hx654_2, hx656_0, hx656_1, hx656_2, hx657_0, hx657_1, hx657_2, hx658_0, hx658_1, hx658_2⟩ (fun hHeld => ?_); refine with_tabW wireloomlaw02_FractionCanonical.tab10 wireloomlaw02_FractionCanonical.bits10 (fun HT_ HW_ => ?_)
         generalize wr.drew = w48 at HO_10 BK627 BK628 BK632 BK635 HB hx654_0 hx654_1 hx654_2 hx656_0 hx656_1 hx656_2 hx657_0 hx657_1 hx657_2 hx658_0 hx658_1 hx658_2 hHeld ⊢
         refine pz_ 0 53 30 1 HT_ rfl rfl (by kernel_rfl) ?_ (fun _ _ _ h => h) (by rfl) (fun w' => ?_) ?_ ?_ ?_;rotate_left;go_simp;with_reducible rfl;rotate_left;simp only [P_,A_,B_,C_,i64_w,i32_w];rfl
         refine pz_ 1 54 30 3 HT_ rfl rfl (by kernel_rfl) ?_ (fun _ _ _ h => h) (by rfl) (fun w' => ?_) ?_ ?_ ?_;rotate_left;go_simp;with_reducible rfl;rotate_left;simp only [P_,A_,B_,C_,i64_w,i32_w];rfl
         refine pz_ 2 55 30 7 HT_ rfl rfl (by kernel_rfl) ?_ (fun _ _ _ h => h) (by rfl) (fun w' => ?_) ?_ ?_ ?_;rotate_left;go_simp;with_reducible rfl;rotate_left;simp only [P_,A_,B_,C_,i64_w,i32_w];rfl
         refine pz_ 3 56 30 15 HT_ rfl rfl (by kernel_rfl) ?_ (fun _ _ _ h => h) (by rfl) (fun w' => ?_) ?_ ?_ ?_;rotate_left;go_simp;with_reducible rfl;rotate_left;simp only [P_,A_,B_,C_,i64_w,i32_w];rfl
         refine pz_ 6 59 30 79 HT_ rfl rfl (by kernel_rfl) ?_ (fun _ _ _ h => h) (by rfl) (fun w' => ?_) ?_ ?_ ?_;rotate_left;go_simp;with_reducible rfl;rotate_left;simp only [P_,A_,B_,C_,i64_w,i32_w];rfl
         refine pz_ 7 60 30 207 HT_ rfl rfl (by kernel_rfl) ?_ (fun _ _ _ h => h) (by rfl) (fun w' => ?_) ?_ ?_ ?_;rotate_left;go_simp;with_reducible rfl;rotate_left;simp only [P_,A_,B_,C_,i64_w,i32_w];rfl
         refine pz_ 8 61 30 463 HT_ rfl rfl (by kernel_rfl) ?_ (fun _ _ _ h => h) (by rfl) (fun w' => ?_) ?_ ?_ ?_;rotate_left;go_simp;with_reducible rfl;rotate_left;simp only [P_,A_,B_,C_,i64_w,i32_w];rfl
         refine pz_ 9 62 30 975 HT_ rfl rfl (by kernel_rfl) ?_ (fun _ _ _ h => h) (by rfl) (fun w' => ?_) ?_ ?_ ?_;rotate_left;go_simp;with_reducible rfl;rotate_left;simp only [P_,A_,B_,C_,i64_w,i32_w];rfl
         refine tz_ 4 57 30 991 HT_ HW_ rfl rfl (by kernel_rfl) hHeld ?_ (fun _ _ _ h => h) (by rfl) (fun w' ⟨s0, s1, s2, s3, s4, s5, s6, s7, s8, s9, s10, s11⟩ => ?_) ?_ ?_ ?_;rotate_left;go_simp;with_reducible rfl;rotate_left;simp only [P_,A_,B_,C_,i64_w,i32_w];rfl
         refine tz_ 10 63 30 2015 HT_ HW_ rfl rfl (by kernel_rfl) hHeld ?_ (fun _ _ _ h => h) (by rfl) (fun w' ⟨s0, s1, s2, s3, s4, s5, s6, s7, s8, s9, s10, s11⟩ => ?_) ?_ ?_ ?_;rotate_left;go_simp;with_reducible rfl;rotate_left;simp only [P_,A_,B_,C_,i64_w,i32_w];rfl
         refine pz_ 11 64 30 4063 HT_ rfl rfl (by kernel_rfl) ?_ (fun _ _ _ h => h) (by rfl) (fun w' => ?_) ?_ ?_ ?_;rotate_left;go_simp;with_reducible rfl;rotate_left;simp only [P_,A_,B_,C_,i64_w,i32_w];rfl
         refine one_ (i := 5) (N := some 58) #[T_,T_,T_,T_,T_,T_,T_,T_,T_,T_,T_,T_,F_,F_,F_,F_,F_,F_,F_,F_,F_,F_,F_,F_,F_,F_,F_,F_,F_,F_] rfl rfl (one_of HT_.out (by kernel_rfl)) (by decide) (fun K hK => ?_)
         refine goes_ Tryd.func26 (by kernel_rfl) rfl #[.agg #[.int .i64 ((rd_T31 y651 x11_1).f0.f0), .int .i64 ((rd_T31 y651 x11_1).f0.f1)]] (by rfl) rfl rfl (by (try simp only [List.map_toArray, List.map_cons, List.map_nil]); first | done | rfl | (simp only [List.length_drop, List.length_take]; rfl)) ?_
         with_reducible refine (fraction_Valid.calls ((rd_T31 y651 x11_1).f0.f0) ((rd_T31 y651 x11_1).f0.f1) t655 _ A43.out).mono ?_
         rintro e w49 ⟨rfl, hb⟩
         have HS0_ := (hb.cell (World.block_lt_of_cell? _ _ (hHeld.1))).trans (hHeld.1)
         have HS1_ := (hb.cell (World.block_lt_of_cell? _ _ (hHeld.2.1))).trans (hHeld.2.1)
         have HS2_ := (hb.cell (World.block_lt_of_cell? _ _ (hHeld.2.2.1))).trans (hHeld.2.2.1)
         have HS3_ := (hb.cell (World.block_lt_of_cell? _ _ (hHeld.2.2.2.1))).trans (hHeld.2.2.2.1)
         have HS4_ := (hb.cell (World.block_lt_of_cell? _ _ (hHeld.2.2.2.2.1))).trans (hHeld.2.2.2.2.1)
         have HS5_ := (hb.cell (World.block_lt_of_cell? _ _ (hHeld.2.2.2.2.2.1))).trans (hHeld.2.2.2.2.2.1)
         have HS6_ := (hb.cell (World.block_lt_of_cell? _ _ (hHeld.2.2.2.2.2.2.1))).trans (hHeld.2.2.2.2.2.2.1)
         have HS7_ := (hb.cell (World.block_lt_of_cell? _ _ (hHeld.2.2.2.2.2.2.2.1))).trans (hHeld.2.2.2.2.2.2.2.1)
         have HS8_ := (hb.cell (World.block_lt_of_cell? _ _ (hHeld.2.2.2.2.2.2.2.2.1))).trans (hHeld.2.2.2.2.2.2.2.2.1)
         have HS9_ := (hb.cell (World.block_lt_of_cell? _ _ (hHeld.2.2.2.2.2.2.2.2.2.1))).trans (hHeld.2.2.2.2.2.2.2.2.2.1)
         have HS10_ := (hb.cell (World.block_lt_of_cell? _ _ (hHeld.2.2.2.2.2.2.2.2.2.2.1))).trans (hHeld.2.2.2.2.2.2.2.2.2.2.1)
         have HS11_ := (hb.cell (World.block_lt_of_cell? _ _ (hHeld.2.2.2.2.2.2.2.2.2.2.2))).trans (hHeld.2.2.2.2.2.2.2.2.2.2.2)
         refine ⟨_, rfl, ?_⟩
         have n0_ := Aside0.mk (Kd.R_below (by (with_reducible repeat (first | apply Kd.R_alloc | apply Kd.R_drewN | apply Kd.R_drew)); exact HO_10.out) hb)
         have n1_ := Aside0.mk (blk_below (g := gb627) (o := .cells #[.int .i64 a0_0, .int .i64 a0_1] 22 (0, 0)) (by (with_reducible repeat (first | refine blk_drewN ?_ _ | refine blk_drew ?_ | refine blk_alloc ?_ _)); exact BK627.out) hb)
         have n2_ := Aside0.mk (blk_below (g := gb628) (o := .cells #[.int .i64 a1_0, .int .i64 a1_1] 22 (0, 0)) (by (with_reducible repeat (first | refine blk_drewN ?_ _ | refine blk_drew ?_ | refine blk_alloc ?_ _)); exact BK628.out) hb)
         have n3_ := Aside0.mk (blk_below (g := gb632) (o := .cells #[.int .i64 t630, .int .i64 t631] 25 (0, 0)) (by (with_reducible repeat (first | refine blk_drewN ?_ _ | refine blk_drew ?_ | refine blk_alloc ?_ _)); exact BK632.out) hb)
         have n4_ := Aside0.mk (blk_below (g := gb635) (o := .cells #[.int .i64 t633, .int .i64 t634] 25 (0, 0)) (by (with_reducible repeat (first | refine blk_drewN ?_ _ | refine blk_drew ?_ | refine blk_alloc ?_ _)); exact BK635.out) hb)
         have n5_ := Aside0.mk (below_step (by repeat (first | (with_reducible first | exact HB.out | apply below_alloc | apply pw_below_drewN | apply below_drew1 | refine below_set ?_ GE627.out | refine below_set ?_ GE628.out | refine below_set ?_ GE632.out | refine below_set ?_ GE635.out) | exact HB.out)) hb)
         clear HO_10
         clear BK627
         clear BK628
         clear BK632
         clear BK635
         clear HB
         have HO_10 := n0_
         have BK627 := n1_
         have BK628 := n2_
         have BK632 := n3_
         have BK635 := n4_
         have HB := n5_
         clear n0_ n1_ n2_ n3_ n4_ n5_
         (try clear hb)
         (try clear hb2)
         (try clear hk)
         (try clear hi)
         (try clear A43)
         refine hK.out _ _ ⟨HS0_, HS1_, HS2_, HS3_, HS4_, HS5_, HS6_, HS7_, HS8_, HS9_, HS10_, HS11_⟩ (fun hHeld => ?_)
         clear hK K
         refine norm_ (a' := ?_) ?_ ?_
         rotate_left
         ·show Act.put _ (some 58) _ = _
          simp only [Act.put, List.setIfInBounds_toArray, List.set_cons_zero, List.set_cons_succ, i64_w, i32_w]
          rfl
         refine pz_ 12 65 30 8191 HT_ rfl rfl (by kernel_rfl) ?_ (fun _ _ _ h => h) (by rfl) (fun w' => ?_) ?_ ?_ ?_;rotate_left;go_simp;with_reducible rfl;rotate_left;simp only [P_,A_,B_,C_,i64_w,i32_w];rfl
         refine pz_ 13 66 30 16383 HT_ rfl rfl (by kernel_rfl) ?_ (fun _ _ _ h => h) (by rfl) (fun w' => ?_) ?_ ?_ ?_;rotate_left;go_simp;with_reducible rfl;rotate_left;simp only [P_,A_,B_,C_,i64_w,i32_w];rfl
         refine pz_ 14 67 30 32767 HT_ rfl rfl (by kernel_rfl) ?_ (fun _ _ _ h => h) (by rfl) (fun w' => ?_) ?_ ?_ ?_;rotate_left;go_simp;with_reducible rfl;rotate_left;simp only [P_,A_,B_,C_,i64_w,i32_w];rfl
         refine pz_ 15 68 30 65535 HT_ rfl rfl (by kernel_rfl) ?_ (fun _ _ _ h => h) (by rfl) (fun w' => ?_) ?_ ?_ ?_;rotate_left;go_simp;with_reducible rfl;rotate_left;simp only [P_,A_,B_,C_,i64_w,i32_w];rfl
         refine pz_ 16 69 30 131071 HT_ rfl rfl (by kernel_rfl) ?_ (fun _ _ _ h => h) (by rfl) (fun w' => ?_) ?_ ?_ ?_;rotate_left;go_simp;with_reducible rfl;rotate_left;simp only [P_,A_,B_,C_,i64_w,i32_w];rfl
         refine pz_ 17 70 30 262143 HT_ rfl rfl (by kernel_rfl) ?_ (fun _ _ _ h => h) (by rfl) (fun w' => ?_) ?_ ?_ ?_;rotate_left;go_simp;with_reducible rfl;rotate_left;simp only [P_,A_,B_,C_,i64_w,i32_w];rfl
         refine tz_ 18 71 30 524287 HT_ HW_ rfl rfl (by kernel_rfl) hHeld ?_ (fun _ _ _ h => h) (by rfl) (fun w' ⟨s0, s1, s2, s3, s4, s5, s6, s7, s8, s9, s10, s11⟩ => ?_) ?_ ?_ ?_;rotate_left;go_simp;with_reducible rfl;rotate_left;simp only [P_,A_,B_,C_,i64_w,i32_w];rfl
         refine pz_ 19 72 30 1048575 HT_ rfl rfl (by kernel_rfl) ?_ (fun _ _ _ h => h) (by rfl) (fun w' => ?_) ?_ ?_ ?_;rotate_left;go_simp;with_reducible rfl;rotate_left;simp only [P_,A_,B_,C_,i64_w,i32_w];rfl
         refine pz_ 20 73 30 2097151 HT_ rfl rfl (by kernel_rfl) ?_ (fun _ _ _ h => h) (by rfl) (fun w' => ?_) ?_ ?_ ?_;rotate_left;go_simp;with_reducible rfl;rotate_left;simp only [P_,A_,B_,C_,i64_w,i32_w];rfl
         refine pz_ 21 74 30 4194303 HT_ rfl rfl (by kernel_rfl) ?_ (fun _ _ _ h => h) (by rfl) (fun w' => ?_) ?_ ?_ ?_;rotate_left;go_simp;with_reducible rfl;rotate_left;simp only [P_,A_,B_,C_,i64_w,i32_w];rfl
         refine pz_ 22 75 30 8388607 HT_ rfl rfl (by kernel_rfl) ?_ (fun _ _ _ h => h) (by rfl) (fun w' => ?_) ?_ ?_ ?_;rotate_left;go_simp;with_reducible rfl;rotate_left;simp only [P_,A_,B_,C_,i64_w,i32_w];rfl
         refine pz_ 23 76 30 16777215 HT_ rfl rfl (by kernel_rfl) ?_ (fun _ _ _ h => h) (by rfl) (fun w' => ?_) ?_ ?_ ?_;rotate_left;go_simp;with_reducible rfl;rotate_left;simp only [P_,A_,B_,C_,i64_w,i32_w];rfl
         refine pz_ 24 77 30 33554431 HT_ rfl rfl (by kernel_rfl) ?_ (fun _ _ _ h => h) (by rfl) (fun w' => ?_) ?_ ?_ ?_;rotate_left;go_simp;with_reducible rfl;rotate_left;simp only [P_,A_,B_,C_,i64_w,i32_w];rfl
         refine pz_ 26 79 30 100663295 HT_ rfl rfl (by kernel_rfl) ?_ (fun _ _ _ h => h) (by rfl) (fun w' => ?_) ?_ ?_ ?_;rotate_left;go_simp;with_reducible rfl;rotate_left;simp only [P_,A_,B_,C_,i64_w,i32_w];rfl
         refine tz_ 25 78 30 134217727 HT_ HW_ rfl rfl (by kernel_rfl) hHeld ?_ (fun _ _ _ h => h) (by rfl) (fun w' ⟨s0, s1, s2, s3, s4, s5, s6, s7, s8, s9, s10, s11⟩ => ?_) ?_ ?_ ?_;rotate_left;go_simp;with_reducible rfl;rotate_left;simp only [P_,A_,B_,C_,i64_w,i32_w];rfl
         refine pz_ 27 80 30 268435455 HT_ rfl rfl (by kernel_rfl) ?_ (fun _ _ _ h => h) (by rfl) (fun w' => ?_) ?_ ?_ ?_;rotate_left;go_simp;with_reducible rfl;rotate_left;simp only [P_,A_,B_,C_,i64_w,i32_w];rfl
         refine pz_ 28 81 30 536870911 HT_ rfl rfl (by kernel_rfl) ?_ (fun _ _ _ h => h) (by rfl) (fun w' => ?_) ?_ ?_ ?_;rotate_left;go_simp;with_reducible rfl;rotate_left;simp only [P_,A_,B_,C_,i64_w,i32_w];rfl
         refine pz_ 29 82 30 1073741823 HT_ rfl rfl (by kernel_rfl) ?_ (fun _ _ _ h => h) (by rfl) (fun w' => ?_) ?_ ?_ ?_;rotate_left;go_simp;with_reducible rfl;rotate_left;simp only [P_,A_,B_,C_,i64_w,i32_w];rfl
         refine done_ (done_of HT_.out (by kernel_rfl)) ?_
         try go_wp2
         go_meet
         case rel => exact ⟨_, ((!(((rd_T31 y651 x11_1).f0.f0) == 0) || (!(((rd_T31 y651 x11_1).f0.f1) == 0)))), (by first | rfl | (simp; done) | (simp [*]; done)), H', ⟨by have := HK1.out; first | omega | exact Nat.le_refl _⟩, ⟨by (with_reducible repeat (first | apply Kd.R_alloc | apply Kd.R_drewN | apply Kd.R_drew)); exact HO_10.out⟩, ⟨by (with_reducible repeat (first | refine blk_drewN ?_ _ | refine blk_drew ?_ | refine blk_alloc ?_ _)); exact BK627.out⟩, ⟨by (with_reducible repeat (first | refine blk_drewN ?_ _ | refine blk_drew ?_ | refine blk_alloc ?_ _)); exact BK628.out⟩, ⟨by (with_reducible repeat (first | refine blk_drewN ?_ _ | refine blk_drew ?_ | refine blk_alloc ?_ _)); exact BK632.out⟩, ⟨by (with_reducible repeat (first | refine blk_drewN ?_ _ | refine blk_drew ?_ | refine blk_alloc ?_ _)); exact BK635.out⟩, ⟨by repeat (first | (with_reducible first | exact HB.out | apply below_alloc | apply pw_below_drewN | apply below_drew1 | refine below_set ?_ GE627.out | refine below_set ?_ GE628.out | refine below_set ?_ GE632.out | refine below_set ?_ GE635.out) | exact HB.out)⟩⟩
      ·rw [if_neg c42] at H
       exact absurd H (by simp)
     case rest =>
      clear HC40
      try clear c2
      try clear p2
      try clear c4
      try clear p6
      try clear q6
      try clear hx6
      try clear c26
      try clear c42
      try clear c45
      try clear c45b0
      try clear c45b1
      try clear hx654_0
      try clear hx654_1
      try clear hx654_2
      try clear hx656_0
      try clear hx656_1
      try clear hx656_2
      try clear hx657_0
      try clear hx657_1
      try clear hx657_2
      try clear hx658_0
      try clear hx658_1
      try clear hx658_2
      try clear p654
      try clear p656
      try clear p657
      try clear p658
      try clear q654
      try clear q656
      try clear q657
      try clear q658
      obtain ⟨kq, x82_39, rfl, HA, HJ39, HO_10, BK627, BK628, BK632, BK635, HB⟩ := hcut
      cases kq with
      | zero => exact absurd HA.out (by simp [wireloomlaw02_FractionCanonical.j1])
      | succ kj39 =>
       have H := HA.out
       clear HA
       simp only [wireloomlaw02_FractionCanonical.j1] at H
       by_cases c50 : x82_39 = true
       ·subst c50
        have H1 : (some false) = some true := by rw [if_pos rfl] at H; exact H
        clear H
        have H := H1
        clear H1
        exact absurd H (by decide)
       ·replace c50 := Bool.eq_false_iff.mpr c50
        subst c50
        have H1 : (wireloomlaw02_FractionCanonical.l0 kj39 a2 true y651 (wrap64 (x11_1 + 1)) a0_0 a0_1) = some true := by rw [if_neg (show ¬ (false = true) by decide)] at H; exact H
        clear H
        have H := H1
        clear H1
        have H' := Aside0.mk H
        clear H
        go_wp2
        go_roundg kj39
        case measure => have := HK1.out; have := HJ39.out; omega
        case rel => exact ⟨(wrap64 (x11_1 + 1)), (by first | rfl | (simp; done) | (simp [*]; done)), H', ⟨by have := HK1.out; have := HJ39.out; omega⟩, ⟨by (with_reducible repeat (first | apply Kd.R_alloc | apply Kd.R_drewN | apply Kd.R_drew)); exact HO_10.out⟩, ⟨by (with_reducible repeat (first | refine blk_drewN ?_ _ | refine blk_drew ?_ | refine blk_alloc ?_ _)); exact BK627.out⟩, ⟨by (with_reducible repeat (first | refine blk_drewN ?_ _ | refine blk_drew ?_ | refine blk_alloc ?_ _)); exact BK628.out⟩, ⟨by (with_reducible repeat (first | refine blk_drewN ?_ _ | refine blk_drew ?_ | refine blk_alloc ?_ _)); exact BK632.out⟩, ⟨by (with_reducible repeat (first | refine blk_drewN ?_ _ | refine blk_drew ?_ | refine blk_alloc ?_ _)); exact BK635.out⟩, ⟨by repeat (first | (with_reducible first | exact HB.out | apply below_alloc | apply pw_below_drewN | apply below_drew1 | refine below_set ?_ GE627.out | refine below_set ?_ GE628.out | refine below_set ?_ GE632.out | refine below_set ?_ GE635.out) | exact HB.out)⟩⟩
    ·rw [if_neg c39] at H
     have c39b0 : decide (x11_1 < (y651.length : Int)) = false := decide_eq_false c39
     clear c39
     have HC51 := Aside0.mk H
     clear H
     obtain ⟨Ao52, co52, eo52⟩ := Kd.R_slice HO_10.out
     subst eo52
     have hnb53 := NB627_628.out
     have hnc53 := NB628_627.out
     have hnb54 := NB627_632.out
     have hnc54 := NB632_627.out
     have hnb55 := NB627_635.out
     have hnc55 := NB635_627.out
     have hcz56_0 : wr.cell? ⟨gb627, 0, none⟩ = some (.int .i64 a0_0) := (blk_cell BK627.out 0).trans rfl
     have hcz56_1 : wr.cell? ⟨gb627, 1, none⟩ = some (.int .i64 a0_1) := (blk_cell BK627.out 1).trans rfl
     have hfz56_0 := blk_frozen BK627.out 0
     have hfz56_1 := blk_frozen BK627.out 1
     go_upto_region 14 with (fail)
     go_cut [94] (fun v94 wc => ∃ (kq : Nat) (x94_50 : Bool), v94 = .bool x94_50 ∧ Aside0 (wireloomlaw02_FractionCanonical.j2 kq a2 true (Int.tmod a0_0 1073741824) (Int.tmod a0_1 1073741824) x94_50 = some true) ∧ Aside0 (kq ≤ k1) ∧ Aside0 (wc.heap[gb627]? = some (.cells #[.int .i64 a0_0, .int .i64 a0_1] 22 (0, 0))) ∧ Aside0 (wc.heap[gb628]? = some (.cells #[.int .i64 a1_0, .int .i64 a1_1] 22 (0, 0))) ∧ Aside0 (wc.heap[gb632]? = some (.cells #[.int .i64 t630, .int .i64 t631] 25 (0, 0))) ∧ Aside0 (wc.heap[gb635]? = some (.cells #[.int .i64 t633, .int .i64 t634] 25 (0, 0))) ∧ Aside0 (Below w.heap.size w wc))
     case first =>
      have H := HC51.out
      clear HC51
      by_cases c57 : (Int.tmod a0_1 1073741824) = 0
      ·rw [if_pos c57] at H
       have c57b0 : ((Int.tmod a0_1 1073741824) == 0) = true := beq_iff_eq.mpr c57
       have c57b1 : ((Int.tmod a0_1 1073741824) != 0) = false := bne_eq_false_iff_eq.mpr c57
       clear c57
       (first | rw [c57b0] | (simp only [i64_w, i32_w]; rw [c57b0]) | skip)
       have H' := Aside0.mk H
       clear H
       go_wp2
       go_meet
       case rel => exact ⟨_, (true), (by first | rfl | (simp; done) | (simp [*]; done)), H', ⟨by have := HK1.out; first | omega | exact Nat.le_refl _⟩, ⟨by (with_reducible repeat (first | refine blk_drewN ?_ _ | refine blk_drew ?_ | refine blk_alloc ?_ _)); exact BK627.out⟩, ⟨by (with_reducible repeat (first | refine blk_drewN ?_ _ | refine blk_drew ?_ | refine blk_alloc ?_ _)); exact BK628.out⟩, ⟨by (with_reducible repeat (first | refine blk_drewN ?_ _ | refine blk_drew ?_ | refine blk_alloc ?_ _)); exact BK632.out⟩, ⟨by (with_reducible repeat (first | refine blk_drewN ?_ _ | refine blk_drew ?_ | refine blk_alloc ?_ _)); exact BK635.out⟩, ⟨by repeat (first | (with_reducible first | exact HB.out | apply below_alloc | apply pw_below_drewN | apply below_drew1 | refine below_set ?_ GE627.out | refine below_set ?_ GE628.out | refine below_set ?_ GE632.out | refine below_set ?_ GE635.out) | exact HB.out)⟩⟩
      ·rw [if_neg c57] at H
       have c57b0 : ((Int.tmod a0_1 1073741824) == 0) = false := beq_eq_false_iff_ne.mpr c57
       have c57b1 : ((Int.tmod a0_1 1073741824) != 0) = true := bne_iff_ne.mpr c57
       (first | rw [c57b0] | (simp only [i64_w, i32_w]; rw [c57b0]) | skip)
       have H' := Aside0.mk H
       clear H
       go_wp2
       go_meet
       case rel => exact ⟨_, ((a2 == 0)), (by first | rfl | (simp; done) | (simp [*]; done)), H', ⟨by have := HK1.out; first | omega | exact Nat.le_refl _⟩, ⟨by (with_reducible repeat (first | refine blk_drewN ?_ _ | refine blk_drew ?_ | refine blk_alloc ?_ _)); exact BK627.out⟩, ⟨by (with_reducible repeat (first | refine blk_drewN ?_ _ | refine blk_drew ?_ | refine blk_alloc ?_ _)); exact BK628.out⟩, ⟨by (with_reducible repeat (first | refine blk_drewN ?_ _ | refine blk_drew ?_ | refine blk_alloc ?_ _)); exact BK632.out⟩, ⟨by (with_reducible repeat (first | refine blk_drewN ?_ _ | refine blk_drew ?_ | refine blk_alloc ?_ _)); exact BK635.out⟩, ⟨by repeat (first | (with_reducible first | exact HB.out | apply below_alloc | apply pw_below_drewN | apply below_drew1 | refine below_set ?_ GE627.out | refine below_set ?_ GE628.out | refine below_set ?_ GE632.out | refine below_set ?_ GE635.out) | exact HB.out)⟩⟩
     case rest =>
      clear HC51
      try clear c2
      try clear p2
      try clear c3
      try clear c4
      try clear c5
      try clear p6
      try clear q6
      try clear hx6
      try clear c26
      try clear c39
      try clear c39b0
      try clear c42
      try clear c45
      try clear c45b0
      try clear c45b1
      try clear c50
      try clear c53
      try clear c54
      try clear c55
      try clear c57
      try clear c57b0
      try clear c57b1
      try clear hcz56_0
      try clear hcz56_1
      try clear hfz56_0
      try clear hfz56_1
      try clear hx654_0
      try clear hx654_1
      try clear hx654_2
      try clear hx656_0
      try clear hx656_1
      try clear hx656_2
      try clear hx657_0
      try clear hx657_1
      try clear hx657_2
      try clear hx658_0
      try clear hx658_1
      try clear hx658_2
      try clear p2
      try clear p6
      try clear p654
      try clear p656
      try clear p657
      try clear p658
      try clear q6
      try clear q654
      try clear q656
      try clear q657
      try clear q658
      obtain ⟨kq, x94_50, rfl, HA, HJ50, BK627, BK628, BK632, BK635, HB⟩ := hcut
      cases kq with
      | zero => exact absurd HA.out (by simp [wireloomlaw02_FractionCanonical.j2])
      | succ kj50 =>
       have H := HA.out
       clear HA
       simp only [wireloomlaw02_FractionCanonical.j2] at H
       by_cases c58 : x94_50 = true
       ·subst c58
        have H1 : (some true) = some true := rfl
        clear H
        have H := H1
        clear H1
        have Hr_ := Option.some.inj H
        (try subst Hr_)
        go_wp2
        go_ret
        exact ⟨by first | rfl | (simp [errW_none, errW_some] <;> rfl) | (simp [*, errW_none, errW_some] <;> rfl), by repeat (first | (with_reducible first | exact HB.out | apply below_alloc | apply pw_below_drewN | apply below_drew1 | refine below_set ?_ GE627.out | refine below_set ?_ GE628.out | refine below_set ?_ GE632.out | refine below_set ?_ GE635.out) | exact HB.out)⟩
       ·replace c58 := Bool.eq_false_iff.mpr c58
        subst c58
        have H1 : ((wireloomlaw02_created.f kj50 (Int.tmod a0_0 1073741824) (Int.tmod a0_1 1073741824)).bind fun bt659 => ((wireloomlaw02_created.f kj50 (wrap64 ((Int.tmod a0_0 1073741824) * (wrap64 (a2)))) (wrap64 ((Int.tmod a0_1 1073741824) * (wrap64 (a2))))).bind fun bt663 => (if true = true then (if bt659.2.2 = 0 then (if ((bt659.1 == bt663.1 && (bt659.2.1 == bt663.2.1)) && (bt659.2.2 == bt663.2.2)) = true then (some ((wrap64 (bt659.1 * (Int.tmod a0_1 1073741824))) == (wrap64 (bt659.2.1 * (Int.tmod a0_0 1073741824))))) else (some false)) else (some false)) else (some false)))) = some true := by rw [if_neg (show ¬ (false = true) by decide)] at H; exact H
        clear H
        have H := H1
        clear H1
        replace H := Option.bind_eq_some_iff.mp H
        obtain ⟨⟨t659, t660, t661⟩, A590, H⟩ := H
        replace H : ((wireloomlaw02_created.f kj50 (wrap64 ((Int.tmod a0_0 1073741824) * (wrap64 (a2)))) (wrap64 ((Int.tmod a0_1 1073741824) * (wrap64 (a2))))).bind fun bt663 => (if true = true then (if t661 = 0 then (if ((t659 == bt663.1 && (t660 == bt663.2.1)) && (t661 == bt663.2.2)) = true then (some ((wrap64 (t659 * (Int.tmod a0_1 1073741824))) == (wrap64 (t660 * (Int.tmod a0_0 1073741824))))) else (some false)) else (some false)) else (some false))) = some true := H
        have A59 := Aside0.mk A590
        clear A590
        replace H := Option.bind_eq_some_iff.mp H
        obtain ⟨⟨t663, t664, t665⟩, A600, H⟩ := H
        replace H : (if true = true then (if t661 = 0 then (if ((t659 == t663 && (t660 == t664)) && (t661 == t665)) = true then (some ((wrap64 (t659 * (Int.tmod a0_1 1073741824))) == (wrap64 (t660 * (Int.tmod a0_0 1073741824))))) else (some false)) else (some false)) else (some false)) = some true := H
        have A60 := Aside0.mk A600
        clear A600
        have H1 : (if t661 = 0 then (if ((t659 == t663 && (t660 == t664)) && (t661 == t665)) = true then (some ((wrap64 (t659 * (Int.tmod a0_1 1073741824))) == (wrap64 (t660 * (Int.tmod a0_0 1073741824))))) else (some false)) else (some false)) = some true := by rw [if_pos rfl] at H; exact H
        clear H
        have H := H1
        clear H1
        by_cases c61 : t661 = 0
        ·rw [if_pos c61] at H
         have c61b0 : (t661 == 0) = true := beq_iff_eq.mpr c61
         have c61b1 : (t661 != 0) = false := bne_eq_false_iff_eq.mpr c61
         clear c61
         by_cases c62 : ((t659 == t663 && (t660 == t664)) && (t661 == t665)) = true
         ·rw [if_pos c62] at H
          have c62b0 : ((t659 == t663 && (t660 == t664)) && (t661 == t665)) = true := c62
          clear c62
          have Hr_ := Option.some.inj H
          (try subst Hr_)
          go_wp2_with (first | ((with_reducible refine gate_callee (f := 25) rfl ?_); refine goesL_ (some 98) rfl rfl Tryd.func25 (by kernel_rfl) rfl #[.int .i64 (Int.tmod a0_0 1073741824), .int .i64 (Int.tmod a0_1 1073741824)] rfl (by (try simp only [List.map_toArray, List.map_cons, List.map_nil]); first | done | rfl | (simp only [List.length_drop, List.length_take]; rfl)) ?_; (with_reducible refine (wireloomlaw02_created.calls kj50 (Int.tmod a0_0 1073741824) (Int.tmod a0_1 1073741824) t659 t660 t661 _ A59.out).mono ?_); rintro e w63 ⟨rfl, hb⟩; refine ⟨_, rfl, ?_⟩; have n0_ := Aside0.mk (blk_below (g := gb627) (o := .cells #[.int .i64 a0_0, .int .i64 a0_1] 22 (0, 0)) (by (with_reducible repeat (first | refine blk_drewN ?_ _ | refine blk_drew ?_ | refine blk_alloc ?_ _)); exact BK627.out) hb); have n1_ := Aside0.mk (blk_below (g := gb628) (o := .cells #[.int .i64 a1_0, .int .i64 a1_1] 22 (0, 0)) (by (with_reducible repeat (first | refine blk_drewN ?_ _ | refine blk_drew ?_ | refine blk_alloc ?_ _)); exact BK628.out) hb); have n2_ := Aside0.mk (blk_below (g := gb632) (o := .cells #[.int .i64 t630, .int .i64 t631] 25 (0, 0)) (by (with_reducible repeat (first | refine blk_drewN ?_ _ | refine blk_drew ?_ | refine blk_alloc ?_ _)); exact BK632.out) hb); have n3_ := Aside0.mk (blk_below (g := gb635) (o := .cells #[.int .i64 t633, .int .i64 t634] 25 (0, 0)) (by (with_reducible repeat (first | refine blk_drewN ?_ _ | refine blk_drew ?_ | refine blk_alloc ?_ _)); exact BK635.out) hb); have n4_ := Aside0.mk (below_step (by repeat (first | (with_reducible first | exact HB.out | apply below_alloc | apply pw_below_drewN | apply below_drew1 | refine below_set ?_ GE627.out | refine below_set ?_ GE628.out | refine below_set ?_ GE632.out | refine below_set ?_ GE635.out) | exact HB.out)) hb); clear BK627; clear BK628; clear BK632; clear BK635; clear HB; have BK627 := n0_; have BK628 := n1_; have BK632 := n2_; have BK635 := n3_; have HB := n4_; clear n0_ n1_ n2_ n3_ n4_; (try clear hb); (try clear hb2); (try clear hk); (try clear hi); (try clear A59)) | ((with_reducible refine gate_dst (N := 14) rfl ?_); refine box_event ?hg (N := 14) ?hd (cs := #[.int .i64 0, .int .i64 0, .int .i64 0]) (t := 31) ?hr ?_; (case hd => rfl); (case hg => rfl); (case hr => first | (go_simp; done) | (go_simp; rfl)); intro gb662 hg w64 hbox hb; have n0_ := Aside0.mk (blk_below (g := gb627) (o := .cells #[.int .i64 a0_0, .int .i64 a0_1] 22 (0, 0)) (by (with_reducible repeat (first | refine blk_drewN ?_ _ | refine blk_drew ?_ | refine blk_alloc ?_ _)); exact BK627.out) hb); have n1_ := Aside0.mk (blk_below (g := gb628) (o := .cells #[.int .i64 a1_0, .int .i64 a1_1] 22 (0, 0)) (by (with_reducible repeat (first | refine blk_drewN ?_ _ | refine blk_drew ?_ | refine blk_alloc ?_ _)); exact BK628.out) hb); have n2_ := Aside0.mk (blk_below (g := gb632) (o := .cells #[.int .i64 t630, .int .i64 t631] 25 (0, 0)) (by (with_reducible repeat (first | refine blk_drewN ?_ _ | refine blk_drew ?_ | refine blk_alloc ?_ _)); exact BK632.out) hb); have n3_ := Aside0.mk (blk_below (g := gb635) (o := .cells #[.int .i64 t633, .int .i64 t634] 25 (0, 0)) (by (with_reducible repeat (first | refine blk_drewN ?_ _ | refine blk_drew ?_ | refine blk_alloc ?_ _)); exact BK635.out) hb); have n4_ := Aside0.mk (below_step (by repeat (first | (with_reducible first | exact HB.out | apply below_alloc | apply pw_below_drewN | apply below_drew1 | refine below_set ?_ GE627.out | refine below_set ?_ GE628.out | refine below_set ?_ GE632.out | refine below_set ?_ GE635.out) | exact HB.out)) hb); have n5_ := Aside0.mk (hbox); have n6_ := Aside0.mk ((by rw [hg]; exact (below_size (by repeat (first | (with_reducible first | exact HB.out | apply below_alloc | apply pw_below_drewN | apply below_drew1 | refine below_set ?_ GE627.out | refine below_set ?_ GE628.out | refine below_set ?_ GE632.out | refine below_set ?_ GE635.out) | exact HB.out))) : w.heap.size ≤ gb662)); have n7_ := Aside0.mk ((by rw [hg]; exact (below_size (by repeat (first | (with_reducible first | exact HB.out | apply below_alloc | apply pw_below_drewN | apply below_drew1 | refine below_set ?_ GE627.out | refine below_set ?_ GE628.out | refine below_set ?_ GE632.out | refine below_set ?_ GE635.out) | exact HB.out))) : w.heap.size ≤ gb662)); have n8_ := Aside0.mk ((by rw [hg]; exact Nat.ne_of_lt (blk_lt (g := gb627) (o := .cells #[.int .i64 a0_0, .int .i64 a0_1] 22 (0, 0)) (by (with_reducible repeat (first | refine blk_drewN ?_ _ | refine blk_drew ?_ | refine blk_alloc ?_ _)); exact BK627.out)) : gb627 ≠ gb662)); have n9_ := Aside0.mk ((by rw [hg]; exact Nat.ne_of_gt (blk_lt (g := gb627) (o := .cells #[.int .i64 a0_0, .int .i64 a0_1] 22 (0, 0)) (by (with_reducible repeat (first | refine blk_drewN ?_ _ | refine blk_drew ?_ | refine blk_alloc ?_ _)); exact BK627.out)) : gb662 ≠ gb627)); have n10_ := Aside0.mk ((by rw [hg]; exact Nat.ne_of_lt (blk_lt (g := gb628) (o := .cells #[.int .i64 a1_0, .int .i64 a1_1] 22 (0, 0)) (by (with_reducible repeat (first | refine blk_drewN ?_ _ | refine blk_drew ?_ | refine blk_alloc ?_ _)); exact BK628.out)) : gb628 ≠ gb662)); have n11_ := Aside0.mk ((by rw [hg]; exact Nat.ne_of_gt (blk_lt (g := gb628) (o := .cells #[.int .i64 a1_0, .int .i64 a1_1] 22 (0, 0)) (by (with_reducible repeat (first | refine blk_drewN ?_ _ | refine blk_drew ?_ | refine blk_alloc ?_ _)); exact BK628.out)) : gb662 ≠ gb628)); have n12_ := Aside0.mk ((by rw [hg]; exact Nat.ne_of_lt (blk_lt (g := gb632) (o := .cells #[.int .i64 t630, .int .i64 t631] 25 (0, 0)) (by (with_reducible repeat (first | refine blk_drewN ?_ _ | refine blk_drew ?_ | refine blk_alloc ?_ _)); exact BK632.out)) : gb632 ≠ gb662)); have n13_ := Aside0.mk ((by rw [hg]; exact Nat.ne_of_gt (blk_lt (g := gb632) (o := .cells #[.int .i64 t630, .int .i64 t631] 25 (0, 0)) (by (with_reducible repeat (first | refine blk_drewN ?_ _ | refine blk_drew ?_ | refine blk_alloc ?_ _)); exact BK632.out)) : gb662 ≠ gb632)); have n14_ := Aside0.mk ((by rw [hg]; exact Nat.ne_of_lt (blk_lt (g := gb635) (o := .cells #[.int .i64 t633, .int .i64 t634] 25 (0, 0)) (by (with_reducible repeat (first | refine blk_drewN ?_ _ | refine blk_drew ?_ | refine blk_alloc ?_ _)); exact BK635.out)) : gb635 ≠ gb662)); have n15_ := Aside0.mk ((by rw [hg]; exact Nat.ne_of_gt (blk_lt (g := gb635) (o := .cells #[.int .i64 t633, .int .i64 t634] 25 (0, 0)) (by (with_reducible repeat (first | refine blk_drewN ?_ _ | refine blk_drew ?_ | refine blk_alloc ?_ _)); exact BK635.out)) : gb662 ≠ gb635)); clear BK627; clear BK628; clear BK632; clear BK635; clear HB; have BK627 := n0_; have BK628 := n1_; have BK632 := n2_; have BK635 := n3_; have HB := n4_; have BK662 := n5_; have GW662 := n6_; have GE662 := n7_; have NB627_662 := n8_; have NB662_627 := n9_; have NB628_662 := n10_; have NB662_628 := n11_; have NB632_662 := n12_; have NB662_632 := n13_; have NB635_662 := n14_; have NB662_635 := n15_; clear n0_ n1_ n2_ n3_ n4_ n5_ n6_ n7_ n8_ n9_ n10_ n11_ n12_ n13_ n14_ n15_; clear hb hbox hg; have hnb65 := NB662_627.out; have hnc65 := NB627_662.out; have hnb66 := NB662_628.out; have hnc66 := NB628_662.out; have hnb67 := NB662_632.out; have hnc67 := NB632_662.out; have hnb68 := NB662_635.out; have hnc68 := NB635_662.out; have hcz69_0 : w64.cell? ⟨gb662, 0, none⟩ = some (.int .i64 0) := (blk_cell BK662.out 0).trans rfl; have hcz69_1 : w64.cell? ⟨gb662, 1, none⟩ = some (.int .i64 0) := (blk_cell BK662.out 1).trans rfl; have hcz69_2 : w64.cell? ⟨gb662, 2, none⟩ = some (.int .i64 0) := (blk_cell BK662.out 2).trans rfl; have hfz69_0 := blk_frozen BK662.out 0; have hfz69_1 := blk_frozen BK662.out 1; have hfz69_2 := blk_frozen BK662.out 2) | ((with_reducible refine gate_callee (f := 25) rfl ?_); refine goesL_ (some 107) rfl rfl Tryd.func25 (by kernel_rfl) rfl #[.int .i64 (wrap64 ((Int.tmod a0_0 1073741824) * (wrap64 (a2)))), .int .i64 (wrap64 ((Int.tmod a0_1 1073741824) * (wrap64 (a2))))] rfl (by (try simp only [List.map_toArray, List.map_cons, List.map_nil]); first | done | rfl | (simp only [List.length_drop, List.length_take]; rfl)) ?_; (with_reducible refine (wireloomlaw02_created.calls kj50 (wrap64 ((Int.tmod a0_0 1073741824) * (wrap64 (a2)))) (wrap64 ((Int.tmod a0_1 1073741824) * (wrap64 (a2)))) t663 t664 t665 _ A60.out).mono ?_); rintro e w70 ⟨rfl, hb⟩; refine ⟨_, rfl, ?_⟩; have n0_ := Aside0.mk (blk_below (g := gb627) (o := .cells #[.int .i64 a0_0, .int .i64 a0_1] 22 (0, 0)) (by repeat first | (with_reducible first | refine blk_drewN ?_ _ | refine blk_drew ?_ | refine blk_alloc ?_ _) | refine blk_far ?_ NB627_662.out _ | exact BK627.out) hb); have n1_ := Aside0.mk (blk_below (g := gb628) (o := .cells #[.int .i64 a1_0, .int .i64 a1_1] 22 (0, 0)) (by repeat first | (with_reducible first | refine blk_drewN ?_ _ | refine blk_drew ?_ | refine blk_alloc ?_ _) | refine blk_far ?_ NB628_662.out _ | exact BK628.out) hb); have n2_ := Aside0.mk (blk_below (g := gb632) (o := .cells #[.int .i64 t630, .int .i64 t631] 25 (0, 0)) (by repeat first | (with_reducible first | refine blk_drewN ?_ _ | refine blk_drew ?_ | refine blk_alloc ?_ _) | refine blk_far ?_ NB632_662.out _ | exact BK632.out) hb); have n3_ := Aside0.mk (blk_below (g := gb635) (o := .cells #[.int .i64 t633, .int .i64 t634] 25 (0, 0)) (by repeat first | (with_reducible first | refine blk_drewN ?_ _ | refine blk_drew ?_ | refine blk_alloc ?_ _) | refine blk_far ?_ NB635_662.out _ | exact BK635.out) hb); have n4_ := Aside0.mk (blk_below (g := gb662) (o := .cells #[.int .i64 t659, .int .i64 t660, .int .i64 t661] 31 (0, 0)) (by (with_reducible repeat (first | refine blk_drewN ?_ _ | refine blk_drew ?_ | refine blk_alloc ?_ _)); refine blk_put (cs := #[.int .i64 t659, .int .i64 t660, .int .i64 0]) ?_ 2 _ rfl; (with_reducible repeat (first | refine blk_drewN ?_ _ | refine blk_drew ?_ | refine blk_alloc ?_ _)); refine blk_put (cs := #[.int .i64 t659, .int .i64 0, .int .i64 0]) ?_ 1 _ rfl; (with_reducible repeat (first | refine blk_drewN ?_ _ | refine blk_drew ?_ | refine blk_alloc ?_ _)); refine blk_put (cs := #[.int .i64 0, .int .i64 0, .int .i64 0]) ?_ 0 _ rfl; (with_reducible repeat (first | refine blk_drewN ?_ _ | refine blk_drew ?_ | refine blk_alloc ?_ _)); exact BK662.out) hb); have n5_ := Aside0.mk (below_step (by repeat (first | (with_reducible first | exact HB.out | apply below_alloc | apply pw_below_drewN | apply below_drew1 | refine below_set ?_ GE627.out | refine below_set ?_ GE628.out | refine below_set ?_ GE632.out | refine below_set ?_ GE635.out | refine below_set ?_ GE662.out) | exact HB.out)) hb); clear BK627; clear BK628; clear BK632; clear BK635; clear BK662; clear HB; have BK627 := n0_; have BK628 := n1_; have BK632 := n2_; have BK635 := n3_; have BK662 := n4_; have HB := n5_; clear n0_ n1_ n2_ n3_ n4_ n5_; (try clear hb); (try clear hb2); (try clear hk); (try clear hi); (try clear A60)) | ((with_reducible refine gate_dst (N := 15) rfl ?_); refine box_event ?hg (N := 15) ?hd (cs := #[.int .i64 0, .int .i64 0, .int .i64 0]) (t := 31) ?hr ?_; (case hd => rfl); (case hg => rfl); (case hr => first | (go_simp; done) | (go_simp; rfl)); intro gb666 hg w71 hbox hb; have n0_ := Aside0.mk (blk_below (g := gb627) (o := .cells #[.int .i64 a0_0, .int .i64 a0_1] 22 (0, 0)) (by (with_reducible repeat (first | refine blk_drewN ?_ _ | refine blk_drew ?_ | refine blk_alloc ?_ _)); exact BK627.out) hb); have n1_ := Aside0.mk (blk_below (g := gb628) (o := .cells #[.int .i64 a1_0, .int .i64 a1_1] 22 (0, 0)) (by (with_reducible repeat (first | refine blk_drewN ?_ _ | refine blk_drew ?_ | refine blk_alloc ?_ _)); exact BK628.out) hb); have n2_ := Aside0.mk (blk_below (g := gb632) (o := .cells #[.int .i64 t630, .int .i64 t631] 25 (0, 0)) (by (with_reducible repeat (first | refine blk_drewN ?_ _ | refine blk_drew ?_ | refine blk_alloc ?_ _)); exact BK632.out) hb); have n3_ := Aside0.mk (blk_below (g := gb635) (o := .cells #[.int .i64 t633, .int .i64 t634] 25 (0, 0)) (by (with_reducible repeat (first | refine blk_drewN ?_ _ | refine blk_drew ?_ | refine blk_alloc ?_ _)); exact BK635.out) hb); have n4_ := Aside0.mk (blk_below (g := gb662) (o := .cells #[.int .i64 t659, .int .i64 t660, .int .i64 t661] 31 (0, 0)) (by (with_reducible repeat (first | refine blk_drewN ?_ _ | refine blk_drew ?_ | refine blk_alloc ?_ _)); exact BK662.out) hb); have n5_ := Aside0.mk (below_step (by repeat (first | (with_reducible first | exact HB.out | apply below_alloc | apply pw_below_drewN | apply below_drew1 | refine below_set ?_ GE627.out | refine below_set ?_ GE628.out | refine below_set ?_ GE632.out | refine below_set ?_ GE635.out | refine below_set ?_ GE662.out) | exact HB.out)) hb); have n6_ := Aside0.mk (hbox); have n7_ := Aside0.mk ((by rw [hg]; exact (below_size (by repeat (first | (with_reducible first | exact HB.out | apply below_alloc | apply pw_below_drewN | apply below_drew1 | refine below_set ?_ GE627.out | refine below_set ?_ GE628.out | refine below_set ?_ GE632.out | refine below_set ?_ GE635.out | refine below_set ?_ GE662.out) | exact HB.out))) : w.heap.size ≤ gb666)); have n8_ := Aside0.mk ((by rw [hg]; exact (below_size (by repeat (first | (with_reducible first | exact HB.out | apply below_alloc | apply pw_below_drewN | apply below_drew1 | refine below_set ?_ GE627.out | refine below_set ?_ GE628.out | refine below_set ?_ GE632.out | refine below_set ?_ GE635.out | refine below_set ?_ GE662.out) | exact HB.out))) : w.heap.size ≤ gb666)); have n9_ := Aside0.mk ((by rw [hg]; exact Nat.ne_of_lt (blk_lt (g := gb627) (o := .cells #[.int .i64 a0_0, .int .i64 a0_1] 22 (0, 0)) (by (with_reducible repeat (first | refine blk_drewN ?_ _ | refine blk_drew ?_ | refine blk_alloc ?_ _)); exact BK627.out)) : gb627 ≠ gb666)); have n10_ := Aside0.mk ((by rw [hg]; exact Nat.ne_of_gt (blk_lt (g := gb627) (o := .cells #[.int .i64 a0_0, .int .i64 a0_1] 22 (0, 0)) (by (with_reducible repeat (first | refine blk_drewN ?_ _ | refine blk_drew ?_ | refine blk_alloc ?_ _)); exact BK627.out)) : gb666 ≠ gb627)); have n11_ := Aside0.mk ((by rw [hg]; exact Nat.ne_of_lt (blk_lt (g := gb628) (o := .cells #[.int .i64 a1_0, .int .i64 a1_1] 22 (0, 0)) (by (with_reducible repeat (first | refine blk_drewN ?_ _ | refine blk_drew ?_ | refine blk_alloc ?_ _)); exact BK628.out)) : gb628 ≠ gb666)); have n12_ := Aside0.mk ((by rw [hg]; exact Nat.ne_of_gt (blk_lt (g := gb628) (o := .cells #[.int .i64 a1_0, .int .i64 a1_1] 22 (0, 0)) (by (with_reducible repeat (first | refine blk_drewN ?_ _ | refine blk_drew ?_ | refine blk_alloc ?_ _)); exact BK628.out)) : gb666 ≠ gb628)); have n13_ := Aside0.mk ((by rw [hg]; exact Nat.ne_of_lt (blk_lt (g := gb632) (o := .cells #[.int .i64 t630, .int .i64 t631] 25 (0, 0)) (by (with_reducible repeat (first | refine blk_drewN ?_ _ | refine blk_drew ?_ | refine blk_alloc ?_ _)); exact BK632.out)) : gb632 ≠ gb666)); have n14_ := Aside0.mk ((by rw [hg]; exact Nat.ne_of_gt (blk_lt (g := gb632) (o := .cells #[.int .i64 t630, .int .i64 t631] 25 (0, 0)) (by (with_reducible repeat (first | refine blk_drewN ?_ _ | refine blk_drew ?_ | refine blk_alloc ?_ _)); exact BK632.out)) : gb666 ≠ gb632)); have n15_ := Aside0.mk ((by rw [hg]; exact Nat.ne_of_lt (blk_lt (g := gb635) (o := .cells #[.int .i64 t633, .int .i64 t634] 25 (0, 0)) (by (with_reducible repeat (first | refine blk_drewN ?_ _ | refine blk_drew ?_ | refine blk_alloc ?_ _)); exact BK635.out)) : gb635 ≠ gb666)); have n16_ := Aside0.mk ((by rw [hg]; exact Nat.ne_of_gt (blk_lt (g := gb635) (o := .cells #[.int .i64 t633, .int .i64 t634] 25 (0, 0)) (by (with_reducible repeat (first | refine blk_drewN ?_ _ | refine blk_drew ?_ | refine blk_alloc ?_ _)); exact BK635.out)) : gb666 ≠ gb635)); have n17_ := Aside0.mk ((by rw [hg]; exact Nat.ne_of_lt (blk_lt (g := gb662) (o := .cells #[.int .i64 t659, .int .i64 t660, .int .i64 t661] 31 (0, 0)) (by (with_reducible repeat (first | refine blk_drewN ?_ _ | refine blk_drew ?_ | refine blk_alloc ?_ _)); exact BK662.out)) : gb662 ≠ gb666)); have n18_ := Aside0.mk ((by rw [hg]; exact Nat.ne_of_gt (blk_lt (g := gb662) (o := .cells #[.int .i64 t659, .int .i64 t660, .int .i64 t661] 31 (0, 0)) (by (with_reducible repeat (first | refine blk_drewN ?_ _ | refine blk_drew ?_ | refine blk_alloc ?_ _)); exact BK662.out)) : gb666 ≠ gb662)); clear BK627; clear BK628; clear BK632; clear BK635; clear BK662; clear HB; have BK627 := n0_; have BK628 := n1_; have BK632 := n2_; have BK635 := n3_; have BK662 := n4_; have HB := n5_; have BK666 := n6_; have GW666 := n7_; have GE666 := n8_; have NB627_666 := n9_; have NB666_627 := n10_; have NB628_666 := n11_; have NB666_628 := n12_; have NB632_666 := n13_; have NB666_632 := n14_; have NB635_666 := n15_; have NB666_635 := n16_; have NB662_666 := n17_; have NB666_662 := n18_; clear n0_ n1_ n2_ n3_ n4_ n5_ n6_ n7_ n8_ n9_ n10_ n11_ n12_ n13_ n14_ n15_ n16_ n17_ n18_; clear hb hbox hg; have hnb72 := NB666_627.out; have hnc72 := NB627_666.out; have hnb73 := NB666_628.out; have hnc73 := NB628_666.out; have hnb74 := NB666_632.out; have hnc74 := NB632_666.out; have hnb75 := NB666_635.out; have hnc75 := NB635_666.out; have hnb76 := NB666_662.out; have hnc76 := NB662_666.out; have hcz77_0 : w71.cell? ⟨gb666, 0, none⟩ = some (.int .i64 0) := (blk_cell BK666.out 0).trans rfl; have hcz77_1 : w71.cell? ⟨gb666, 1, none⟩ = some (.int .i64 0) := (blk_cell BK666.out 1).trans rfl; have hcz77_2 : w71.cell? ⟨gb666, 2, none⟩ = some (.int .i64 0) := (blk_cell BK666.out 2).trans rfl; have hfz77_0 := blk_frozen BK666.out 0; have hfz77_1 := blk_frozen BK666.out 1; have hfz77_2 := blk_frozen BK666.out 2; have hcz78_0 : w71.cell? ⟨gb662, 0, none⟩ = some (.int .i64 t659) := (blk_cell BK662.out 0).trans rfl; have hcz78_1 : w71.cell? ⟨gb662, 1, none⟩ = some (.int .i64 t660) := (blk_cell BK662.out 1).trans rfl; have hcz78_2 : w71.cell? ⟨gb662, 2, none⟩ = some (.int .i64 t661) := (blk_cell BK662.out 2).trans rfl; have hfz78_0 := blk_frozen BK662.out 0; have hfz78_1 := blk_frozen BK662.out 1; have hfz78_2 := blk_frozen BK662.out 2))
          go_ret
          exact ⟨by first | rfl | (simp [errW_none, errW_some] <;> rfl) | (simp [*, errW_none, errW_some] <;> rfl), by repeat (first | (with_reducible first | exact HB.out | apply below_alloc | apply pw_below_drewN | apply below_drew1 | refine below_set ?_ GE627.out | refine below_set ?_ GE628.out | refine below_set ?_ GE632.out | refine below_set ?_ GE635.out | refine below_set ?_ GE662.out | refine below_set ?_ GE666.out) | exact HB.out)⟩
         ·rw [if_neg c62] at H
          exact absurd H (by decide)
        ·rw [if_neg c61] at H
         exact absurd H (by decide)
 ·replace c5 := Bool.eq_false_iff.mpr c5
  subst c5
  have H1 : (some false) = some true := by rw [if_neg (show ¬ (false = true) by decide)] at H; exact H
  clear H
  have H := H1
  clear H1
  exact absurd H (by decide)

/-- THE ONE PURE STATEMENT of wireloomlaw02_FractionCanonical: yours. -/
def wireloomlaw02_FractionCanonical.Pure : Prop := ∀ (a0_0 : Int) (a0_1 : Int) (a1_0 : Int) (a1_1 : Int) (a2 : Int), (Lit.int .i64 a0_0).wf = true → (Lit.int .i64 a0_1).wf = true → (Lit.int .i64 a1_0).wf = true → (Lit.int .i64 a1_1).wf = true → (Lit.int .i32 a2).wf = true → ∃ k, wireloomlaw02_FractionCanonical.f k a0_0 a0_1 a1_0 a1_1 a2 = some true
theorem wireloomlaw02_FractionCanonical.walk (P : wireloomlaw02_FractionCanonical.Pure) (a0_0 : Int) (a0_1 : Int) (a1_0 : Int) (a1_1 : Int) (a2 : Int) (w : World) (hGL : GL w) (w0_0 : (Lit.int .i64 a0_0).wf = true) (w0_1 : (Lit.int .i64 a0_1).wf = true) (w1_0 : (Lit.int .i64 a1_0).wf = true) (w1_1 : (Lit.int .i64 a1_1).wf = true) (w2 : (Lit.int .i32 a2).wf = true) :
  Calls Tryd.prog 7 #[.agg #[.int .i64 a0_0, .int .i64 a0_1], .agg #[.int .i64 a1_0, .int .i64 a1_1], .int .i32 a2] w fun e w' => e = .returned (.bool true) ∧ Below w.heap.size w w' := by
 obtain ⟨k, h⟩ := P a0_0 a0_1 a1_0 a1_1 a2 w0_0 w0_1 w1_0 w1_1 w2
 refine (wireloomlaw02_FractionCanonical.calls k a0_0 a0_1 a1_0 a1_1 a2 w hGL h).mono ?_
 rintro e w' ⟨rfl, hd⟩
 exact ⟨rfl, hd⟩

/-! ### wireloomlaw02_power: function 27 -/
def wireloomlaw02_power.f (a0 : Int) : Option (Int × Int) := if a0 < 0 then (if 0 ≤ (IntKind.u64.wrap (wrap64 (-a0))) then (some (1, shl .i64 1 (IntKind.u64.wrap (wrap64 (-a0))))) else (none)) else (if 0 ≤ (IntKind.u64.wrap (a0)) then (some (shl .i64 1 (IntKind.u64.wrap (a0)), 1)) else (none))
set_option maxHeartbeats 8000000 in
set_option maxRecDepth 100000 in
theorem wireloomlaw02_power.calls (a0 : Int) (r1 : Int) (r2 : Int) (w : World) (h : wireloomlaw02_power.f a0 = some (r1, r2)) :
  Calls Tryd.prog 27 #[.int .i64 a0] w fun e w' => e = .returned (.agg #[.int .i64 r1, .int .i64 r2]) ∧ Below w.heap.size w w' := by
 have hu25 := Tryd.underlying25
 have HB := Aside0.mk (Below.refl w.heap.size w)
 have H : (if a0 < 0 then (if 0 ≤ (IntKind.u64.wrap (wrap64 (-a0))) then (some (1, shl .i64 1 (IntKind.u64.wrap (wrap64 (-a0))))) else (none)) else (if 0 ≤ (IntKind.u64.wrap (a0)) then (some (shl .i64 1 (IntKind.u64.wrap (a0)), 1)) else (none))) = some (r1, r2) := h
 clear h
 by_cases c2 : a0 < 0
 ·rw [if_pos c2] at H
  have c2b0 : decide (a0 < 0) = true := decide_eq_true c2
  clear c2
  obtain ⟨ji3, hji3⟩ : ∃ j_ : Int, (IntKind.u64.wrap (wrap64 (-a0))) = j_ := ⟨_, rfl⟩
  replace H : (if 0 ≤ (ji3) then (some (1, shl .i64 1 (ji3))) else (none)) = some (r1, r2) := by first | (rw [hji3] at H; exact H) | (simp only [hji3] at H ⊢; exact H)
  by_cases c4 : 0 ≤ (ji3)
  ·rw [if_pos c4] at H
   have c4b0 := eq_true c4
   have c4b1 : decide (0 ≤ (ji3)) = true := decide_eq_true c4
   clear c4
   obtain ⟨ji5, hji5⟩ : ∃ j_ : Int, (shl .i64 1 (ji3)) = j_ := ⟨_, rfl⟩
   replace H : (some (1, ji5)) = some (r1, r2) := by first | (rw [hji5] at H; exact H) | (simp only [hji5] at H ⊢; exact H)
   have hji5_ : (IntKind.i64.wrap (1 * 2 ^ min (ji3).toNat 64)) = ji5 := hji5
   have hji5z : (ji3) ≤ 64 → (IntKind.i64.wrap (1 * 2 ^ (ji3).toNat)) = ji5 := shl_small hji5
   have hji5u : (IntKind.i64.wrap (2 ^ min (ji3).toNat 64)) = ji5 := by have h_ := hji5_; rw [Int.one_mul] at h_; exact h_
   have hji5v : (ji3) ≤ 64 → (IntKind.i64.wrap (2 ^ (ji3).toNat)) = ji5 := fun hle_ => by have h_ := hji5z hle_; rw [Int.one_mul] at h_; exact h_
   have hji5y : (wrap64 (1 * 2 ^ min (ji3).toNat 64)) = ji5 := (i64_w _).symm.trans hji5_
   have hji5x : (ji3) ≤ 64 → (wrap64 (1 * 2 ^ (ji3).toNat)) = ji5 := fun h_ => (i64_w _).symm.trans (hji5z h_)
   simp only [Option.some.injEq, Prod.mk.injEq] at H
   obtain ⟨rfl, rfl⟩ := H
   go_enter Tryd.func27, Tryd.ntmps27
   go_wp2_with (first | ((with_reducible refine gate_dst (N := 2) rfl ?_); refine box_event ?hg (N := 2) ?hd (cs := #[.int .i64 0, .int .i64 0]) (t := 25) ?hr ?_; (case hd => rfl); (case hg => rfl); (case hr => first | (go_simp; done) | (go_simp; rfl)); intro gb667 hg w6 hbox hb; have n0_ := Aside0.mk (below_step (by repeat (first | (with_reducible first | exact HB.out | apply below_alloc | apply pw_below_drewN | apply below_drew1) | exact HB.out)) hb); have n1_ := Aside0.mk (hbox); have n2_ := Aside0.mk ((by rw [hg]; exact (below_size (by repeat (first | (with_reducible first | exact HB.out | apply below_alloc | apply pw_below_drewN | apply below_drew1) | exact HB.out))) : w.heap.size ≤ gb667)); have n3_ := Aside0.mk ((by rw [hg]; exact (below_size (by repeat (first | (with_reducible first | exact HB.out | apply below_alloc | apply pw_below_drewN | apply below_drew1) | exact HB.out))) : w.heap.size ≤ gb667)); clear HB; have HB := n0_; have BK667 := n1_; have GW667 := n2_; have GE667 := n3_; clear n0_ n1_ n2_ n3_; clear hb hbox hg; have hcz7_0 : w6.cell? ⟨gb667, 0, none⟩ = some (.int .i64 0) := (blk_cell BK667.out 0).trans rfl; have hcz7_1 : w6.cell? ⟨gb667, 1, none⟩ = some (.int .i64 0) := (blk_cell BK667.out 1).trans rfl; have hfz7_0 := blk_frozen BK667.out 0; have hfz7_1 := blk_frozen BK667.out 1))
   refine bodyPost_ret (results_cell_row rfl _ _ gb667 25 #[.int .i64 1, .int .i64 ji5] (0, 0) _ rfl (by (with_reducible repeat (first | refine blk_drewN ?_ _ | refine blk_drew ?_ | refine blk_alloc ?_ _)); refine blk_put (cs := #[.int .i64 1, .int .i64 0]) ?_ 1 _ rfl; (with_reducible repeat (first | refine blk_drewN ?_ _ | refine blk_drew ?_ | refine blk_alloc ?_ _)); refine blk_put (cs := #[.int .i64 0, .int .i64 0]) ?_ 0 _ rfl; (with_reducible repeat (first | refine blk_drewN ?_ _ | refine blk_drew ?_ | refine blk_alloc ?_ _)); exact BK667.out) Tryd.underlying25 rfl (by kernel_rfl)) rfl ?_
   exact ⟨by first | rfl | (simp [errW_none, errW_some] <;> rfl) | (simp only [← hji3, ← hji5]; first | rfl | (simp [errW_none, errW_some] <;> rfl)) | (simp [*, errW_none, errW_some] <;> rfl), by repeat (first | (with_reducible first | exact HB.out | apply below_alloc | apply pw_below_drewN | apply below_drew1 | refine below_set ?_ GE667.out) | exact HB.out)⟩
  ·rw [if_neg c4] at H
   exact absurd H (by simp)
 ·rw [if_neg c2] at H
  have c2b0 : decide (a0 < 0) = false := decide_eq_false c2
  clear c2
  obtain ⟨ji8, hji8⟩ : ∃ j_ : Int, (IntKind.u64.wrap (a0)) = j_ := ⟨_, rfl⟩
  replace H : (if 0 ≤ (ji8) then (some (shl .i64 1 (ji8), 1)) else (none)) = some (r1, r2) := by first | (rw [hji8] at H; exact H) | (simp only [hji8] at H ⊢; exact H)
  by_cases c9 : 0 ≤ (ji8)
  ·rw [if_pos c9] at H
   have c9b0 := eq_true c9
   have c9b1 : decide (0 ≤ (ji8)) = true := decide_eq_true c9
   clear c9
   obtain ⟨ji10, hji10⟩ : ∃ j_ : Int, (shl .i64 1 (ji8)) = j_ := ⟨_, rfl⟩
   replace H : (some (ji10, 1)) = some (r1, r2) := by first | (rw [hji10] at H; exact H) | (simp only [hji10] at H ⊢; exact H)
   have hji10_ : (IntKind.i64.wrap (1 * 2 ^ min (ji8).toNat 64)) = ji10 := hji10
   have hji10z : (ji8) ≤ 64 → (IntKind.i64.wrap (1 * 2 ^ (ji8).toNat)) = ji10 := shl_small hji10
   have hji10u : (IntKind.i64.wrap (2 ^ min (ji8).toNat 64)) = ji10 := by have h_ := hji10_; rw [Int.one_mul] at h_; exact h_
   have hji10v : (ji8) ≤ 64 → (IntKind.i64.wrap (2 ^ (ji8).toNat)) = ji10 := fun hle_ => by have h_ := hji10z hle_; rw [Int.one_mul] at h_; exact h_
   have hji10y : (wrap64 (1 * 2 ^ min (ji8).toNat 64)) = ji10 := (i64_w _).symm.trans hji10_
   have hji10x : (ji8) ≤ 64 → (wrap64 (1 * 2 ^ (ji8).toNat)) = ji10 := fun h_ => (i64_w _).symm.trans (hji10z h_)
   simp only [Option.some.injEq, Prod.mk.injEq] at H
   obtain ⟨rfl, rfl⟩ := H
   go_enter Tryd.func27, Tryd.ntmps27
   go_wp2_with (first | ((with_reducible refine gate_dst (N := 2) rfl ?_); refine box_event ?hg (N := 2) ?hd (cs := #[.int .i64 0, .int .i64 0]) (t := 25) ?hr ?_; (case hd => rfl); (case hg => rfl); (case hr => first | (go_simp; done) | (go_simp; rfl)); intro gb667 hg w11 hbox hb; have n0_ := Aside0.mk (below_step (by repeat (first | (with_reducible first | exact HB.out | apply below_alloc | apply pw_below_drewN | apply below_drew1) | exact HB.out)) hb); have n1_ := Aside0.mk (hbox); have n2_ := Aside0.mk ((by rw [hg]; exact (below_size (by repeat (first | (with_reducible first | exact HB.out | apply below_alloc | apply pw_below_drewN | apply below_drew1) | exact HB.out))) : w.heap.size ≤ gb667)); have n3_ := Aside0.mk ((by rw [hg]; exact (below_size (by repeat (first | (with_reducible first | exact HB.out | apply below_alloc | apply pw_below_drewN | apply below_drew1) | exact HB.out))) : w.heap.size ≤ gb667)); clear HB; have HB := n0_; have BK667 := n1_; have GW667 := n2_; have GE667 := n3_; clear n0_ n1_ n2_ n3_; clear hb hbox hg; have hcz12_0 : w11.cell? ⟨gb667, 0, none⟩ = some (.int .i64 0) := (blk_cell BK667.out 0).trans rfl; have hcz12_1 : w11.cell? ⟨gb667, 1, none⟩ = some (.int .i64 0) := (blk_cell BK667.out 1).trans rfl; have hfz12_0 := blk_frozen BK667.out 0; have hfz12_1 := blk_frozen BK667.out 1))
   refine bodyPost_ret (results_cell_row rfl _ _ gb667 25 #[.int .i64 ji10, .int .i64 1] (0, 0) _ rfl (by (with_reducible repeat (first | refine blk_drewN ?_ _ | refine blk_drew ?_ | refine blk_alloc ?_ _)); refine blk_put (cs := #[.int .i64 ji10, .int .i64 0]) ?_ 1 _ rfl; (with_reducible repeat (first | refine blk_drewN ?_ _ | refine blk_drew ?_ | refine blk_alloc ?_ _)); refine blk_put (cs := #[.int .i64 0, .int .i64 0]) ?_ 0 _ rfl; (with_reducible repeat (first | refine blk_drewN ?_ _ | refine blk_drew ?_ | refine blk_alloc ?_ _)); exact BK667.out) Tryd.underlying25 rfl (by kernel_rfl)) rfl ?_
   exact ⟨by first | rfl | (simp [errW_none, errW_some] <;> rfl) | (simp only [← hji8, ← hji10]; first | rfl | (simp [errW_none, errW_some] <;> rfl)) | (simp [*, errW_none, errW_some] <;> rfl), by repeat (first | (with_reducible first | exact HB.out | apply below_alloc | apply pw_below_drewN | apply below_drew1 | refine below_set ?_ GE667.out) | exact HB.out)⟩
  ·rw [if_neg c9] at H
   exact absurd H (by simp)

end Go.Proofs.YtndfjpnpdnnpkaaDoor.F
