-- made by a program of this claim (wip/myprint.sh); Lean checks it
import Derived.Test.YtndfjpnpdnnpkaaDoorFx0
import Derived.Test.YtndfjpnpdnnpkaaDoorSt
import Derived.Test.YtndfjpnpdnnpkaaDoorFx1
import Derived.Test.YtndfjpnpdnnpkaaDoorFx2
import Derived.Test.YtndfjpnpdnnpkaaDoorFx3
import Derived.Test.YtndfjpnpdnnpkaaDoorFx4
import Derived.Test.YtndfjpnpdnnpkaaDoorFx5
import Derived.Test.YtndfjpnpdnnpkaaDoorFx6
import Derived.Test.YtndfjpnpdnnpkaaDoorFx7
import Derived.Test.YtndfjpnpdnnpkaaDoorGiven
namespace Go.Proofs.YtndfjpnpdnnpkaaDoor.F
open Go.RowKit Go.Proofs.YtndfjpnpdnnpkaaDoorW.PrintWords Go.Proofs.YtndfjpnpdnnpkaaDoorW.PrintLast Go.Proofs.YtndfjpnpdnnpkaaDoorW.PrintMore
attribute [local go_sem] max2_int min2_int max_two min_two max_three min_three max_four min_four   -- for this text's walks alone
set_option linter.unusedVariables false
set_option linter.unusedSimpArgs false

attribute [local go_sem high] eqA25 eqA31
/-! ### wireloomlaw02_examples: function 9 -/
mutual
def wireloomlaw02_examplesT.j0 : Nat → Int → Bool → Int → Int → Int → Int → Int → Int → Option (Bool)
 | 0, _, _, _, _, _, _, _, _ => none
 | k + 1, x1, x43, x278000, x278001, x279000, x279001, x280000, x280001 => if x43 = true then (some false) else ((wireloomlaw02_add.f k x280000 x280001 (-1) 3).bind fun bt310 => (if bt310.2.2 = 2 then ((wireloomlaw02_mul.f k x280000 x280001 1 x1).bind fun bt313 => ((wireloomlaw02_is.f 1 1).bind fun bt316 => (if ((!(bt313.1 == bt316.1) || (!(bt313.2.1 == bt316.2.1))) || (!(bt313.2.2 == bt316.2.2))) = true then (wireloomlaw02_examplesT.j1 k true x278000 x278001 x279000 x279001) else ((wireloomlaw02_div.f k x278000 x278001 0 1).bind fun bt319 => (if bt319.2.2 = 3 then ((fraction_Cmp.f x278000 x278001 x279000 x279001).bind fun t322 => (if t322 = 1 then ((fraction_Valid.f 2 4).bind fun t323 => (if t323 = true then (wireloomlaw02_examplesT.j1 k true x278000 x278001 x279000 x279001) else ((fraction_Valid.f x278000 x278001).bind fun t324 => (wireloomlaw02_examplesT.j1 k (!t324) x278000 x278001 x279000 x279001)))) else (wireloomlaw02_examplesT.j1 k true x278000 x278001 x279000 x279001))) else (wireloomlaw02_examplesT.j1 k true x278000 x278001 x279000 x279001)))))) else (wireloomlaw02_examplesT.j1 k true x278000 x278001 x279000 x279001)))
def wireloomlaw02_examplesT.j1 : Nat → Bool → Int → Int → Int → Int → Option (Bool)
 | 0, _, _, _, _, _ => none
 | k + 1, x78, x278000, x278001, x279000, x279001 => if x78 = true then (some false) else ((wireloomlaw02_parsed.f (⟨#[52, 47, 50]⟩ : ByteArray)).bind fun bt325 => (if bt325.2.2 = 5 then ((wireloomlaw02_parsed.f (⟨#[49, 47, 49]⟩ : ByteArray)).bind fun bt328 => (if bt328.2.2 = 5 then ((wireloomlaw02_parsed.f (⟨#[45, 48]⟩ : ByteArray)).bind fun bt331 => (if bt331.2.2 = 5 then ((wireloomlaw02_parsed.f (⟨#[43, 49]⟩ : ByteArray)).bind fun bt334 => (if bt334.2.2 = 5 then ((wireloomlaw02_parsed.f (⟨#[45, 51, 47, 50]⟩ : ByteArray)).bind fun bt337 => ((wireloomlaw02_is.f (-3) 2).bind fun bt340 => (wireloomlaw02_examplesT.j2 k ((!(bt337.1 == bt340.1) || (!(bt337.2.1 == bt340.2.1))) || (!(bt337.2.2 == bt340.2.2))) x278000 x278001 x279000 x279001))) else (wireloomlaw02_examplesT.j2 k true x278000 x278001 x279000 x279001))) else (wireloomlaw02_examplesT.j2 k true x278000 x278001 x279000 x279001))) else (wireloomlaw02_examplesT.j2 k true x278000 x278001 x279000 x279001))) else (wireloomlaw02_examplesT.j2 k true x278000 x278001 x279000 x279001)))
def wireloomlaw02_examplesT.j2 : Nat → Bool → Int → Int → Int → Int → Option (Bool)
 | 0, _, _, _, _, _ => none
 | k + 1, x101, x278000, x278001, x279000, x279001 => if x101 = true then (some false) else ((fraction_Text.f (-3) 2).bind fun t343 => (if t343.toList = ([45, 51, 47, 50] : List UInt8) then ((fraction_Text.f 5 1).bind fun t344 => (if t344.toList = ([53] : List UInt8) then ((fraction_Floor.f (-3) 2).bind fun t345 => (if t345 = (-2) then ((fraction_Ceil.f (-3) 2).bind fun t346 => (if t346 = (-1) then ((fraction_Floor.f x278000 x278001).bind fun t347 => (if t347 = 0 then ((fraction_Ceil.f x278000 x278001).bind fun t348 => (if t348 = 1 then ((fraction_Min.f x278000 x278001 x279000 x279001).bind fun bt349 => (if (bt349.1 == x279000 && (bt349.2 == x279001)) = true then ((fraction_Max.f x278000 x278001 x279000 x279001).bind fun bt351 => (some (bt351.1 == x278000 && (bt351.2 == x278001)))) else (some false))) else (some false))) else (some false))) else (some false))) else (some false))) else (some false))) else (some false)))
end
def wireloomlaw02_examplesT.f (k : Nat)  : Option (Bool) := (wireloomref02_Most.f).bind fun t276 => ((wireloomlaw02_created.f k 6 (-4)).bind fun bt280 => ((wireloomlaw02_is.f (-3) 2).bind fun bt283 => (if ((!(bt280.1 == bt283.1) || (!(bt280.2.1 == bt283.2.1))) || (!(bt280.2.2 == bt283.2.2))) = true then (wireloomlaw02_examplesT.j0 k t276 true 1 6 1 10 t276 1) else ((wireloomlaw02_created.f k 0 5).bind fun bt286 => ((wireloomlaw02_is.f 0 1).bind fun bt289 => (if ((!(bt286.1 == bt289.1) || (!(bt286.2.1 == bt289.2.1))) || (!(bt286.2.2 == bt289.2.2))) = true then (wireloomlaw02_examplesT.j0 k t276 true 1 6 1 10 t276 1) else ((wireloomlaw02_created.f k 1 0).bind fun bt292 => (if bt292.2.2 = 3 then ((wireloomlaw02_add.f k 1 6 1 10).bind fun bt295 => ((wireloomlaw02_is.f 4 15).bind fun bt298 => (if ((!(bt295.1 == bt298.1) || (!(bt295.2.1 == bt298.2.1))) || (!(bt295.2.2 == bt298.2.2))) = true then (wireloomlaw02_examplesT.j0 k t276 true 1 6 1 10 t276 1) else ((wireloomlaw02_div.f k 3 4 (-9) 2).bind fun bt301 => ((wireloomlaw02_is.f (-1) 6).bind fun bt304 => (if ((!(bt301.1 == bt304.1) || (!(bt301.2.1 == bt304.2.1))) || (!(bt301.2.2 == bt304.2.2))) = true then (wireloomlaw02_examplesT.j0 k t276 true 1 6 1 10 t276 1) else ((wireloomlaw02_add.f k t276 1 1 1).bind fun bt307 => (wireloomlaw02_examplesT.j0 k t276 (bt307.2.2 != 2) 1 6 1 10 t276 1)))))))) else (wireloomlaw02_examplesT.j0 k t276 true 1 6 1 10 t276 1)))))))))
theorem wireloomlaw02_examplesT.mono_l : ∀ k, (∀ y0 y1 y2 y3 y4 y5 y6 y7, LeO (wireloomlaw02_examplesT.j0 k y0 y1 y2 y3 y4 y5 y6 y7) (wireloomlaw02_examplesT.j0 (k + 1) y0 y1 y2 y3 y4 y5 y6 y7)) ∧ (∀ y0 y1 y2 y3 y4, LeO (wireloomlaw02_examplesT.j1 k y0 y1 y2 y3 y4) (wireloomlaw02_examplesT.j1 (k + 1) y0 y1 y2 y3 y4)) ∧ (∀ y0 y1 y2 y3 y4, LeO (wireloomlaw02_examplesT.j2 k y0 y1 y2 y3 y4) (wireloomlaw02_examplesT.j2 (k + 1) y0 y1 y2 y3 y4))
 | 0 => ⟨fun _ _ _ _ _ _ _ _ r h => by simp [wireloomlaw02_examplesT.j0] at h, fun _ _ _ _ _ r h => by simp [wireloomlaw02_examplesT.j1] at h, fun _ _ _ _ _ r h => by simp [wireloomlaw02_examplesT.j2] at h⟩
 | k + 1 => by
  obtain ⟨ih0, ih1, ih2⟩ := wireloomlaw02_examplesT.mono_l k
  refine ⟨?_, ?_, ?_⟩
  ·intro y0 y1 y2 y3 y4 y5 y6 y7
   unfold wireloomlaw02_examplesT.j0
   repeat' first
   | (with_reducible exact ih0 _ _ _ _ _ _ _ _)
   | (with_reducible exact ih1 _ _ _ _ _)
   | (with_reducible exact ih2 _ _ _ _ _)
   | (with_reducible exact wireloomlaw02_add.mono _ _ _ _ _)
   | (with_reducible exact wireloomlaw02_created.mono _ _ _)
   | (with_reducible exact wireloomlaw02_div.mono _ _ _ _ _)
   | (with_reducible exact wireloomlaw02_mul.mono _ _ _ _ _)
   | (with_reducible exact LeO.refl _)
   | (with_reducible exact LeO.none _)
   | (with_reducible refine LeO.ite ?_ ?_)
   | (with_reducible refine LeO.bind ?_ (fun _ => ?_))
   | exact ih0 _ _ _ _ _ _ _ _
   | exact ih1 _ _ _ _ _
   | exact ih2 _ _ _ _ _
   | exact wireloomlaw02_add.mono _ _ _ _ _
   | exact wireloomlaw02_created.mono _ _ _
   | exact wireloomlaw02_div.mono _ _ _ _ _
   | exact wireloomlaw02_mul.mono _ _ _ _ _
   | exact LeO.none _
   | refine LeO.ite ?_ ?_
   | refine LeO.bind ?_ (fun _ => ?_)
  ·intro y0 y1 y2 y3 y4
   unfold wireloomlaw02_examplesT.j1
   repeat' first
   | (with_reducible exact ih0 _ _ _ _ _ _ _ _)
   | (with_reducible exact ih1 _ _ _ _ _)
   | (with_reducible exact ih2 _ _ _ _ _)
   | (with_reducible exact wireloomlaw02_add.mono _ _ _ _ _)
   | (with_reducible exact wireloomlaw02_created.mono _ _ _)
   | (with_reducible exact wireloomlaw02_div.mono _ _ _ _ _)
   | (with_reducible exact wireloomlaw02_mul.mono _ _ _ _ _)
   | (with_reducible exact LeO.refl _)
   | (with_reducible exact LeO.none _)
   | (with_reducible refine LeO.ite ?_ ?_)
   | (with_reducible refine LeO.bind ?_ (fun _ => ?_))
   | exact ih0 _ _ _ _ _ _ _ _
   | exact ih1 _ _ _ _ _
   | exact ih2 _ _ _ _ _
   | exact wireloomlaw02_add.mono _ _ _ _ _
   | exact wireloomlaw02_created.mono _ _ _
   | exact wireloomlaw02_div.mono _ _ _ _ _
   | exact wireloomlaw02_mul.mono _ _ _ _ _
   | exact LeO.none _
   | refine LeO.ite ?_ ?_
   | refine LeO.bind ?_ (fun _ => ?_)
  ·intro y0 y1 y2 y3 y4
   unfold wireloomlaw02_examplesT.j2
   repeat' first
   | (with_reducible exact ih0 _ _ _ _ _ _ _ _)
   | (with_reducible exact ih1 _ _ _ _ _)
   | (with_reducible exact ih2 _ _ _ _ _)
   | (with_reducible exact wireloomlaw02_add.mono _ _ _ _ _)
   | (with_reducible exact wireloomlaw02_created.mono _ _ _)
   | (with_reducible exact wireloomlaw02_div.mono _ _ _ _ _)
   | (with_reducible exact wireloomlaw02_mul.mono _ _ _ _ _)
   | (with_reducible exact LeO.refl _)
   | (with_reducible exact LeO.none _)
   | (with_reducible refine LeO.ite ?_ ?_)
   | (with_reducible refine LeO.bind ?_ (fun _ => ?_))
   | exact ih0 _ _ _ _ _ _ _ _
   | exact ih1 _ _ _ _ _
   | exact ih2 _ _ _ _ _
   | exact wireloomlaw02_add.mono _ _ _ _ _
   | exact wireloomlaw02_created.mono _ _ _
   | exact wireloomlaw02_div.mono _ _ _ _ _
   | exact wireloomlaw02_mul.mono _ _ _ _ _
   | exact LeO.none _
   | refine LeO.ite ?_ ?_
   | refine LeO.bind ?_ (fun _ => ?_)
theorem wireloomlaw02_examplesT.mono : ∀ k, LeO (wireloomlaw02_examplesT.f k ) (wireloomlaw02_examplesT.f (k + 1) ) := by
 intro  k
 obtain ⟨ih0, ih1, ih2⟩ := wireloomlaw02_examplesT.mono_l k
 unfold wireloomlaw02_examplesT.f
 repeat' first
   | (with_reducible exact ih0 _ _ _ _ _ _ _ _)
   | (with_reducible exact ih1 _ _ _ _ _)
   | (with_reducible exact ih2 _ _ _ _ _)
   | (with_reducible exact wireloomlaw02_add.mono _ _ _ _ _)
   | (with_reducible exact wireloomlaw02_created.mono _ _ _)
   | (with_reducible exact wireloomlaw02_div.mono _ _ _ _ _)
   | (with_reducible exact wireloomlaw02_mul.mono _ _ _ _ _)
   | (with_reducible exact LeO.refl _)
   | (with_reducible exact LeO.none _)
   | (with_reducible refine LeO.ite ?_ ?_)
   | (with_reducible refine LeO.bind ?_ (fun _ => ?_))
   | exact ih0 _ _ _ _ _ _ _ _
   | exact ih1 _ _ _ _ _
   | exact ih2 _ _ _ _ _
   | exact wireloomlaw02_add.mono _ _ _ _ _
   | exact wireloomlaw02_created.mono _ _ _
   | exact wireloomlaw02_div.mono _ _ _ _ _
   | exact wireloomlaw02_mul.mono _ _ _ _ _
   | exact LeO.none _
   | refine LeO.ite ?_ ?_
   | refine LeO.bind ?_ (fun _ => ?_)
theorem wireloomlaw02_examplesT.dead_j0_true (k : Nat) (x1 : Int) (x278000 : Int) (x278001 : Int) (x279000 : Int) (x279001 : Int) (x280000 : Int) (x280001 : Int) : ¬ wireloomlaw02_examplesT.j0 k x1 true x278000 x278001 x279000 x279001 x280000 x280001 = some true := by
 cases k with
 | zero => simp [wireloomlaw02_examplesT.j0]
 | succ k => simp [wireloomlaw02_examplesT.j0]
theorem wireloomlaw02_examplesT.dead_j1_true (k : Nat) (x278000 : Int) (x278001 : Int) (x279000 : Int) (x279001 : Int) : ¬ wireloomlaw02_examplesT.j1 k true x278000 x278001 x279000 x279001 = some true := by
 cases k with
 | zero => simp [wireloomlaw02_examplesT.j1]
 | succ k => simp [wireloomlaw02_examplesT.j1]
theorem wireloomlaw02_examplesT.dead_j2_true (k : Nat) (x278000 : Int) (x278001 : Int) (x279000 : Int) (x279001 : Int) : ¬ wireloomlaw02_examplesT.j2 k true x278000 x278001 x279000 x279001 = some true := by
 cases k with
 | zero => simp [wireloomlaw02_examplesT.j2]
 | succ k => simp [wireloomlaw02_examplesT.j2]
def wireloomlaw02_examplesT.T11 : Bool × List (List Nat × List Nat) := (true, [([], []), ([0], [0]), ([1], [1]), ([2, 1], [2]), ([3], [3]), ([4, 3, 3], [3, 4]), ([5, 3], [3, 5]), ([3, 6], [3, 6]), ([7, 5], [7]), ([8], [8]), ([9, 8, 8], [8, 9]), ([10, 8], [8, 10]), ([8, 11], [8, 11]), ([12, 10], [12]), ([13], [13]), ([14, 13, 13], [13, 14]), ([15, 13], [13, 15]), ([13, 16], [13, 16]), ([17, 15], [17]), ([18], [18]), ([19, 18, 18], [18, 19]), ([20, 18], [18, 20]), ([18, 21], [18, 21]), ([22, 20], [22]), ([23], [23]), ([24, 23, 23], [23, 24]), ([25, 23], [23, 25]), ([23, 26], [23, 26]), ([27, 25], [27]), ([28], [28]), ([28], [28]), ([29, 30, 28, 28], [28, 29, 30]), ([28], [28]), ([31, 32, 28], [28, 31, 32]), ([28, 33], [28, 33]), ([34, 31], [34]), ([35], [35]), ([35], [35]), ([36, 37, 35, 35], [35, 36, 37]), ([35], [35]), ([38, 39, 35], [35, 38, 39]), ([35, 40], [35, 40]), ([41, 38, 0, 1, 2, 3, 4, 5, 6, 7, 8, 9, 10, 11, 12, 13, 14, 15, 16, 17, 18, 19, 20, 21, 22, 23, 24, 25, 26, 27, 28, 29, 30, 31, 32, 33, 34, 35, 36, 37, 38, 39, 40, 41], [41])])
def wireloomlaw02_examplesT.B11 : List Nat := [0, 1, 3, 7, 15, 31, 63, 127, 255, 511, 1023, 2047, 4095, 8191, 16383, 32767, 65535, 131071, 262143, 524287, 1048575, 2097151, 4194303, 8388607, 16777215, 33554431, 67108863, 134217727, 268435455, 536870911, 536870911, 2147483647, 536870911, 8589934591, 17179869183, 34359738367, 68719476735, 68719476735, 274877906943, 68719476735, 1099511627775, 2199023255551, 4398046511103]
theorem wireloomlaw02_examplesT.tab11 : rtab .any (opsOf Tryd.f9 11) = wireloomlaw02_examplesT.T11 := by kernel_rfl
theorem wireloomlaw02_examplesT.bits11 : waitsOk wireloomlaw02_examplesT.T11.2 wireloomlaw02_examplesT.B11 = true := by kernel_rfl
set_option maxHeartbeats 8000000 in
set_option maxRecDepth 100000 in
theorem wireloomlaw02_examplesT.calls (k : Nat)  (w : World) (hGL : GL w) (h : wireloomlaw02_examplesT.f k  = some true) :
  Calls Tryd.prog 9 #[] w fun e w' => e = .returned (.bool true) ∧ Below w.heap.size w w' := by
 have hu25 := Tryd.underlying25
 have hfl31_1 : ∀ (v0 v1 v2 : Value) (W : World), (Instr.field 31 (.agg #[v0, v1, v2]) 1).run Tryd.prog W = .ok (v2) W := fun v0 v1 v2 W => by kernel_rfl
 have HB := Aside0.mk (Below.refl w.heap.size w)
 have H : ((wireloomref02_Most.f).bind fun t276 => ((wireloomlaw02_created.f k 6 (-4)).bind fun bt280 => ((wireloomlaw02_is.f (-3) 2).bind fun bt283 => (if ((!(bt280.1 == bt283.1) || (!(bt280.2.1 == bt283.2.1))) || (!(bt280.2.2 == bt283.2.2))) = true then (wireloomlaw02_examplesT.j0 k t276 true 1 6 1 10 t276 1) else ((wireloomlaw02_created.f k 0 5).bind fun bt286 => ((wireloomlaw02_is.f 0 1).bind fun bt289 => (if ((!(bt286.1 == bt289.1) || (!(bt286.2.1 == bt289.2.1))) || (!(bt286.2.2 == bt289.2.2))) = true then (wireloomlaw02_examplesT.j0 k t276 true 1 6 1 10 t276 1) else ((wireloomlaw02_created.f k 1 0).bind fun bt292 => (if bt292.2.2 = 3 then ((wireloomlaw02_add.f k 1 6 1 10).bind fun bt295 => ((wireloomlaw02_is.f 4 15).bind fun bt298 => (if ((!(bt295.1 == bt298.1) || (!(bt295.2.1 == bt298.2.1))) || (!(bt295.2.2 == bt298.2.2))) = true then (wireloomlaw02_examplesT.j0 k t276 true 1 6 1 10 t276 1) else ((wireloomlaw02_div.f k 3 4 (-9) 2).bind fun bt301 => ((wireloomlaw02_is.f (-1) 6).bind fun bt304 => (if ((!(bt301.1 == bt304.1) || (!(bt301.2.1 == bt304.2.1))) || (!(bt301.2.2 == bt304.2.2))) = true then (wireloomlaw02_examplesT.j0 k t276 true 1 6 1 10 t276 1) else ((wireloomlaw02_add.f k t276 1 1 1).bind fun bt307 => (wireloomlaw02_examplesT.j0 k t276 (bt307.2.2 != 2) 1 6 1 10 t276 1)))))))) else (wireloomlaw02_examplesT.j0 k t276 true 1 6 1 10 t276 1)))))))))) = some true := h
 clear h
 replace H := Option.bind_eq_some_iff.mp H
 obtain ⟨t276, A10, H⟩ := H
 replace H : ((wireloomlaw02_created.f k 6 (-4)).bind fun bt280 => ((wireloomlaw02_is.f (-3) 2).bind fun bt283 => (if ((!(bt280.1 == bt283.1) || (!(bt280.2.1 == bt283.2.1))) || (!(bt280.2.2 == bt283.2.2))) = true then (wireloomlaw02_examplesT.j0 k t276 true 1 6 1 10 t276 1) else ((wireloomlaw02_created.f k 0 5).bind fun bt286 => ((wireloomlaw02_is.f 0 1).bind fun bt289 => (if ((!(bt286.1 == bt289.1) || (!(bt286.2.1 == bt289.2.1))) || (!(bt286.2.2 == bt289.2.2))) = true then (wireloomlaw02_examplesT.j0 k t276 true 1 6 1 10 t276 1) else ((wireloomlaw02_created.f k 1 0).bind fun bt292 => (if bt292.2.2 = 3 then ((wireloomlaw02_add.f k 1 6 1 10).bind fun bt295 => ((wireloomlaw02_is.f 4 15).bind fun bt298 => (if ((!(bt295.1 == bt298.1) || (!(bt295.2.1 == bt298.2.1))) || (!(bt295.2.2 == bt298.2.2))) = true then (wireloomlaw02_examplesT.j0 k t276 true 1 6 1 10 t276 1) else ((wireloomlaw02_div.f k 3 4 (-9) 2).bind fun bt301 => ((wireloomlaw02_is.f (-1) 6).bind fun bt304 => (if ((!(bt301.1 == bt304.1) || (!(bt301.2.1 == bt304.2.1))) || (!(bt301.2.2 == bt304.2.2))) = true then (wireloomlaw02_examplesT.j0 k t276 true 1 6 1 10 t276 1) else ((wireloomlaw02_add.f k t276 1 1 1).bind fun bt307 => (wireloomlaw02_examplesT.j0 k t276 (bt307.2.2 != 2) 1 6 1 10 t276 1)))))))) else (wireloomlaw02_examplesT.j0 k t276 true 1 6 1 10 t276 1))))))))) = some true := H
 have A1 := Aside0.mk A10
 clear A10
 have HC2 := Aside0.mk H
 clear H
 go_enter Tryd.func9, Tryd.ntmps9
 go_upto_region 5 with (first | ((with_reducible refine gate_callee (f := 28) rfl ?_); refine goesL_ (some 5) rfl rfl Tryd.func28 (by kernel_rfl) rfl #[] rfl (by (try simp only [List.map_toArray, List.map_cons, List.map_nil]); first | done | rfl | (simp only [List.length_drop, List.length_take]; rfl)) ?_; (with_reducible refine (wireloomref02_Most.calls  t276 _ A1.out).mono ?_); rintro e w' ⟨rfl, ⟨nd, rfl⟩⟩; refine ⟨_, rfl, ?_⟩) | ((with_reducible refine gate_dst (N := 2) rfl ?_); refine box_event ?hg (N := 2) ?hd (cs := #[.int .i64 0, .int .i64 0]) (t := 25) ?hr ?_; (case hd => rfl); (case hg => rfl); (case hr => first | (go_simp; done) | (go_simp; rfl)); intro gb277 hg w3 hbox hb; have BK277 := Aside0.mk (hbox); have GW277 := Aside0.mk ((by rw [hg]; exact (below_size (by repeat (first | (with_reducible first | exact HB.out | apply below_alloc | apply pw_below_drewN | apply below_drew1) | exact HB.out))) : w.heap.size ≤ gb277)); have GE277 := Aside0.mk ((by rw [hg]; exact (below_size (by repeat (first | (with_reducible first | exact HB.out | apply below_alloc | apply pw_below_drewN | apply below_drew1) | exact HB.out))) : w.heap.size ≤ gb277)); replace HB := Aside0.mk (below_step (by repeat (first | (with_reducible first | exact HB.out | apply below_alloc | apply pw_below_drewN | apply below_drew1) | exact HB.out)) hb); clear hb hbox hg; have hcz4_0 : w3.cell? ⟨gb277, 0, none⟩ = some (.int .i64 0) := (blk_cell BK277.out 0).trans rfl; have hcz4_1 : w3.cell? ⟨gb277, 1, none⟩ = some (.int .i64 0) := (blk_cell BK277.out 1).trans rfl; have hfz4_0 := blk_frozen BK277.out 0; have hfz4_1 := blk_frozen BK277.out 1) | ((with_reducible refine gate_dst (N := 3) rfl ?_); refine box_event ?hg (N := 3) ?hd (cs := #[.int .i64 0, .int .i64 0]) (t := 25) ?hr ?_; (case hd => rfl); (case hg => rfl); (case hr => first | (go_simp; done) | (go_simp; rfl)); intro gb278 hg w5 hbox hb; have BK278 := Aside0.mk (hbox); have GW278 := Aside0.mk ((by rw [hg]; exact (below_size (by repeat (first | (with_reducible first | exact HB.out | apply below_alloc | apply pw_below_drewN | apply below_drew1 | refine below_set ?_ GE277.out) | exact HB.out))) : w.heap.size ≤ gb278)); have GE278 := Aside0.mk ((by rw [hg]; exact (below_size (by repeat (first | (with_reducible first | exact HB.out | apply below_alloc | apply pw_below_drewN | apply below_drew1 | refine below_set ?_ GE277.out) | exact HB.out))) : w.heap.size ≤ gb278)); replace HB := Aside0.mk (below_step (by repeat (first | (with_reducible first | exact HB.out | apply below_alloc | apply pw_below_drewN | apply below_drew1 | refine below_set ?_ GE277.out) | exact HB.out)) hb); have NB277_278 := Aside0.mk ((by rw [hg]; exact Nat.ne_of_lt (blk_lt (g := gb277) (o := .cells #[.int .i64 1, .int .i64 6] 25 (0, 0)) (by (with_reducible repeat (first | refine blk_drewN ?_ _ | refine blk_drew ?_ | refine blk_alloc ?_ _)); refine blk_put (cs := #[.int .i64 1, .int .i64 0]) ?_ 1 _ rfl; (with_reducible repeat (first | refine blk_drewN ?_ _ | refine blk_drew ?_ | refine blk_alloc ?_ _)); refine blk_put (cs := #[.int .i64 0, .int .i64 0]) ?_ 0 _ rfl; (with_reducible repeat (first | refine blk_drewN ?_ _ | refine blk_drew ?_ | refine blk_alloc ?_ _)); exact BK277.out)) : gb277 ≠ gb278)); have NB278_277 := Aside0.mk ((by rw [hg]; exact Nat.ne_of_gt (blk_lt (g := gb277) (o := .cells #[.int .i64 1, .int .i64 6] 25 (0, 0)) (by (with_reducible repeat (first | refine blk_drewN ?_ _ | refine blk_drew ?_ | refine blk_alloc ?_ _)); refine blk_put (cs := #[.int .i64 1, .int .i64 0]) ?_ 1 _ rfl; (with_reducible repeat (first | refine blk_drewN ?_ _ | refine blk_drew ?_ | refine blk_alloc ?_ _)); refine blk_put (cs := #[.int .i64 0, .int .i64 0]) ?_ 0 _ rfl; (with_reducible repeat (first | refine blk_drewN ?_ _ | refine blk_drew ?_ | refine blk_alloc ?_ _)); exact BK277.out)) : gb278 ≠ gb277)); replace BK277 := Aside0.mk (blk_below (g := gb277) (o := .cells #[.int .i64 1, .int .i64 6] 25 (0, 0)) (by (with_reducible repeat (first | refine blk_drewN ?_ _ | refine blk_drew ?_ | refine blk_alloc ?_ _)); refine blk_put (cs := #[.int .i64 1, .int .i64 0]) ?_ 1 _ rfl; (with_reducible repeat (first | refine blk_drewN ?_ _ | refine blk_drew ?_ | refine blk_alloc ?_ _)); refine blk_put (cs := #[.int .i64 0, .int .i64 0]) ?_ 0 _ rfl; (with_reducible repeat (first | refine blk_drewN ?_ _ | refine blk_drew ?_ | refine blk_alloc ?_ _)); exact BK277.out) hb); clear hb hbox hg; have hnb6 := NB278_277.out; have hnc6 := NB277_278.out; have hcz7_0 : w5.cell? ⟨gb278, 0, none⟩ = some (.int .i64 0) := (blk_cell BK278.out 0).trans rfl; have hcz7_1 : w5.cell? ⟨gb278, 1, none⟩ = some (.int .i64 0) := (blk_cell BK278.out 1).trans rfl; have hfz7_0 := blk_frozen BK278.out 0; have hfz7_1 := blk_frozen BK278.out 1) | ((with_reducible refine gate_dst (N := 4) rfl ?_); refine box_event ?hg (N := 4) ?hd (cs := #[.int .i64 0, .int .i64 0]) (t := 25) ?hr ?_; (case hd => rfl); (case hg => rfl); (case hr => first | (go_simp; done) | (go_simp; rfl)); intro gb279 hg w8 hbox hb; have BK279 := Aside0.mk (hbox); have GW279 := Aside0.mk ((by rw [hg]; exact (below_size (by repeat (first | (with_reducible first | exact HB.out | apply below_alloc | apply pw_below_drewN | apply below_drew1 | refine below_set ?_ GE277.out | refine below_set ?_ GE278.out) | exact HB.out))) : w.heap.size ≤ gb279)); have GE279 := Aside0.mk ((by rw [hg]; exact (below_size (by repeat (first | (with_reducible first | exact HB.out | apply below_alloc | apply pw_below_drewN | apply below_drew1 | refine below_set ?_ GE277.out | refine below_set ?_ GE278.out) | exact HB.out))) : w.heap.size ≤ gb279)); replace HB := Aside0.mk (below_step (by repeat (first | (with_reducible first | exact HB.out | apply below_alloc | apply pw_below_drewN | apply below_drew1 | refine below_set ?_ GE277.out | refine below_set ?_ GE278.out) | exact HB.out)) hb); have NB277_279 := Aside0.mk ((by rw [hg]; exact Nat.ne_of_lt (blk_lt (g := gb277) (o := .cells #[.int .i64 1, .int .i64 6] 25 (0, 0)) (by repeat first | (with_reducible first | refine blk_drewN ?_ _ | refine blk_drew ?_ | refine blk_alloc ?_ _) | refine blk_far ?_ NB277_278.out _ | exact BK277.out)) : gb277 ≠ gb279)); have NB279_277 := Aside0.mk ((by rw [hg]; exact Nat.ne_of_gt (blk_lt (g := gb277) (o := .cells #[.int .i64 1, .int .i64 6] 25 (0, 0)) (by repeat first | (with_reducible first | refine blk_drewN ?_ _ | refine blk_drew ?_ | refine blk_alloc ?_ _) | refine blk_far ?_ NB277_278.out _ | exact BK277.out)) : gb279 ≠ gb277)); replace BK277 := Aside0.mk (blk_below (g := gb277) (o := .cells #[.int .i64 1, .int .i64 6] 25 (0, 0)) (by repeat first | (with_reducible first | refine blk_drewN ?_ _ | refine blk_drew ?_ | refine blk_alloc ?_ _) | refine blk_far ?_ NB277_278.out _ | exact BK277.out) hb); have NB278_279 := Aside0.mk ((by rw [hg]; exact Nat.ne_of_lt (blk_lt (g := gb278) (o := .cells #[.int .i64 1, .int .i64 10] 25 (0, 0)) (by (with_reducible repeat (first | refine blk_drewN ?_ _ | refine blk_drew ?_ | refine blk_alloc ?_ _)); refine blk_put (cs := #[.int .i64 1, .int .i64 0]) ?_ 1 _ rfl; (with_reducible repeat (first | refine blk_drewN ?_ _ | refine blk_drew ?_ | refine blk_alloc ?_ _)); refine blk_put (cs := #[.int .i64 0, .int .i64 0]) ?_ 0 _ rfl; (with_reducible repeat (first | refine blk_drewN ?_ _ | refine blk_drew ?_ | refine blk_alloc ?_ _)); exact BK278.out)) : gb278 ≠ gb279)); have NB279_278 := Aside0.mk ((by rw [hg]; exact Nat.ne_of_gt (blk_lt (g := gb278) (o := .cells #[.int .i64 1, .int .i64 10] 25 (0, 0)) (by (with_reducible repeat (first | refine blk_drewN ?_ _ | refine blk_drew ?_ | refine blk_alloc ?_ _)); refine blk_put (cs := #[.int .i64 1, .int .i64 0]) ?_ 1 _ rfl; (with_reducible repeat (first | refine blk_drewN ?_ _ | refine blk_drew ?_ | refine blk_alloc ?_ _)); refine blk_put (cs := #[.int .i64 0, .int .i64 0]) ?_ 0 _ rfl; (with_reducible repeat (first | refine blk_drewN ?_ _ | refine blk_drew ?_ | refine blk_alloc ?_ _)); exact BK278.out)) : gb279 ≠ gb278)); replace BK278 := Aside0.mk (blk_below (g := gb278) (o := .cells #[.int .i64 1, .int .i64 10] 25 (0, 0)) (by (with_reducible repeat (first | refine blk_drewN ?_ _ | refine blk_drew ?_ | refine blk_alloc ?_ _)); refine blk_put (cs := #[.int .i64 1, .int .i64 0]) ?_ 1 _ rfl; (with_reducible repeat (first | refine blk_drewN ?_ _ | refine blk_drew ?_ | refine blk_alloc ?_ _)); refine blk_put (cs := #[.int .i64 0, .int .i64 0]) ?_ 0 _ rfl; (with_reducible repeat (first | refine blk_drewN ?_ _ | refine blk_drew ?_ | refine blk_alloc ?_ _)); exact BK278.out) hb); clear hb hbox hg; have hnb9 := NB279_277.out; have hnc9 := NB277_279.out; have hnb10 := NB279_278.out; have hnc10 := NB278_279.out; have hcz11_0 : w8.cell? ⟨gb279, 0, none⟩ = some (.int .i64 0) := (blk_cell BK279.out 0).trans rfl; have hcz11_1 : w8.cell? ⟨gb279, 1, none⟩ = some (.int .i64 0) := (blk_cell BK279.out 1).trans rfl; have hfz11_0 := blk_frozen BK279.out 0; have hfz11_1 := blk_frozen BK279.out 1))
 (try simp only [Act.put, List.setIfInBounds_toArray, List.set_cons_zero, List.set_cons_succ])
 go_cut [43] (fun v43 wc => ∃ (kq : Nat) (x43_1 : Bool), v43 = .bool x43_1 ∧ Aside0 (wireloomlaw02_examplesT.j0 kq t276 x43_1 1 6 1 10 t276 1 = some true) ∧ Aside0 (kq ≤ k) ∧ Aside0 (wc.heap[gb277]? = some (.cells #[.int .i64 1, .int .i64 6] 25 (0, 0))) ∧ Aside0 (wc.heap[gb278]? = some (.cells #[.int .i64 1, .int .i64 10] 25 (0, 0))) ∧ Aside0 (wc.heap[gb279]? = some (.cells #[.int .i64 t276, .int .i64 1] 25 (0, 0))) ∧ Aside0 (Below w.heap.size w wc))
 case first =>
  have H := HC2.out
  clear HC2
  replace H := Option.bind_eq_some_iff.mp H
  obtain ⟨⟨t280, t281, t282⟩, A120, H⟩ := H
  replace H : ((wireloomlaw02_is.f (-3) 2).bind fun bt283 => (if ((!(t280 == bt283.1) || (!(t281 == bt283.2.1))) || (!(t282 == bt283.2.2))) = true then (wireloomlaw02_examplesT.j0 k t276 true 1 6 1 10 t276 1) else ((wireloomlaw02_created.f k 0 5).bind fun bt286 => ((wireloomlaw02_is.f 0 1).bind fun bt289 => (if ((!(bt286.1 == bt289.1) || (!(bt286.2.1 == bt289.2.1))) || (!(bt286.2.2 == bt289.2.2))) = true then (wireloomlaw02_examplesT.j0 k t276 true 1 6 1 10 t276 1) else ((wireloomlaw02_created.f k 1 0).bind fun bt292 => (if bt292.2.2 = 3 then ((wireloomlaw02_add.f k 1 6 1 10).bind fun bt295 => ((wireloomlaw02_is.f 4 15).bind fun bt298 => (if ((!(bt295.1 == bt298.1) || (!(bt295.2.1 == bt298.2.1))) || (!(bt295.2.2 == bt298.2.2))) = true then (wireloomlaw02_examplesT.j0 k t276 true 1 6 1 10 t276 1) else ((wireloomlaw02_div.f k 3 4 (-9) 2).bind fun bt301 => ((wireloomlaw02_is.f (-1) 6).bind fun bt304 => (if ((!(bt301.1 == bt304.1) || (!(bt301.2.1 == bt304.2.1))) || (!(bt301.2.2 == bt304.2.2))) = true then (wireloomlaw02_examplesT.j0 k t276 true 1 6 1 10 t276 1) else ((wireloomlaw02_add.f k t276 1 1 1).bind fun bt307 => (wireloomlaw02_examplesT.j0 k t276 (bt307.2.2 != 2) 1 6 1 10 t276 1)))))))) else (wireloomlaw02_examplesT.j0 k t276 true 1 6 1 10 t276 1)))))))) = some true := H
  have A12 := Aside0.mk A120
  clear A120
  replace H := Option.bind_eq_some_iff.mp H
  obtain ⟨⟨t283, t284, t285⟩, A130, H⟩ := H
  replace H : (if ((!(t280 == t283) || (!(t281 == t284))) || (!(t282 == t285))) = true then (wireloomlaw02_examplesT.j0 k t276 true 1 6 1 10 t276 1) else ((wireloomlaw02_created.f k 0 5).bind fun bt286 => ((wireloomlaw02_is.f 0 1).bind fun bt289 => (if ((!(bt286.1 == bt289.1) || (!(bt286.2.1 == bt289.2.1))) || (!(bt286.2.2 == bt289.2.2))) = true then (wireloomlaw02_examplesT.j0 k t276 true 1 6 1 10 t276 1) else ((wireloomlaw02_created.f k 1 0).bind fun bt292 => (if bt292.2.2 = 3 then ((wireloomlaw02_add.f k 1 6 1 10).bind fun bt295 => ((wireloomlaw02_is.f 4 15).bind fun bt298 => (if ((!(bt295.1 == bt298.1) || (!(bt295.2.1 == bt298.2.1))) || (!(bt295.2.2 == bt298.2.2))) = true then (wireloomlaw02_examplesT.j0 k t276 true 1 6 1 10 t276 1) else ((wireloomlaw02_div.f k 3 4 (-9) 2).bind fun bt301 => ((wireloomlaw02_is.f (-1) 6).bind fun bt304 => (if ((!(bt301.1 == bt304.1) || (!(bt301.2.1 == bt304.2.1))) || (!(bt301.2.2 == bt304.2.2))) = true then (wireloomlaw02_examplesT.j0 k t276 true 1 6 1 10 t276 1) else ((wireloomlaw02_add.f k t276 1 1 1).bind fun bt307 => (wireloomlaw02_examplesT.j0 k t276 (bt307.2.2 != 2) 1 6 1 10 t276 1)))))))) else (wireloomlaw02_examplesT.j0 k t276 true 1 6 1 10 t276 1))))))) = some true := H
  have A13 := Aside0.mk A130
  clear A130
  by_cases c14 : ((!(t280 == t283) || (!(t281 == t284))) || (!(t282 == t285))) = true
  ·rw [if_pos c14] at H
   exact absurd H (wireloomlaw02_examplesT.dead_j0_true _ _ _ _ _ _ _ _)
  ·rw [if_neg c14] at H
   have c14b0 : ((!(t280 == t283) || (!(t281 == t284))) || (!(t282 == t285))) = false := by simpa using c14
   clear c14
   (first | rw [c14b0] | (simp only [i64_w, i32_w]; rw [c14b0]) | skip)
   replace H := Option.bind_eq_some_iff.mp H
   obtain ⟨⟨t286, t287, t288⟩, A150, H⟩ := H
   replace H : ((wireloomlaw02_is.f 0 1).bind fun bt289 => (if ((!(t286 == bt289.1) || (!(t287 == bt289.2.1))) || (!(t288 == bt289.2.2))) = true then (wireloomlaw02_examplesT.j0 k t276 true 1 6 1 10 t276 1) else ((wireloomlaw02_created.f k 1 0).bind fun bt292 => (if bt292.2.2 = 3 then ((wireloomlaw02_add.f k 1 6 1 10).bind fun bt295 => ((wireloomlaw02_is.f 4 15).bind fun bt298 => (if ((!(bt295.1 == bt298.1) || (!(bt295.2.1 == bt298.2.1))) || (!(bt295.2.2 == bt298.2.2))) = true then (wireloomlaw02_examplesT.j0 k t276 true 1 6 1 10 t276 1) else ((wireloomlaw02_div.f k 3 4 (-9) 2).bind fun bt301 => ((wireloomlaw02_is.f (-1) 6).bind fun bt304 => (if ((!(bt301.1 == bt304.1) || (!(bt301.2.1 == bt304.2.1))) || (!(bt301.2.2 == bt304.2.2))) = true then (wireloomlaw02_examplesT.j0 k t276 true 1 6 1 10 t276 1) else ((wireloomlaw02_add.f k t276 1 1 1).bind fun bt307 => (wireloomlaw02_examplesT.j0 k t276 (bt307.2.2 != 2) 1 6 1 10 t276 1)))))))) else (wireloomlaw02_examplesT.j0 k t276 true 1 6 1 10 t276 1))))) = some true := H
   have A15 := Aside0.mk A150
   clear A150
   replace H := Option.bind_eq_some_iff.mp H
   obtain ⟨⟨t289, t290, t291⟩, A160, H⟩ := H
   replace H : (if ((!(t286 == t289) || (!(t287 == t290))) || (!(t288 == t291))) = true then (wireloomlaw02_examplesT.j0 k t276 true 1 6 1 10 t276 1) else ((wireloomlaw02_created.f k 1 0).bind fun bt292 => (if bt292.2.2 = 3 then ((wireloomlaw02_add.f k 1 6 1 10).bind fun bt295 => ((wireloomlaw02_is.f 4 15).bind fun bt298 => (if ((!(bt295.1 == bt298.1) || (!(bt295.2.1 == bt298.2.1))) || (!(bt295.2.2 == bt298.2.2))) = true then (wireloomlaw02_examplesT.j0 k t276 true 1 6 1 10 t276 1) else ((wireloomlaw02_div.f k 3 4 (-9) 2).bind fun bt301 => ((wireloomlaw02_is.f (-1) 6).bind fun bt304 => (if ((!(bt301.1 == bt304.1) || (!(bt301.2.1 == bt304.2.1))) || (!(bt301.2.2 == bt304.2.2))) = true then (wireloomlaw02_examplesT.j0 k t276 true 1 6 1 10 t276 1) else ((wireloomlaw02_add.f k t276 1 1 1).bind fun bt307 => (wireloomlaw02_examplesT.j0 k t276 (bt307.2.2 != 2) 1 6 1 10 t276 1)))))))) else (wireloomlaw02_examplesT.j0 k t276 true 1 6 1 10 t276 1)))) = some true := H
   have A16 := Aside0.mk A160
   clear A160
   by_cases c17 : ((!(t286 == t289) || (!(t287 == t290))) || (!(t288 == t291))) = true
   ·rw [if_pos c17] at H
    exact absurd H (wireloomlaw02_examplesT.dead_j0_true _ _ _ _ _ _ _ _)
   ·rw [if_neg c17] at H
    have c17b0 : ((!(t286 == t289) || (!(t287 == t290))) || (!(t288 == t291))) = false := by simpa using c17
    clear c17
    replace H := Option.bind_eq_some_iff.mp H
    obtain ⟨⟨t292, t293, t294⟩, A180, H⟩ := H
    replace H : (if t294 = 3 then ((wireloomlaw02_add.f k 1 6 1 10).bind fun bt295 => ((wireloomlaw02_is.f 4 15).bind fun bt298 => (if ((!(bt295.1 == bt298.1) || (!(bt295.2.1 == bt298.2.1))) || (!(bt295.2.2 == bt298.2.2))) = true then (wireloomlaw02_examplesT.j0 k t276 true 1 6 1 10 t276 1) else ((wireloomlaw02_div.f k 3 4 (-9) 2).bind fun bt301 => ((wireloomlaw02_is.f (-1) 6).bind fun bt304 => (if ((!(bt301.1 == bt304.1) || (!(bt301.2.1 == bt304.2.1))) || (!(bt301.2.2 == bt304.2.2))) = true then (wireloomlaw02_examplesT.j0 k t276 true 1 6 1 10 t276 1) else ((wireloomlaw02_add.f k t276 1 1 1).bind fun bt307 => (wireloomlaw02_examplesT.j0 k t276 (bt307.2.2 != 2) 1 6 1 10 t276 1)))))))) else (wireloomlaw02_examplesT.j0 k t276 true 1 6 1 10 t276 1)) = some true := H
    have A18 := Aside0.mk A180
    clear A180
    by_cases c19 : t294 = 3
    ·rw [if_pos c19] at H
     have c19b0 : (t294 == 3) = true := beq_iff_eq.mpr c19
     have c19b1 : (t294 != 3) = false := bne_eq_false_iff_eq.mpr c19
     clear c19
     replace H := Option.bind_eq_some_iff.mp H
     obtain ⟨⟨t295, t296, t297⟩, A200, H⟩ := H
     replace H : ((wireloomlaw02_is.f 4 15).bind fun bt298 => (if ((!(t295 == bt298.1) || (!(t296 == bt298.2.1))) || (!(t297 == bt298.2.2))) = true then (wireloomlaw02_examplesT.j0 k t276 true 1 6 1 10 t276 1) else ((wireloomlaw02_div.f k 3 4 (-9) 2).bind fun bt301 => ((wireloomlaw02_is.f (-1) 6).bind fun bt304 => (if ((!(bt301.1 == bt304.1) || (!(bt301.2.1 == bt304.2.1))) || (!(bt301.2.2 == bt304.2.2))) = true then (wireloomlaw02_examplesT.j0 k t276 true 1 6 1 10 t276 1) else ((wireloomlaw02_add.f k t276 1 1 1).bind fun bt307 => (wireloomlaw02_examplesT.j0 k t276 (bt307.2.2 != 2) 1 6 1 10 t276 1))))))) = some true := H
     have A20 := Aside0.mk A200
     clear A200
     replace H := Option.bind_eq_some_iff.mp H
     obtain ⟨⟨t298, t299, t300⟩, A210, H⟩ := H
     replace H : (if ((!(t295 == t298) || (!(t296 == t299))) || (!(t297 == t300))) = true then (wireloomlaw02_examplesT.j0 k t276 true 1 6 1 10 t276 1) else ((wireloomlaw02_div.f k 3 4 (-9) 2).bind fun bt301 => ((wireloomlaw02_is.f (-1) 6).bind fun bt304 => (if ((!(bt301.1 == bt304.1) || (!(bt301.2.1 == bt304.2.1))) || (!(bt301.2.2 == bt304.2.2))) = true then (wireloomlaw02_examplesT.j0 k t276 true 1 6 1 10 t276 1) else ((wireloomlaw02_add.f k t276 1 1 1).bind fun bt307 => (wireloomlaw02_examplesT.j0 k t276 (bt307.2.2 != 2) 1 6 1 10 t276 1)))))) = some true := H
     have A21 := Aside0.mk A210
     clear A210
     by_cases c22 : ((!(t295 == t298) || (!(t296 == t299))) || (!(t297 == t300))) = true
     ·rw [if_pos c22] at H
      exact absurd H (wireloomlaw02_examplesT.dead_j0_true _ _ _ _ _ _ _ _)
     ·rw [if_neg c22] at H
      have c22b0 : ((!(t295 == t298) || (!(t296 == t299))) || (!(t297 == t300))) = false := by simpa using c22
      clear c22
      replace H := Option.bind_eq_some_iff.mp H
      obtain ⟨⟨t301, t302, t303⟩, A230, H⟩ := H
      replace H : ((wireloomlaw02_is.f (-1) 6).bind fun bt304 => (if ((!(t301 == bt304.1) || (!(t302 == bt304.2.1))) || (!(t303 == bt304.2.2))) = true then (wireloomlaw02_examplesT.j0 k t276 true 1 6 1 10 t276 1) else ((wireloomlaw02_add.f k t276 1 1 1).bind fun bt307 => (wireloomlaw02_examplesT.j0 k t276 (bt307.2.2 != 2) 1 6 1 10 t276 1)))) = some true := H
      have A23 := Aside0.mk A230
      clear A230
      replace H := Option.bind_eq_some_iff.mp H
      obtain ⟨⟨t304, t305, t306⟩, A240, H⟩ := H
      replace H : (if ((!(t301 == t304) || (!(t302 == t305))) || (!(t303 == t306))) = true then (wireloomlaw02_examplesT.j0 k t276 true 1 6 1 10 t276 1) else ((wireloomlaw02_add.f k t276 1 1 1).bind fun bt307 => (wireloomlaw02_examplesT.j0 k t276 (bt307.2.2 != 2) 1 6 1 10 t276 1))) = some true := H
      have A24 := Aside0.mk A240
      clear A240
      by_cases c25 : ((!(t301 == t304) || (!(t302 == t305))) || (!(t303 == t306))) = true
      ·rw [if_pos c25] at H
       exact absurd H (wireloomlaw02_examplesT.dead_j0_true _ _ _ _ _ _ _ _)
      ·rw [if_neg c25] at H
       have c25b0 : ((!(t301 == t304) || (!(t302 == t305))) || (!(t303 == t306))) = false := by simpa using c25
       clear c25
       replace H := Option.bind_eq_some_iff.mp H
       obtain ⟨⟨t307, t308, t309⟩, A260, H⟩ := H
       replace H : (wireloomlaw02_examplesT.j0 k t276 (t309 != 2) 1 6 1 10 t276 1) = some true := H
       have A26 := Aside0.mk A260
       clear A260
       have H' := Aside0.mk H
       clear H
       go_wp2_with (first | ((with_reducible refine gate_callee (f := 25) rfl ?_); refine goesL_ (some 10) rfl rfl Tryd.func25 (by kernel_rfl) rfl #[.int .i64 6, .int .i64 (-4)] rfl (by (try simp only [List.map_toArray, List.map_cons, List.map_nil]); first | done | rfl | (simp only [List.length_drop, List.length_take]; rfl)) ?_; (with_reducible refine (wireloomlaw02_created.calls k 6 (-4) t280 t281 t282 _ A12.out).mono ?_); rintro e w27 ⟨rfl, hb⟩; refine ⟨_, rfl, ?_⟩; replace BK277 := Aside0.mk (blk_below (g := gb277) (o := .cells #[.int .i64 1, .int .i64 6] 25 (0, 0)) (by repeat first | (with_reducible first | refine blk_drewN ?_ _ | refine blk_drew ?_ | refine blk_alloc ?_ _) | refine blk_far ?_ NB277_279.out _ | exact BK277.out) hb); replace BK278 := Aside0.mk (blk_below (g := gb278) (o := .cells #[.int .i64 1, .int .i64 10] 25 (0, 0)) (by repeat first | (with_reducible first | refine blk_drewN ?_ _ | refine blk_drew ?_ | refine blk_alloc ?_ _) | refine blk_far ?_ NB278_279.out _ | exact BK278.out) hb); replace BK279 := Aside0.mk (blk_below (g := gb279) (o := .cells #[.int .i64 t276, .int .i64 1] 25 (0, 0)) (by (with_reducible repeat (first | refine blk_drewN ?_ _ | refine blk_drew ?_ | refine blk_alloc ?_ _)); refine blk_put (cs := #[.int .i64 t276, .int .i64 0]) ?_ 1 _ rfl; (with_reducible repeat (first | refine blk_drewN ?_ _ | refine blk_drew ?_ | refine blk_alloc ?_ _)); refine blk_put (cs := #[.int .i64 0, .int .i64 0]) ?_ 0 _ rfl; (with_reducible repeat (first | refine blk_drewN ?_ _ | refine blk_drew ?_ | refine blk_alloc ?_ _)); exact BK279.out) hb); replace HB := Aside0.mk (below_step (by repeat (first | (with_reducible first | exact HB.out | apply below_alloc | apply pw_below_drewN | apply below_drew1 | refine below_set ?_ GE277.out | refine below_set ?_ GE278.out | refine below_set ?_ GE279.out) | exact HB.out)) hb); (try clear hb); (try clear A12)) | ((with_reducible refine gate_callee (f := 16) rfl ?_); refine goesL_ (some 11) rfl rfl Tryd.func16 (by kernel_rfl) rfl #[.int .i64 (-3), .int .i64 2] rfl (by (try simp only [List.map_toArray, List.map_cons, List.map_nil]); first | done | rfl | (simp only [List.length_drop, List.length_take]; rfl)) ?_; (with_reducible refine (wireloomlaw02_is.calls (-3) 2 t283 t284 t285 _ A13.out).mono ?_); rintro e w28 ⟨rfl, hb⟩; refine ⟨_, rfl, ?_⟩; replace BK277 := Aside0.mk (blk_below (g := gb277) (o := .cells #[.int .i64 1, .int .i64 6] 25 (0, 0)) (by (with_reducible repeat (first | refine blk_drewN ?_ _ | refine blk_drew ?_ | refine blk_alloc ?_ _)); exact BK277.out) hb); replace BK278 := Aside0.mk (blk_below (g := gb278) (o := .cells #[.int .i64 1, .int .i64 10] 25 (0, 0)) (by (with_reducible repeat (first | refine blk_drewN ?_ _ | refine blk_drew ?_ | refine blk_alloc ?_ _)); exact BK278.out) hb); replace BK279 := Aside0.mk (blk_below (g := gb279) (o := .cells #[.int .i64 t276, .int .i64 1] 25 (0, 0)) (by (with_reducible repeat (first | refine blk_drewN ?_ _ | refine blk_drew ?_ | refine blk_alloc ?_ _)); exact BK279.out) hb); replace HB := Aside0.mk (below_step (by repeat (first | (with_reducible first | exact HB.out | apply below_alloc | apply pw_below_drewN | apply below_drew1 | refine below_set ?_ GE277.out | refine below_set ?_ GE278.out | refine below_set ?_ GE279.out) | exact HB.out)) hb); (try clear hb); (try clear A13)) | (go_at_call 25; (with_reducible refine (wireloomlaw02_created.calls k 0 5 t286 t287 t288 _ A15.out).mono ?_); rintro e w29 ⟨rfl, hb⟩; replace BK277 := Aside0.mk (blk_below (g := gb277) (o := .cells #[.int .i64 1, .int .i64 6] 25 (0, 0)) (by (with_reducible repeat (first | refine blk_drewN ?_ _ | refine blk_drew ?_ | refine blk_alloc ?_ _)); exact BK277.out) hb); replace BK278 := Aside0.mk (blk_below (g := gb278) (o := .cells #[.int .i64 1, .int .i64 10] 25 (0, 0)) (by (with_reducible repeat (first | refine blk_drewN ?_ _ | refine blk_drew ?_ | refine blk_alloc ?_ _)); exact BK278.out) hb); replace BK279 := Aside0.mk (blk_below (g := gb279) (o := .cells #[.int .i64 t276, .int .i64 1] 25 (0, 0)) (by (with_reducible repeat (first | refine blk_drewN ?_ _ | refine blk_drew ?_ | refine blk_alloc ?_ _)); exact BK279.out) hb); replace HB := Aside0.mk (below_step (by repeat (first | (with_reducible first | exact HB.out | apply below_alloc | apply pw_below_drewN | apply below_drew1 | refine below_set ?_ GE277.out | refine below_set ?_ GE278.out | refine below_set ?_ GE279.out) | exact HB.out)) hb); (try clear hb); (try clear A15)) | (go_at_call 16; (with_reducible refine (wireloomlaw02_is.calls 0 1 t289 t290 t291 _ A16.out).mono ?_); rintro e w30 ⟨rfl, hb⟩; replace BK277 := Aside0.mk (blk_below (g := gb277) (o := .cells #[.int .i64 1, .int .i64 6] 25 (0, 0)) (by (with_reducible repeat (first | refine blk_drewN ?_ _ | refine blk_drew ?_ | refine blk_alloc ?_ _)); exact BK277.out) hb); replace BK278 := Aside0.mk (blk_below (g := gb278) (o := .cells #[.int .i64 1, .int .i64 10] 25 (0, 0)) (by (with_reducible repeat (first | refine blk_drewN ?_ _ | refine blk_drew ?_ | refine blk_alloc ?_ _)); exact BK278.out) hb); replace BK279 := Aside0.mk (blk_below (g := gb279) (o := .cells #[.int .i64 t276, .int .i64 1] 25 (0, 0)) (by (with_reducible repeat (first | refine blk_drewN ?_ _ | refine blk_drew ?_ | refine blk_alloc ?_ _)); exact BK279.out) hb); replace HB := Aside0.mk (below_step (by repeat (first | (with_reducible first | exact HB.out | apply below_alloc | apply pw_below_drewN | apply below_drew1 | refine below_set ?_ GE277.out | refine below_set ?_ GE278.out | refine below_set ?_ GE279.out) | exact HB.out)) hb); (try clear hb); (try clear A16)) | (go_at_call 25; (with_reducible refine (wireloomlaw02_created.calls k 1 0 t292 t293 t294 _ A18.out).mono ?_); rintro e w31 ⟨rfl, hb⟩; replace BK277 := Aside0.mk (blk_below (g := gb277) (o := .cells #[.int .i64 1, .int .i64 6] 25 (0, 0)) (by (with_reducible repeat (first | refine blk_drewN ?_ _ | refine blk_drew ?_ | refine blk_alloc ?_ _)); exact BK277.out) hb); replace BK278 := Aside0.mk (blk_below (g := gb278) (o := .cells #[.int .i64 1, .int .i64 10] 25 (0, 0)) (by (with_reducible repeat (first | refine blk_drewN ?_ _ | refine blk_drew ?_ | refine blk_alloc ?_ _)); exact BK278.out) hb); replace BK279 := Aside0.mk (blk_below (g := gb279) (o := .cells #[.int .i64 t276, .int .i64 1] 25 (0, 0)) (by (with_reducible repeat (first | refine blk_drewN ?_ _ | refine blk_drew ?_ | refine blk_alloc ?_ _)); exact BK279.out) hb); replace HB := Aside0.mk (below_step (by repeat (first | (with_reducible first | exact HB.out | apply below_alloc | apply pw_below_drewN | apply below_drew1 | refine below_set ?_ GE277.out | refine below_set ?_ GE278.out | refine below_set ?_ GE279.out) | exact HB.out)) hb); (try clear hb); (try clear A18); have hnb32 := NB277_278.out; have hnc32 := NB278_277.out; have hnb33 := NB277_279.out; have hnc33 := NB279_277.out; have hcz34_0 : w31.cell? ⟨gb277, 0, none⟩ = some (.int .i64 1) := (blk_cell BK277.out 0).trans rfl; have hcz34_1 : w31.cell? ⟨gb277, 1, none⟩ = some (.int .i64 6) := (blk_cell BK277.out 1).trans rfl; have hfz34_0 := blk_frozen BK277.out 0; have hfz34_1 := blk_frozen BK277.out 1; have hnb35 := NB278_279.out; have hnc35 := NB279_278.out; have hcz36_0 : w31.cell? ⟨gb278, 0, none⟩ = some (.int .i64 1) := (blk_cell BK278.out 0).trans rfl; have hcz36_1 : w31.cell? ⟨gb278, 1, none⟩ = some (.int .i64 10) := (blk_cell BK278.out 1).trans rfl; have hfz36_0 := blk_frozen BK278.out 0; have hfz36_1 := blk_frozen BK278.out 1) | (go_at_call 14; (with_reducible refine (wireloomlaw02_add.calls k 1 6 1 10 t295 t296 t297 _ A20.out).mono ?_); rintro e w37 ⟨rfl, hb⟩; replace BK277 := Aside0.mk (blk_below (g := gb277) (o := .cells #[.int .i64 1, .int .i64 6] 25 (0, 0)) (by (with_reducible repeat (first | refine blk_drewN ?_ _ | refine blk_drew ?_ | refine blk_alloc ?_ _)); exact BK277.out) hb); replace BK278 := Aside0.mk (blk_below (g := gb278) (o := .cells #[.int .i64 1, .int .i64 10] 25 (0, 0)) (by (with_reducible repeat (first | refine blk_drewN ?_ _ | refine blk_drew ?_ | refine blk_alloc ?_ _)); exact BK278.out) hb); replace BK279 := Aside0.mk (blk_below (g := gb279) (o := .cells #[.int .i64 t276, .int .i64 1] 25 (0, 0)) (by (with_reducible repeat (first | refine blk_drewN ?_ _ | refine blk_drew ?_ | refine blk_alloc ?_ _)); exact BK279.out) hb); replace HB := Aside0.mk (below_step (by repeat (first | (with_reducible first | exact HB.out | apply below_alloc | apply pw_below_drewN | apply below_drew1 | refine below_set ?_ GE277.out | refine below_set ?_ GE278.out | refine below_set ?_ GE279.out) | exact HB.out)) hb); (try clear hb); (try clear A20)) | (go_at_call 16; (with_reducible refine (wireloomlaw02_is.calls 4 15 t298 t299 t300 _ A21.out).mono ?_); rintro e w38 ⟨rfl, hb⟩; replace BK277 := Aside0.mk (blk_below (g := gb277) (o := .cells #[.int .i64 1, .int .i64 6] 25 (0, 0)) (by (with_reducible repeat (first | refine blk_drewN ?_ _ | refine blk_drew ?_ | refine blk_alloc ?_ _)); exact BK277.out) hb); replace BK278 := Aside0.mk (blk_below (g := gb278) (o := .cells #[.int .i64 1, .int .i64 10] 25 (0, 0)) (by (with_reducible repeat (first | refine blk_drewN ?_ _ | refine blk_drew ?_ | refine blk_alloc ?_ _)); exact BK278.out) hb); replace BK279 := Aside0.mk (blk_below (g := gb279) (o := .cells #[.int .i64 t276, .int .i64 1] 25 (0, 0)) (by (with_reducible repeat (first | refine blk_drewN ?_ _ | refine blk_drew ?_ | refine blk_alloc ?_ _)); exact BK279.out) hb); replace HB := Aside0.mk (below_step (by repeat (first | (with_reducible first | exact HB.out | apply below_alloc | apply pw_below_drewN | apply below_drew1 | refine below_set ?_ GE277.out | refine below_set ?_ GE278.out | refine below_set ?_ GE279.out) | exact HB.out)) hb); (try clear hb); (try clear A21)) | (go_at_call 22; (with_reducible refine (wireloomlaw02_div.calls k 3 4 (-9) 2 t301 t302 t303 _ A23.out).mono ?_); rintro e w39 ⟨rfl, hb⟩; replace BK277 := Aside0.mk (blk_below (g := gb277) (o := .cells #[.int .i64 1, .int .i64 6] 25 (0, 0)) (by (with_reducible repeat (first | refine blk_drewN ?_ _ | refine blk_drew ?_ | refine blk_alloc ?_ _)); exact BK277.out) hb); replace BK278 := Aside0.mk (blk_below (g := gb278) (o := .cells #[.int .i64 1, .int .i64 10] 25 (0, 0)) (by (with_reducible repeat (first | refine blk_drewN ?_ _ | refine blk_drew ?_ | refine blk_alloc ?_ _)); exact BK278.out) hb); replace BK279 := Aside0.mk (blk_below (g := gb279) (o := .cells #[.int .i64 t276, .int .i64 1] 25 (0, 0)) (by (with_reducible repeat (first | refine blk_drewN ?_ _ | refine blk_drew ?_ | refine blk_alloc ?_ _)); exact BK279.out) hb); replace HB := Aside0.mk (below_step (by repeat (first | (with_reducible first | exact HB.out | apply below_alloc | apply pw_below_drewN | apply below_drew1 | refine below_set ?_ GE277.out | refine below_set ?_ GE278.out | refine below_set ?_ GE279.out) | exact HB.out)) hb); (try clear hb); (try clear A23)) | (go_at_call 16; (with_reducible refine (wireloomlaw02_is.calls (-1) 6 t304 t305 t306 _ A24.out).mono ?_); rintro e w40 ⟨rfl, hb⟩; replace BK277 := Aside0.mk (blk_below (g := gb277) (o := .cells #[.int .i64 1, .int .i64 6] 25 (0, 0)) (by (with_reducible repeat (first | refine blk_drewN ?_ _ | refine blk_drew ?_ | refine blk_alloc ?_ _)); exact BK277.out) hb); replace BK278 := Aside0.mk (blk_below (g := gb278) (o := .cells #[.int .i64 1, .int .i64 10] 25 (0, 0)) (by (with_reducible repeat (first | refine blk_drewN ?_ _ | refine blk_drew ?_ | refine blk_alloc ?_ _)); exact BK278.out) hb); replace BK279 := Aside0.mk (blk_below (g := gb279) (o := .cells #[.int .i64 t276, .int .i64 1] 25 (0, 0)) (by (with_reducible repeat (first | refine blk_drewN ?_ _ | refine blk_drew ?_ | refine blk_alloc ?_ _)); exact BK279.out) hb); replace HB := Aside0.mk (below_step (by repeat (first | (with_reducible first | exact HB.out | apply below_alloc | apply pw_below_drewN | apply below_drew1 | refine below_set ?_ GE277.out | refine below_set ?_ GE278.out | refine below_set ?_ GE279.out) | exact HB.out)) hb); (try clear hb); (try clear A24); have hcz41_0 : w40.cell? ⟨gb279, 0, none⟩ = some (.int .i64 t276) := (blk_cell BK279.out 0).trans rfl; have hcz41_1 : w40.cell? ⟨gb279, 1, none⟩ = some (.int .i64 1) := (blk_cell BK279.out 1).trans rfl; have hfz41_0 := blk_frozen BK279.out 0; have hfz41_1 := blk_frozen BK279.out 1) | (go_at_call 14; (with_reducible refine (wireloomlaw02_add.calls k t276 1 1 1 t307 t308 t309 _ A26.out).mono ?_); rintro e w42 ⟨rfl, hb⟩; replace BK277 := Aside0.mk (blk_below (g := gb277) (o := .cells #[.int .i64 1, .int .i64 6] 25 (0, 0)) (by (with_reducible repeat (first | refine blk_drewN ?_ _ | refine blk_drew ?_ | refine blk_alloc ?_ _)); exact BK277.out) hb); replace BK278 := Aside0.mk (blk_below (g := gb278) (o := .cells #[.int .i64 1, .int .i64 10] 25 (0, 0)) (by (with_reducible repeat (first | refine blk_drewN ?_ _ | refine blk_drew ?_ | refine blk_alloc ?_ _)); exact BK278.out) hb); replace BK279 := Aside0.mk (blk_below (g := gb279) (o := .cells #[.int .i64 t276, .int .i64 1] 25 (0, 0)) (by (with_reducible repeat (first | refine blk_drewN ?_ _ | refine blk_drew ?_ | refine blk_alloc ?_ _)); exact BK279.out) hb); replace HB := Aside0.mk (below_step (by repeat (first | (with_reducible first | exact HB.out | apply below_alloc | apply pw_below_drewN | apply below_drew1 | refine below_set ?_ GE277.out | refine below_set ?_ GE278.out | refine below_set ?_ GE279.out) | exact HB.out)) hb); (try clear hb); (try clear A26)))
       go_meet
       case rel => exact ⟨_, ((t309 != 2)), (by first | rfl | (simp; done) | (simp [*]; done)), H', ⟨by first | omega | exact Nat.le_refl _⟩, ⟨by (with_reducible repeat (first | refine blk_drewN ?_ _ | refine blk_drew ?_ | refine blk_alloc ?_ _)); exact BK277.out⟩, ⟨by (with_reducible repeat (first | refine blk_drewN ?_ _ | refine blk_drew ?_ | refine blk_alloc ?_ _)); exact BK278.out⟩, ⟨by (with_reducible repeat (first | refine blk_drewN ?_ _ | refine blk_drew ?_ | refine blk_alloc ?_ _)); exact BK279.out⟩, ⟨by repeat (first | (with_reducible first | exact HB.out | apply below_alloc | apply pw_below_drewN | apply below_drew1 | refine below_set ?_ GE277.out | refine below_set ?_ GE278.out | refine below_set ?_ GE279.out) | exact HB.out)⟩⟩
    ·rw [if_neg c19] at H
     exact absurd H (wireloomlaw02_examplesT.dead_j0_true _ _ _ _ _ _ _ _)
 case rest =>
  clear HC2
  try clear c1
  try clear c2
  try clear p2
  try clear c3
  try clear c6
  try clear c9
  try clear c10
  try clear c14
  try clear c14b0
  try clear c16
  try clear c17
  try clear c17b0
  try clear c19
  try clear c19b0
  try clear c19b1
  try clear c22
  try clear c22b0
  try clear c25
  try clear c25b0
  try clear c28
  try clear c32
  try clear c33
  try clear c35
  try clear hcz11_0
  try clear hcz11_1
  try clear hcz34_0
  try clear hcz34_1
  try clear hcz36_0
  try clear hcz36_1
  try clear hcz41_0
  try clear hcz41_1
  try clear hcz4_0
  try clear hcz4_1
  try clear hcz7_0
  try clear hcz7_1
  try clear hfz11_0
  try clear hfz11_1
  try clear hfz34_0
  try clear hfz34_1
  try clear hfz36_0
  try clear hfz36_1
  try clear hfz41_0
  try clear hfz41_1
  try clear hfz4_0
  try clear hfz4_1
  try clear hfz7_0
  try clear hfz7_1
  obtain ⟨kq, x43_1, rfl, HA, HJ1, BK277, BK278, BK279, HB⟩ := hcut
  cases kq with
  | zero => exact absurd HA.out (by simp [wireloomlaw02_examplesT.j0])
  | succ kj1 =>
   have H := HA.out
   clear HA
   simp only [wireloomlaw02_examplesT.j0] at H
   by_cases c43 : x43_1 = true
   ·subst c43
    have H1 : (some false) = some true := by rw [if_pos rfl] at H; exact H
    clear H
    have H := H1
    clear H1
    exact absurd H (by decide)
   ·replace c43 := Bool.eq_false_iff.mpr c43
    subst c43
    have H1 : ((wireloomlaw02_add.f kj1 t276 1 (-1) 3).bind fun bt310 => (if bt310.2.2 = 2 then ((wireloomlaw02_mul.f kj1 t276 1 1 t276).bind fun bt313 => ((wireloomlaw02_is.f 1 1).bind fun bt316 => (if ((!(bt313.1 == bt316.1) || (!(bt313.2.1 == bt316.2.1))) || (!(bt313.2.2 == bt316.2.2))) = true then (wireloomlaw02_examplesT.j1 kj1 true 1 6 1 10) else ((wireloomlaw02_div.f kj1 1 6 0 1).bind fun bt319 => (if bt319.2.2 = 3 then ((fraction_Cmp.f 1 6 1 10).bind fun t322 => (if t322 = 1 then ((fraction_Valid.f 2 4).bind fun t323 => (if t323 = true then (wireloomlaw02_examplesT.j1 kj1 true 1 6 1 10) else ((fraction_Valid.f 1 6).bind fun t324 => (wireloomlaw02_examplesT.j1 kj1 (!t324) 1 6 1 10)))) else (wireloomlaw02_examplesT.j1 kj1 true 1 6 1 10))) else (wireloomlaw02_examplesT.j1 kj1 true 1 6 1 10)))))) else (wireloomlaw02_examplesT.j1 kj1 true 1 6 1 10))) = some true := by rw [if_neg (show ¬ (false = true) by decide)] at H; exact H
    clear H
    have H := H1
    clear H1
    have HC44 := Aside0.mk H
    clear H
    go_upto_region 7 with (fail)
    go_cut [78] (fun v78 wc => ∃ (kq : Nat) (x78_43 : Bool), v78 = .bool x78_43 ∧ Aside0 (wireloomlaw02_examplesT.j1 kq x78_43 1 6 1 10 = some true) ∧ Aside0 (kq ≤ kj1) ∧ Aside0 (wc.heap[gb277]? = some (.cells #[.int .i64 1, .int .i64 6] 25 (0, 0))) ∧ Aside0 (wc.heap[gb278]? = some (.cells #[.int .i64 1, .int .i64 10] 25 (0, 0))) ∧ Aside0 (wc.heap[gb279]? = some (.cells #[.int .i64 t276, .int .i64 1] 25 (0, 0))) ∧ Aside0 (Below w.heap.size w wc))
    case first =>
     have H := HC44.out
     clear HC44
     replace H := Option.bind_eq_some_iff.mp H
     obtain ⟨⟨t310, t311, t312⟩, A450, H⟩ := H
     replace H : (if t312 = 2 then ((wireloomlaw02_mul.f kj1 t276 1 1 t276).bind fun bt313 => ((wireloomlaw02_is.f 1 1).bind fun bt316 => (if ((!(bt313.1 == bt316.1) || (!(bt313.2.1 == bt316.2.1))) || (!(bt313.2.2 == bt316.2.2))) = true then (wireloomlaw02_examplesT.j1 kj1 true 1 6 1 10) else ((wireloomlaw02_div.f kj1 1 6 0 1).bind fun bt319 => (if bt319.2.2 = 3 then ((fraction_Cmp.f 1 6 1 10).bind fun t322 => (if t322 = 1 then ((fraction_Valid.f 2 4).bind fun t323 => (if t323 = true then (wireloomlaw02_examplesT.j1 kj1 true 1 6 1 10) else ((fraction_Valid.f 1 6).bind fun t324 => (wireloomlaw02_examplesT.j1 kj1 (!t324) 1 6 1 10)))) else (wireloomlaw02_examplesT.j1 kj1 true 1 6 1 10))) else (wireloomlaw02_examplesT.j1 kj1 true 1 6 1 10)))))) else (wireloomlaw02_examplesT.j1 kj1 true 1 6 1 10)) = some true := H
     have A45 := Aside0.mk A450
     clear A450
     by_cases c46 : t312 = 2
     ·rw [if_pos c46] at H
      have c46b0 : (t312 == 2) = true := beq_iff_eq.mpr c46
      have c46b1 : (t312 != 2) = false := bne_eq_false_iff_eq.mpr c46
      clear c46
      (first | rw [c46b0] | (simp only [i64_w, i32_w]; rw [c46b0]) | skip)
      replace H := Option.bind_eq_some_iff.mp H
      obtain ⟨⟨t313, t314, t315⟩, A470, H⟩ := H
      replace H : ((wireloomlaw02_is.f 1 1).bind fun bt316 => (if ((!(t313 == bt316.1) || (!(t314 == bt316.2.1))) || (!(t315 == bt316.2.2))) = true then (wireloomlaw02_examplesT.j1 kj1 true 1 6 1 10) else ((wireloomlaw02_div.f kj1 1 6 0 1).bind fun bt319 => (if bt319.2.2 = 3 then ((fraction_Cmp.f 1 6 1 10).bind fun t322 => (if t322 = 1 then ((fraction_Valid.f 2 4).bind fun t323 => (if t323 = true then (wireloomlaw02_examplesT.j1 kj1 true 1 6 1 10) else ((fraction_Valid.f 1 6).bind fun t324 => (wireloomlaw02_examplesT.j1 kj1 (!t324) 1 6 1 10)))) else (wireloomlaw02_examplesT.j1 kj1 true 1 6 1 10))) else (wireloomlaw02_examplesT.j1 kj1 true 1 6 1 10))))) = some true := H
      have A47 := Aside0.mk A470
      clear A470
      replace H := Option.bind_eq_some_iff.mp H
      obtain ⟨⟨t316, t317, t318⟩, A480, H⟩ := H
      replace H : (if ((!(t313 == t316) || (!(t314 == t317))) || (!(t315 == t318))) = true then (wireloomlaw02_examplesT.j1 kj1 true 1 6 1 10) else ((wireloomlaw02_div.f kj1 1 6 0 1).bind fun bt319 => (if bt319.2.2 = 3 then ((fraction_Cmp.f 1 6 1 10).bind fun t322 => (if t322 = 1 then ((fraction_Valid.f 2 4).bind fun t323 => (if t323 = true then (wireloomlaw02_examplesT.j1 kj1 true 1 6 1 10) else ((fraction_Valid.f 1 6).bind fun t324 => (wireloomlaw02_examplesT.j1 kj1 (!t324) 1 6 1 10)))) else (wireloomlaw02_examplesT.j1 kj1 true 1 6 1 10))) else (wireloomlaw02_examplesT.j1 kj1 true 1 6 1 10)))) = some true := H
      have A48 := Aside0.mk A480
      clear A480
      by_cases c49 : ((!(t313 == t316) || (!(t314 == t317))) || (!(t315 == t318))) = true
      ·rw [if_pos c49] at H
       exact absurd H (wireloomlaw02_examplesT.dead_j1_true _ _ _ _ _)
      ·rw [if_neg c49] at H
       have c49b0 : ((!(t313 == t316) || (!(t314 == t317))) || (!(t315 == t318))) = false := by simpa using c49
       clear c49
       replace H := Option.bind_eq_some_iff.mp H
       obtain ⟨⟨t319, t320, t321⟩, A500, H⟩ := H
       replace H : (if t321 = 3 then ((fraction_Cmp.f 1 6 1 10).bind fun t322 => (if t322 = 1 then ((fraction_Valid.f 2 4).bind fun t323 => (if t323 = true then (wireloomlaw02_examplesT.j1 kj1 true 1 6 1 10) else ((fraction_Valid.f 1 6).bind fun t324 => (wireloomlaw02_examplesT.j1 kj1 (!t324) 1 6 1 10)))) else (wireloomlaw02_examplesT.j1 kj1 true 1 6 1 10))) else (wireloomlaw02_examplesT.j1 kj1 true 1 6 1 10)) = some true := H
       have A50 := Aside0.mk A500
       clear A500
       by_cases c51 : t321 = 3
       ·rw [if_pos c51] at H
        have c51b0 : (t321 == 3) = true := beq_iff_eq.mpr c51
        have c51b1 : (t321 != 3) = false := bne_eq_false_iff_eq.mpr c51
        clear c51
        replace H := Option.bind_eq_some_iff.mp H
        obtain ⟨t322, A520, H⟩ := H
        replace H : (if t322 = 1 then ((fraction_Valid.f 2 4).bind fun t323 => (if t323 = true then (wireloomlaw02_examplesT.j1 kj1 true 1 6 1 10) else ((fraction_Valid.f 1 6).bind fun t324 => (wireloomlaw02_examplesT.j1 kj1 (!t324) 1 6 1 10)))) else (wireloomlaw02_examplesT.j1 kj1 true 1 6 1 10)) = some true := H
        have A52 := Aside0.mk A520
        clear A520
        by_cases c53 : t322 = 1
        ·rw [if_pos c53] at H
         have c53b0 : (t322 == 1) = true := beq_iff_eq.mpr c53
         have c53b1 : (t322 != 1) = false := bne_eq_false_iff_eq.mpr c53
         clear c53
         replace H := Option.bind_eq_some_iff.mp H
         obtain ⟨t323, A540, H⟩ := H
         replace H : (if t323 = true then (wireloomlaw02_examplesT.j1 kj1 true 1 6 1 10) else ((fraction_Valid.f 1 6).bind fun t324 => (wireloomlaw02_examplesT.j1 kj1 (!t324) 1 6 1 10))) = some true := H
         have A54 := Aside0.mk A540
         clear A540
         by_cases c55 : t323 = true
         ·subst c55
          have H1 : (wireloomlaw02_examplesT.j1 kj1 true 1 6 1 10) = some true := by rw [if_pos rfl] at H; exact H
          clear H
          have H := H1
          clear H1
          exact absurd H (wireloomlaw02_examplesT.dead_j1_true _ _ _ _ _)
         ·replace c55 := Bool.eq_false_iff.mpr c55
          subst c55
          have H1 : ((fraction_Valid.f 1 6).bind fun t324 => (wireloomlaw02_examplesT.j1 kj1 (!t324) 1 6 1 10)) = some true := by rw [if_neg (show ¬ (false = true) by decide)] at H; exact H
          clear H
          have H := H1
          clear H1
          replace H := Option.bind_eq_some_iff.mp H
          obtain ⟨t324, A560, H⟩ := H
          replace H : (wireloomlaw02_examplesT.j1 kj1 (!t324) 1 6 1 10) = some true := H
          have A56 := Aside0.mk A560
          clear A560
          have H' := Aside0.mk H
          clear H
          have hnb57 := NB279_277.out
          have hnc57 := NB277_279.out
          have hnb58 := NB279_278.out
          have hnc58 := NB278_279.out
          have hcz59_0 : wc.cell? ⟨gb279, 0, none⟩ = some (.int .i64 t276) := (blk_cell BK279.out 0).trans rfl
          have hcz59_1 : wc.cell? ⟨gb279, 1, none⟩ = some (.int .i64 1) := (blk_cell BK279.out 1).trans rfl
          have hfz59_0 := blk_frozen BK279.out 0
          have hfz59_1 := blk_frozen BK279.out 1
          go_wp2_with (first | ((with_reducible refine gate_callee (f := 14) rfl ?_); refine goesL_ (some 46) rfl rfl Tryd.func14 (by kernel_rfl) rfl #[.agg #[.int .i64 t276, .int .i64 1], .agg #[.int .i64 (-1), .int .i64 3]] rfl (by (try simp only [List.map_toArray, List.map_cons, List.map_nil]); first | done | rfl | (simp only [List.length_drop, List.length_take]; rfl)) ?_; (with_reducible refine (wireloomlaw02_add.calls kj1 t276 1 (-1) 3 t310 t311 t312 _ A45.out).mono ?_); rintro e w60 ⟨rfl, hb⟩; refine ⟨_, rfl, ?_⟩; replace BK277 := Aside0.mk (blk_below BK277.out hb); replace BK278 := Aside0.mk (blk_below BK278.out hb); replace BK279 := Aside0.mk (blk_below BK279.out hb); replace HB := Aside0.mk (below_step HB.out hb); (try clear hb); (try clear A45); have hcz61_0 : w60.cell? ⟨gb279, 0, none⟩ = some (.int .i64 t276) := (blk_cell BK279.out 0).trans rfl; have hcz61_1 : w60.cell? ⟨gb279, 1, none⟩ = some (.int .i64 1) := (blk_cell BK279.out 1).trans rfl; have hfz61_0 := blk_frozen BK279.out 0; have hfz61_1 := blk_frozen BK279.out 1) | (go_at_call 15; (with_reducible refine (wireloomlaw02_mul.calls kj1 t276 1 1 t276 t313 t314 t315 _ A47.out).mono ?_); rintro e w62 ⟨rfl, hb⟩; replace BK277 := Aside0.mk (blk_below BK277.out hb); replace BK278 := Aside0.mk (blk_below BK278.out hb); replace BK279 := Aside0.mk (blk_below BK279.out hb); replace HB := Aside0.mk (below_step HB.out hb); (try clear hb); (try clear A47)) | (go_at_call 16; (with_reducible refine (wireloomlaw02_is.calls 1 1 t316 t317 t318 _ A48.out).mono ?_); rintro e w63 ⟨rfl, hb⟩; replace BK277 := Aside0.mk (blk_below BK277.out hb); replace BK278 := Aside0.mk (blk_below BK278.out hb); replace BK279 := Aside0.mk (blk_below BK279.out hb); replace HB := Aside0.mk (below_step HB.out hb); (try clear hb); (try clear A48); have hnb64 := NB277_278.out; have hnc64 := NB278_277.out; have hcz65_0 : w63.cell? ⟨gb277, 0, none⟩ = some (.int .i64 1) := (blk_cell BK277.out 0).trans rfl; have hcz65_1 : w63.cell? ⟨gb277, 1, none⟩ = some (.int .i64 6) := (blk_cell BK277.out 1).trans rfl; have hfz65_0 := blk_frozen BK277.out 0; have hfz65_1 := blk_frozen BK277.out 1) | (go_at_call 22; (with_reducible refine (wireloomlaw02_div.calls kj1 1 6 0 1 t319 t320 t321 _ A50.out).mono ?_); rintro e w66 ⟨rfl, hb⟩; replace BK277 := Aside0.mk (blk_below BK277.out hb); replace BK278 := Aside0.mk (blk_below BK278.out hb); replace BK279 := Aside0.mk (blk_below BK279.out hb); replace HB := Aside0.mk (below_step HB.out hb); (try clear hb); (try clear A50); have hcz67_0 : w66.cell? ⟨gb277, 0, none⟩ = some (.int .i64 1) := (blk_cell BK277.out 0).trans rfl; have hcz67_1 : w66.cell? ⟨gb277, 1, none⟩ = some (.int .i64 6) := (blk_cell BK277.out 1).trans rfl; have hfz67_0 := blk_frozen BK277.out 0; have hfz67_1 := blk_frozen BK277.out 1; have hcz68_0 : w66.cell? ⟨gb278, 0, none⟩ = some (.int .i64 1) := (blk_cell BK278.out 0).trans rfl; have hcz68_1 : w66.cell? ⟨gb278, 1, none⟩ = some (.int .i64 10) := (blk_cell BK278.out 1).trans rfl; have hfz68_0 := blk_frozen BK278.out 0; have hfz68_1 := blk_frozen BK278.out 1) | (go_at_call 13; (with_reducible refine (fraction_Cmp.calls 1 6 1 10 t322 _ A52.out).mono ?_); rintro e w69 ⟨rfl, hb⟩; replace BK277 := Aside0.mk (blk_below BK277.out hb); replace BK278 := Aside0.mk (blk_below BK278.out hb); replace BK279 := Aside0.mk (blk_below BK279.out hb); replace HB := Aside0.mk (below_step HB.out hb); (try clear hb); (try clear A52)) | (go_at_call 26; (with_reducible refine (fraction_Valid.calls 2 4 false _ A54.out).mono ?_); rintro e w70 ⟨rfl, hb⟩; replace BK277 := Aside0.mk (blk_below BK277.out hb); replace BK278 := Aside0.mk (blk_below BK278.out hb); replace BK279 := Aside0.mk (blk_below BK279.out hb); replace HB := Aside0.mk (below_step HB.out hb); (try clear hb); (try clear A54); have hcz71_0 : w70.cell? ⟨gb277, 0, none⟩ = some (.int .i64 1) := (blk_cell BK277.out 0).trans rfl; have hcz71_1 : w70.cell? ⟨gb277, 1, none⟩ = some (.int .i64 6) := (blk_cell BK277.out 1).trans rfl; have hfz71_0 := blk_frozen BK277.out 0; have hfz71_1 := blk_frozen BK277.out 1) | (go_at_call 26; (with_reducible refine (fraction_Valid.calls 1 6 t324 _ A56.out).mono ?_); rintro e w72 ⟨rfl, hb⟩; replace BK277 := Aside0.mk (blk_below BK277.out hb); replace BK278 := Aside0.mk (blk_below BK278.out hb); replace BK279 := Aside0.mk (blk_below BK279.out hb); replace HB := Aside0.mk (below_step HB.out hb); (try clear hb); (try clear A56)))
          go_meet
          case rel => exact ⟨_, (!t324), (by first | rfl | (simp; done) | (simp [*]; done)), H', ⟨by have := HJ1.out; first | omega | exact Nat.le_refl _⟩, ⟨by (with_reducible repeat (first | refine blk_drewN ?_ _ | refine blk_drew ?_ | refine blk_alloc ?_ _)); exact BK277.out⟩, ⟨by (with_reducible repeat (first | refine blk_drewN ?_ _ | refine blk_drew ?_ | refine blk_alloc ?_ _)); exact BK278.out⟩, ⟨by (with_reducible repeat (first | refine blk_drewN ?_ _ | refine blk_drew ?_ | refine blk_alloc ?_ _)); exact BK279.out⟩, ⟨by repeat (first | (with_reducible first | exact HB.out | apply below_alloc | apply pw_below_drewN | apply below_drew1 | refine below_set ?_ GE277.out | refine below_set ?_ GE278.out | refine below_set ?_ GE279.out) | exact HB.out)⟩⟩
        ·rw [if_neg c53] at H
         exact absurd H (wireloomlaw02_examplesT.dead_j1_true _ _ _ _ _)
       ·rw [if_neg c51] at H
        exact absurd H (wireloomlaw02_examplesT.dead_j1_true _ _ _ _ _)
     ·rw [if_neg c46] at H
      exact absurd H (wireloomlaw02_examplesT.dead_j1_true _ _ _ _ _)
    case rest =>
     clear HC44
     try clear c1
     try clear c2
     try clear p2
     try clear c3
     try clear c4
     try clear c5
     try clear c6
     try clear c9
     try clear c10
     try clear c14
     try clear c14b0
     try clear c16
     try clear c17
     try clear c17b0
     try clear c19
     try clear c19b0
     try clear c19b1
     try clear c22
     try clear c22b0
     try clear c25
     try clear c25b0
     try clear c28
     try clear c32
     try clear c33
     try clear c35
     try clear c43
     try clear c46
     try clear c46b0
     try clear c46b1
     try clear c49
     try clear c49b0
     try clear c51
     try clear c51b0
     try clear c51b1
     try clear c53
     try clear c53b0
     try clear c53b1
     try clear c55
     try clear c57
     try clear c58
     try clear c64
     try clear hcz11_0
     try clear hcz11_1
     try clear hcz34_0
     try clear hcz34_1
     try clear hcz36_0
     try clear hcz36_1
     try clear hcz41_0
     try clear hcz41_1
     try clear hcz4_0
     try clear hcz4_1
     try clear hcz59_0
     try clear hcz59_1
     try clear hcz61_0
     try clear hcz61_1
     try clear hcz65_0
     try clear hcz65_1
     try clear hcz67_0
     try clear hcz67_1
     try clear hcz68_0
     try clear hcz68_1
     try clear hcz71_0
     try clear hcz71_1
     try clear hcz7_0
     try clear hcz7_1
     try clear hfz11_0
     try clear hfz11_1
     try clear hfz34_0
     try clear hfz34_1
     try clear hfz36_0
     try clear hfz36_1
     try clear hfz41_0
     try clear hfz41_1
     try clear hfz4_0
     try clear hfz4_1
     try clear hfz59_0
     try clear hfz59_1
     try clear hfz61_0
     try clear hfz61_1
     try clear hfz65_0
     try clear hfz65_1
     try clear hfz67_0
     try clear hfz67_1
     try clear hfz68_0
     try clear hfz68_1
     try clear hfz71_0
     try clear hfz71_1
     try clear hfz7_0
     try clear hfz7_1
     try clear p2
     obtain ⟨kq, x78_43, rfl, HA, HJ43, BK277, BK278, BK279, HB⟩ := hcut
     cases kq with
     | zero => exact absurd HA.out (by simp [wireloomlaw02_examplesT.j1])
     | succ kj43 =>
      have H := HA.out
      clear HA
      simp only [wireloomlaw02_examplesT.j1] at H
      by_cases c73 : x78_43 = true
      ·subst c73
       have H1 : (some false) = some true := by rw [if_pos rfl] at H; exact H
       clear H
       have H := H1
       clear H1
       exact absurd H (by decide)
      ·replace c73 := Bool.eq_false_iff.mpr c73
       subst c73
       have H1 : ((wireloomlaw02_parsed.f (⟨#[52, 47, 50]⟩ : ByteArray)).bind fun bt325 => (if bt325.2.2 = 5 then ((wireloomlaw02_parsed.f (⟨#[49, 47, 49]⟩ : ByteArray)).bind fun bt328 => (if bt328.2.2 = 5 then ((wireloomlaw02_parsed.f (⟨#[45, 48]⟩ : ByteArray)).bind fun bt331 => (if bt331.2.2 = 5 then ((wireloomlaw02_parsed.f (⟨#[43, 49]⟩ : ByteArray)).bind fun bt334 => (if bt334.2.2 = 5 then ((wireloomlaw02_parsed.f (⟨#[45, 51, 47, 50]⟩ : ByteArray)).bind fun bt337 => ((wireloomlaw02_is.f (-3) 2).bind fun bt340 => (wireloomlaw02_examplesT.j2 kj43 ((!(bt337.1 == bt340.1) || (!(bt337.2.1 == bt340.2.1))) || (!(bt337.2.2 == bt340.2.2))) 1 6 1 10))) else (wireloomlaw02_examplesT.j2 kj43 true 1 6 1 10))) else (wireloomlaw02_examplesT.j2 kj43 true 1 6 1 10))) else (wireloomlaw02_examplesT.j2 kj43 true 1 6 1 10))) else (wireloomlaw02_examplesT.j2 kj43 true 1 6 1 10))) = some true := by rw [if_neg (show ¬ (false = true) by decide)] at H; exact H
       clear H
       have H := H1
       clear H1
       have HC74 := Aside0.mk H
       clear H
       go_upto_region 9 with (fail)
       go_cut [101] (fun v101 wc => ∃ (kq : Nat) (x101_73 : Bool), v101 = .bool x101_73 ∧ Aside0 (wireloomlaw02_examplesT.j2 kq x101_73 1 6 1 10 = some true) ∧ Aside0 (kq ≤ kj43) ∧ Aside0 (wc.heap[gb277]? = some (.cells #[.int .i64 1, .int .i64 6] 25 (0, 0))) ∧ Aside0 (wc.heap[gb278]? = some (.cells #[.int .i64 1, .int .i64 10] 25 (0, 0))) ∧ Aside0 (wc.heap[gb279]? = some (.cells #[.int .i64 t276, .int .i64 1] 25 (0, 0))) ∧ Aside0 (Below w.heap.size w wc))
       case first =>
        have H := HC74.out
        clear HC74
        replace H := Option.bind_eq_some_iff.mp H
        obtain ⟨⟨t325, t326, t327⟩, A750, H⟩ := H
        replace H : (if t327 = 5 then ((wireloomlaw02_parsed.f (⟨#[49, 47, 49]⟩ : ByteArray)).bind fun bt328 => (if bt328.2.2 = 5 then ((wireloomlaw02_parsed.f (⟨#[45, 48]⟩ : ByteArray)).bind fun bt331 => (if bt331.2.2 = 5 then ((wireloomlaw02_parsed.f (⟨#[43, 49]⟩ : ByteArray)).bind fun bt334 => (if bt334.2.2 = 5 then ((wireloomlaw02_parsed.f (⟨#[45, 51, 47, 50]⟩ : ByteArray)).bind fun bt337 => ((wireloomlaw02_is.f (-3) 2).bind fun bt340 => (wireloomlaw02_examplesT.j2 kj43 ((!(bt337.1 == bt340.1) || (!(bt337.2.1 == bt340.2.1))) || (!(bt337.2.2 == bt340.2.2))) 1 6 1 10))) else (wireloomlaw02_examplesT.j2 kj43 true 1 6 1 10))) else (wireloomlaw02_examplesT.j2 kj43 true 1 6 1 10))) else (wireloomlaw02_examplesT.j2 kj43 true 1 6 1 10))) else (wireloomlaw02_examplesT.j2 kj43 true 1 6 1 10)) = some true := H
        have A75 := Aside0.mk A750
        clear A750
        by_cases c76 : t327 = 5
        ·rw [if_pos c76] at H
         have c76b0 : (t327 == 5) = true := beq_iff_eq.mpr c76
         have c76b1 : (t327 != 5) = false := bne_eq_false_iff_eq.mpr c76
         clear c76
         (first | rw [c76b0] | (simp only [i64_w, i32_w]; rw [c76b0]) | skip)
         replace H := Option.bind_eq_some_iff.mp H
         obtain ⟨⟨t328, t329, t330⟩, A770, H⟩ := H
         replace H : (if t330 = 5 then ((wireloomlaw02_parsed.f (⟨#[45, 48]⟩ : ByteArray)).bind fun bt331 => (if bt331.2.2 = 5 then ((wireloomlaw02_parsed.f (⟨#[43, 49]⟩ : ByteArray)).bind fun bt334 => (if bt334.2.2 = 5 then ((wireloomlaw02_parsed.f (⟨#[45, 51, 47, 50]⟩ : ByteArray)).bind fun bt337 => ((wireloomlaw02_is.f (-3) 2).bind fun bt340 => (wireloomlaw02_examplesT.j2 kj43 ((!(bt337.1 == bt340.1) || (!(bt337.2.1 == bt340.2.1))) || (!(bt337.2.2 == bt340.2.2))) 1 6 1 10))) else (wireloomlaw02_examplesT.j2 kj43 true 1 6 1 10))) else (wireloomlaw02_examplesT.j2 kj43 true 1 6 1 10))) else (wireloomlaw02_examplesT.j2 kj43 true 1 6 1 10)) = some true := H
         have A77 := Aside0.mk A770
         clear A770
         by_cases c78 : t330 = 5
         ·rw [if_pos c78] at H
          have c78b0 : (t330 == 5) = true := beq_iff_eq.mpr c78
          have c78b1 : (t330 != 5) = false := bne_eq_false_iff_eq.mpr c78
          clear c78
          replace H := Option.bind_eq_some_iff.mp H
          obtain ⟨⟨t331, t332, t333⟩, A790, H⟩ := H
          replace H : (if t333 = 5 then ((wireloomlaw02_parsed.f (⟨#[43, 49]⟩ : ByteArray)).bind fun bt334 => (if bt334.2.2 = 5 then ((wireloomlaw02_parsed.f (⟨#[45, 51, 47, 50]⟩ : ByteArray)).bind fun bt337 => ((wireloomlaw02_is.f (-3) 2).bind fun bt340 => (wireloomlaw02_examplesT.j2 kj43 ((!(bt337.1 == bt340.1) || (!(bt337.2.1 == bt340.2.1))) || (!(bt337.2.2 == bt340.2.2))) 1 6 1 10))) else (wireloomlaw02_examplesT.j2 kj43 true 1 6 1 10))) else (wireloomlaw02_examplesT.j2 kj43 true 1 6 1 10)) = some true := H
          have A79 := Aside0.mk A790
          clear A790
          by_cases c80 : t333 = 5
          ·rw [if_pos c80] at H
           have c80b0 : (t333 == 5) = true := beq_iff_eq.mpr c80
           have c80b1 : (t333 != 5) = false := bne_eq_false_iff_eq.mpr c80
           clear c80
           replace H := Option.bind_eq_some_iff.mp H
           obtain ⟨⟨t334, t335, t336⟩, A810, H⟩ := H
           replace H : (if t336 = 5 then ((wireloomlaw02_parsed.f (⟨#[45, 51, 47, 50]⟩ : ByteArray)).bind fun bt337 => ((wireloomlaw02_is.f (-3) 2).bind fun bt340 => (wireloomlaw02_examplesT.j2 kj43 ((!(bt337.1 == bt340.1) || (!(bt337.2.1 == bt340.2.1))) || (!(bt337.2.2 == bt340.2.2))) 1 6 1 10))) else (wireloomlaw02_examplesT.j2 kj43 true 1 6 1 10)) = some true := H
           have A81 := Aside0.mk A810
           clear A810
           by_cases c82 : t336 = 5
           ·rw [if_pos c82] at H
            have c82b0 : (t336 == 5) = true := beq_iff_eq.mpr c82
            have c82b1 : (t336 != 5) = false := bne_eq_false_iff_eq.mpr c82
            clear c82
            replace H := Option.bind_eq_some_iff.mp H
            obtain ⟨⟨t337, t338, t339⟩, A830, H⟩ := H
            replace H : ((wireloomlaw02_is.f (-3) 2).bind fun bt340 => (wireloomlaw02_examplesT.j2 kj43 ((!(t337 == bt340.1) || (!(t338 == bt340.2.1))) || (!(t339 == bt340.2.2))) 1 6 1 10)) = some true := H
            have A83 := Aside0.mk A830
            clear A830
            replace H := Option.bind_eq_some_iff.mp H
            obtain ⟨⟨t340, t341, t342⟩, A840, H⟩ := H
            replace H : (wireloomlaw02_examplesT.j2 kj43 ((!(t337 == t340) || (!(t338 == t341))) || (!(t339 == t342))) 1 6 1 10) = some true := H
            have A84 := Aside0.mk A840
            clear A840
            have H' := Aside0.mk H
            clear H
            go_wp2_with (first | ((with_reducible refine gate_callee (f := 18) rfl ?_); refine goesL_ (some 79) rfl rfl Tryd.func18 (by kernel_rfl) rfl #[.string (⟨#[52, 47, 50]⟩ : ByteArray)] rfl (by (try simp only [List.map_toArray, List.map_cons, List.map_nil]); first | done | rfl | (simp only [List.length_drop, List.length_take]; rfl)) ?_; (with_reducible refine (wireloomlaw02_parsed.calls (⟨#[52, 47, 50]⟩ : ByteArray) t325 t326 t327 _ ?side1 A75.out).mono ?_); (case side1 => exact GL.below hGL HB.out); rintro e w85 ⟨rfl, hb⟩; refine ⟨_, rfl, ?_⟩; replace BK277 := Aside0.mk (blk_below BK277.out hb); replace BK278 := Aside0.mk (blk_below BK278.out hb); replace BK279 := Aside0.mk (blk_below BK279.out hb); replace HB := Aside0.mk (below_step HB.out hb); (try clear hb); (try clear A75)) | (go_at_call 18; (with_reducible refine (wireloomlaw02_parsed.calls (⟨#[49, 47, 49]⟩ : ByteArray) t328 t329 t330 _ ?side1 A77.out).mono ?_); (case side1 => exact GL.below hGL HB.out); rintro e w86 ⟨rfl, hb⟩; replace BK277 := Aside0.mk (blk_below BK277.out hb); replace BK278 := Aside0.mk (blk_below BK278.out hb); replace BK279 := Aside0.mk (blk_below BK279.out hb); replace HB := Aside0.mk (below_step HB.out hb); (try clear hb); (try clear A77)) | (go_at_call 18; (with_reducible refine (wireloomlaw02_parsed.calls (⟨#[45, 48]⟩ : ByteArray) t331 t332 t333 _ ?side1 A79.out).mono ?_); (case side1 => exact GL.below hGL HB.out); rintro e w87 ⟨rfl, hb⟩; replace BK277 := Aside0.mk (blk_below BK277.out hb); replace BK278 := Aside0.mk (blk_below BK278.out hb); replace BK279 := Aside0.mk (blk_below BK279.out hb); replace HB := Aside0.mk (below_step HB.out hb); (try clear hb); (try clear A79)) | (go_at_call 18; (with_reducible refine (wireloomlaw02_parsed.calls (⟨#[43, 49]⟩ : ByteArray) t334 t335 t336 _ ?side1 A81.out).mono ?_); (case side1 => exact GL.below hGL HB.out); rintro e w88 ⟨rfl, hb⟩; replace BK277 := Aside0.mk (blk_below BK277.out hb); replace BK278 := Aside0.mk (blk_below BK278.out hb); replace BK279 := Aside0.mk (blk_below BK279.out hb); replace HB := Aside0.mk (below_step HB.out hb); (try clear hb); (try clear A81)) | (go_at_call 18; (with_reducible refine (wireloomlaw02_parsed.calls (⟨#[45, 51, 47, 50]⟩ : ByteArray) t337 t338 t339 _ ?side1 A83.out).mono ?_); (case side1 => exact GL.below hGL HB.out); rintro e w89 ⟨rfl, hb⟩; replace BK277 := Aside0.mk (blk_below BK277.out hb); replace BK278 := Aside0.mk (blk_below BK278.out hb); replace BK279 := Aside0.mk (blk_below BK279.out hb); replace HB := Aside0.mk (below_step HB.out hb); (try clear hb); (try clear A83)) | (go_at_call 16; (with_reducible refine (wireloomlaw02_is.calls (-3) 2 t340 t341 t342 _ A84.out).mono ?_); rintro e w90 ⟨rfl, hb⟩; replace BK277 := Aside0.mk (blk_below BK277.out hb); replace BK278 := Aside0.mk (blk_below BK278.out hb); replace BK279 := Aside0.mk (blk_below BK279.out hb); replace HB := Aside0.mk (below_step HB.out hb); (try clear hb); (try clear A84)))
            go_meet
            case rel => exact ⟨_, (((!(t337 == t340) || (!(t338 == t341))) || (!(t339 == t342)))), (by first | rfl | (simp; done) | (simp [*]; done)), H', ⟨by have := HJ1.out; have := HJ43.out; first | omega | exact Nat.le_refl _⟩, ⟨by (with_reducible repeat (first | refine blk_drewN ?_ _ | refine blk_drew ?_ | refine blk_alloc ?_ _)); exact BK277.out⟩, ⟨by (with_reducible repeat (first | refine blk_drewN ?_ _ | refine blk_drew ?_ | refine blk_alloc ?_ _)); exact BK278.out⟩, ⟨by (with_reducible repeat (first | refine blk_drewN ?_ _ | refine blk_drew ?_ | refine blk_alloc ?_ _)); exact BK279.out⟩, ⟨by repeat (first | (with_reducible first | exact HB.out | apply below_alloc | apply pw_below_drewN | apply below_drew1 | refine below_set ?_ GE277.out | refine below_set ?_ GE278.out | refine below_set ?_ GE279.out) | exact HB.out)⟩⟩
           ·rw [if_neg c82] at H
            exact absurd H (wireloomlaw02_examplesT.dead_j2_true _ _ _ _ _)
          ·rw [if_neg c80] at H
           exact absurd H (wireloomlaw02_examplesT.dead_j2_true _ _ _ _ _)
         ·rw [if_neg c78] at H
          exact absurd H (wireloomlaw02_examplesT.dead_j2_true _ _ _ _ _)
        ·rw [if_neg c76] at H
         exact absurd H (wireloomlaw02_examplesT.dead_j2_true _ _ _ _ _)
       case rest =>
        clear HC74
        try clear c1
        try clear c2
        try clear p2
        try clear c3
        try clear c4
        try clear c5
        try clear c6
        try clear c7
        try clear c8
        try clear c9
        try clear c10
        try clear c14
        try clear c14b0
        try clear c16
        try clear c17
        try clear c17b0
        try clear c18
        try clear c19
        try clear c19b0
        try clear c19b1
        try clear c22
        try clear c22b0
        try clear c25
        try clear c25b0
        try clear c28
        try clear c32
        try clear c33
        try clear c35
        try clear c43
        try clear c46
        try clear c46b0
        try clear c46b1
        try clear c49
        try clear c49b0
        try clear c51
        try clear c51b0
        try clear c51b1
        try clear c53
        try clear c53b0
        try clear c53b1
        try clear c55
        try clear c57
        try clear c58
        try clear c64
        try clear c73
        try clear c76
        try clear c76b0
        try clear c76b1
        try clear c78
        try clear c78b0
        try clear c78b1
        try clear c80
        try clear c80b0
        try clear c80b1
        try clear c82
        try clear c82b0
        try clear c82b1
        try clear hcz11_0
        try clear hcz11_1
        try clear hcz34_0
        try clear hcz34_1
        try clear hcz36_0
        try clear hcz36_1
        try clear hcz41_0
        try clear hcz41_1
        try clear hcz4_0
        try clear hcz4_1
        try clear hcz59_0
        try clear hcz59_1
        try clear hcz61_0
        try clear hcz61_1
        try clear hcz65_0
        try clear hcz65_1
        try clear hcz67_0
        try clear hcz67_1
        try clear hcz68_0
        try clear hcz68_1
        try clear hcz71_0
        try clear hcz71_1
        try clear hcz7_0
        try clear hcz7_1
        try clear hfz11_0
        try clear hfz11_1
        try clear hfz34_0
        try clear hfz34_1
        try clear hfz36_0
        try clear hfz36_1
        try clear hfz41_0
        try clear hfz41_1
        try clear hfz4_0
        try clear hfz4_1
        try clear hfz59_0
        try clear hfz59_1
        try clear hfz61_0
        try clear hfz61_1
        try clear hfz65_0
        try clear hfz65_1
        try clear hfz67_0
        try clear hfz67_1
        try clear hfz68_0
        try clear hfz68_1
        try clear hfz71_0
        try clear hfz71_1
        try clear hfz7_0
        try clear hfz7_1
        try clear p2
        obtain ⟨kq, x101_73, rfl, HA, HJ73, BK277, BK278, BK279, HB⟩ := hcut
        cases kq with
        | zero => exact absurd HA.out (by simp [wireloomlaw02_examplesT.j2])
        | succ kj73 =>
         have H := HA.out
         clear HA
         simp only [wireloomlaw02_examplesT.j2] at H
         by_cases c91 : x101_73 = true
         ·subst c91
          have H1 : (some false) = some true := by rw [if_pos rfl] at H; exact H
          clear H
          have H := H1
          clear H1
          exact absurd H (by decide)
         ·replace c91 := Bool.eq_false_iff.mpr c91
          subst c91
          have H1 : ((fraction_Text.f (-3) 2).bind fun t343 => (if t343.toList = ([45, 51, 47, 50] : List UInt8) then ((fraction_Text.f 5 1).bind fun t344 => (if t344.toList = ([53] : List UInt8) then ((fraction_Floor.f (-3) 2).bind fun t345 => (if t345 = (-2) then ((fraction_Ceil.f (-3) 2).bind fun t346 => (if t346 = (-1) then ((fraction_Floor.f 1 6).bind fun t347 => (if t347 = 0 then ((fraction_Ceil.f 1 6).bind fun t348 => (if t348 = 1 then ((fraction_Min.f 1 6 1 10).bind fun bt349 => (if (bt349.1 == 1 && (bt349.2 == 10)) = true then ((fraction_Max.f 1 6 1 10).bind fun bt351 => (some (bt351.1 == 1 && (bt351.2 == 6)))) else (some false))) else (some false))) else (some false))) else (some false))) else (some false))) else (some false))) else (some false))) = some true := by rw [if_neg (show ¬ (false = true) by decide)] at H; exact H
          clear H
          have H := H1
          clear H1
          replace H := Option.bind_eq_some_iff.mp H
          obtain ⟨t343, A920, H⟩ := H
          replace H : (if t343.toList = ([45, 51, 47, 50] : List UInt8) then ((fraction_Text.f 5 1).bind fun t344 => (if t344.toList = ([53] : List UInt8) then ((fraction_Floor.f (-3) 2).bind fun t345 => (if t345 = (-2) then ((fraction_Ceil.f (-3) 2).bind fun t346 => (if t346 = (-1) then ((fraction_Floor.f 1 6).bind fun t347 => (if t347 = 0 then ((fraction_Ceil.f 1 6).bind fun t348 => (if t348 = 1 then ((fraction_Min.f 1 6 1 10).bind fun bt349 => (if (bt349.1 == 1 && (bt349.2 == 10)) = true then ((fraction_Max.f 1 6 1 10).bind fun bt351 => (some (bt351.1 == 1 && (bt351.2 == 6)))) else (some false))) else (some false))) else (some false))) else (some false))) else (some false))) else (some false))) else (some false)) = some true := H
          have A92 := Aside0.mk A920
          clear A920
          by_cases c93 : t343.toList = ([45, 51, 47, 50] : List UInt8)
          ·rw [if_pos c93] at H
           have c93b0 : (t343.toList == ([45, 51, 47, 50] : List UInt8)) = true := beq_iff_eq.mpr c93
           have c93b1 : (t343.toList != ([45, 51, 47, 50] : List UInt8)) = false := bne_eq_false_iff_eq.mpr c93
           clear c93
           replace H := Option.bind_eq_some_iff.mp H
           obtain ⟨t344, A940, H⟩ := H
           replace H : (if t344.toList = ([53] : List UInt8) then ((fraction_Floor.f (-3) 2).bind fun t345 => (if t345 = (-2) then ((fraction_Ceil.f (-3) 2).bind fun t346 => (if t346 = (-1) then ((fraction_Floor.f 1 6).bind fun t347 => (if t347 = 0 then ((fraction_Ceil.f 1 6).bind fun t348 => (if t348 = 1 then ((fraction_Min.f 1 6 1 10).bind fun bt349 => (if (bt349.1 == 1 && (bt349.2 == 10)) = true then ((fraction_Max.f 1 6 1 10).bind fun bt351 => (some (bt351.1 == 1 && (bt351.2 == 6)))) else (some false))) else (some false))) else (some false))) else (some false))) else (some false))) else (some false)) = some true := H
           have A94 := Aside0.mk A940
           clear A940
           by_cases c95 : t344.toList = ([53] : List UInt8)
           ·rw [if_pos c95] at H
            have c95b0 : (t344.toList == ([53] : List UInt8)) = true := beq_iff_eq.mpr c95
            have c95b1 : (t344.toList != ([53] : List UInt8)) = false := bne_eq_false_iff_eq.mpr c95
            clear c95
            replace H := Option.bind_eq_some_iff.mp H
            obtain ⟨t345, A960, H⟩ := H
            replace H : (if t345 = (-2) then ((fraction_Ceil.f (-3) 2).bind fun t346 => (if t346 = (-1) then ((fraction_Floor.f 1 6).bind fun t347 => (if t347 = 0 then ((fraction_Ceil.f 1 6).bind fun t348 => (if t348 = 1 then ((fraction_Min.f 1 6 1 10).bind fun bt349 => (if (bt349.1 == 1 && (bt349.2 == 10)) = true then ((fraction_Max.f 1 6 1 10).bind fun bt351 => (some (bt351.1 == 1 && (bt351.2 == 6)))) else (some false))) else (some false))) else (some false))) else (some false))) else (some false)) = some true := H
            have A96 := Aside0.mk A960
            clear A960
            by_cases c97 : t345 = (-2)
            ·rw [if_pos c97] at H
             have c97b0 : (t345 == (-2)) = true := beq_iff_eq.mpr c97
             have c97b1 : (t345 != (-2)) = false := bne_eq_false_iff_eq.mpr c97
             clear c97
             replace H := Option.bind_eq_some_iff.mp H
             obtain ⟨t346, A980, H⟩ := H
             replace H : (if t346 = (-1) then ((fraction_Floor.f 1 6).bind fun t347 => (if t347 = 0 then ((fraction_Ceil.f 1 6).bind fun t348 => (if t348 = 1 then ((fraction_Min.f 1 6 1 10).bind fun bt349 => (if (bt349.1 == 1 && (bt349.2 == 10)) = true then ((fraction_Max.f 1 6 1 10).bind fun bt351 => (some (bt351.1 == 1 && (bt351.2 == 6)))) else (some false))) else (some false))) else (some false))) else (some false)) = some true := H
             have A98 := Aside0.mk A980
             clear A980
             by_cases c99 : t346 = (-1)
             ·rw [if_pos c99] at H
              have c99b0 : (t346 == (-1)) = true := beq_iff_eq.mpr c99
              have c99b1 : (t346 != (-1)) = false := bne_eq_false_iff_eq.mpr c99
              clear c99
              replace H := Option.bind_eq_some_iff.mp H
              obtain ⟨t347, A1000, H⟩ := H
              replace H : (if t347 = 0 then ((fraction_Ceil.f 1 6).bind fun t348 => (if t348 = 1 then ((fraction_Min.f 1 6 1 10).bind fun bt349 => (if (bt349.1 == 1 && (bt349.2 == 10)) = true then ((fraction_Max.f 1 6 1 10).bind fun bt351 => (some (bt351.1 == 1 && (bt351.2 == 6)))) else (some false))) else (some false))) else (some false)) = some true := H
              have A100 := Aside0.mk A1000
              clear A1000
              by_cases c101 : t347 = 0
              ·rw [if_pos c101] at H
               have c101b0 : (t347 == 0) = true := beq_iff_eq.mpr c101
               have c101b1 : (t347 != 0) = false := bne_eq_false_iff_eq.mpr c101
               clear c101
               replace H := Option.bind_eq_some_iff.mp H
               obtain ⟨t348, A1020, H⟩ := H
               replace H : (if t348 = 1 then ((fraction_Min.f 1 6 1 10).bind fun bt349 => (if (bt349.1 == 1 && (bt349.2 == 10)) = true then ((fraction_Max.f 1 6 1 10).bind fun bt351 => (some (bt351.1 == 1 && (bt351.2 == 6)))) else (some false))) else (some false)) = some true := H
               have A102 := Aside0.mk A1020
               clear A1020
               by_cases c103 : t348 = 1
               ·rw [if_pos c103] at H
                have c103b0 : (t348 == 1) = true := beq_iff_eq.mpr c103
                have c103b1 : (t348 != 1) = false := bne_eq_false_iff_eq.mpr c103
                clear c103
                replace H := Option.bind_eq_some_iff.mp H
                obtain ⟨⟨t349, t350⟩, A1040, H⟩ := H
                replace H : (if (t349 == 1 && (t350 == 10)) = true then ((fraction_Max.f 1 6 1 10).bind fun bt351 => (some (bt351.1 == 1 && (bt351.2 == 6)))) else (some false)) = some true := H
                have A104 := Aside0.mk A1040
                clear A1040
                by_cases c105 : (t349 == 1 && (t350 == 10)) = true
                ·rw [if_pos c105] at H
                 have c105b0 : (t349 == 1 && (t350 == 10)) = true := c105
                 (try (have c105b1 : decide (t349 = 1 && (t350 == 10)) = true := by simpa using c105))
                 (try (have c105b2 : (t349 == 1 && (t350 == 10)) = true := by simpa using c105))
                 clear c105
                 replace H := Option.bind_eq_some_iff.mp H
                 obtain ⟨⟨t351, t352⟩, A1060, H⟩ := H
                 replace H : (some (t351 == 1 && (t352 == 6))) = some true := H
                 have A106 := Aside0.mk A1060
                 clear A1060
                 have Hr_ := Option.some.inj H
                 (try subst Hr_)
                 try go_wp2
                 replace BK277 := Aside0.mk (blk_drew BK277.out)
                 replace BK278 := Aside0.mk (blk_drew BK278.out)
                 replace BK279 := Aside0.mk (blk_drew BK279.out)
                 replace HB := Aside0.mk (below_drew1 HB.out)
                 refine start_ (n := 43) (S := fun w' => w'.cell? ⟨gb277, 0, none⟩ = some (.int .i64 1) ∧ w'.cell? ⟨gb277, 1, none⟩ = some (.int .i64 6) ∧ w'.cell? ⟨gb278, 0, none⟩ = some (.int .i64 1) ∧ w'.cell? ⟨gb278, 1, none⟩ = some (.int .i64 10)) (ds := []) #[F_,F_,F_,F_,F_,F_,F_,F_,F_,F_,F_,F_,F_,F_,F_,F_,F_,F_,F_,F_,F_,F_,F_,F_,F_,F_,F_,F_,F_,F_,F_,F_,F_,F_,F_,F_,F_,F_,F_,F_,F_,F_,F_] (by kernel_rfl) rfl rfl ⟨(blk_cell BK277.out 0).trans rfl, (blk_cell BK277.out 1).trans rfl, (blk_cell BK278.out 0).trans rfl, (blk_cell BK278.out 1).trans rfl⟩ (fun hHeld => ?_); refine with_tabW wireloomlaw02_examplesT.tab11 wireloomlaw02_examplesT.bits11 (fun HT_ HW_ => ?_)
                 generalize wc.drew = w107 at BK277 BK278 BK279 HB hHeld ⊢
                 refine pz_ 0 102 43 1 HT_ rfl rfl (by kernel_rfl) ?_ (fun _ _ _ h => h) (by rfl) (fun w' => ?_) ?_ ?_ ?_;rotate_left;go_simp;with_reducible rfl;rotate_left;simp only [P_,A_,B_,C_,i64_w,i32_w];rfl
                 refine one_ (i := 1) (N := some 103) #[T_,T_,F_,F_,F_,F_,F_,F_,F_,F_,F_,F_,F_,F_,F_,F_,F_,F_,F_,F_,F_,F_,F_,F_,F_,F_,F_,F_,F_,F_,F_,F_,F_,F_,F_,F_,F_,F_,F_,F_,F_,F_,F_] rfl rfl (one_of HT_.out (by kernel_rfl)) (by decide) (fun K hK => ?_)
                 refine goes_ Tryd.func17 (by kernel_rfl) rfl #[.agg #[.int .i64 (-3), .int .i64 2]] (by rfl) rfl rfl (by (try simp only [List.map_toArray, List.map_cons, List.map_nil]); first | done | rfl | (simp only [List.length_drop, List.length_take]; rfl)) ?_
                 with_reducible refine (fraction_Text.calls (-3) 2 t343 _ ?side1 A92.out).mono ?_
                 (case side1 => exact GL.below hGL HB.out)
                 rintro e w108 ⟨rfl, hb⟩
                 refine ⟨_, rfl, ?_⟩
                 replace BK277 := Aside0.mk (blk_below BK277.out hb)
                 replace BK278 := Aside0.mk (blk_below BK278.out hb)
                 replace BK279 := Aside0.mk (blk_below BK279.out hb)
                 replace HB := Aside0.mk (below_step HB.out hb)
                 (try clear hb)
                 (try clear A92)
                 refine hK.out _ _ ⟨(blk_cell BK277.out 0).trans rfl, (blk_cell BK277.out 1).trans rfl, (blk_cell BK278.out 0).trans rfl, (blk_cell BK278.out 1).trans rfl⟩ (fun hHeld => ?_)
                 clear hK K
                 refine norm_ (a' := ?_) ?_ ?_
                 rotate_left
                 ·show Act.put _ (some 103) _ = _
                  simp only [Act.put, List.setIfInBounds_toArray, List.set_cons_zero, List.set_cons_succ, i64_w, i32_w]
                  rfl
                 refine pz_ 2 104 43 7 HT_ rfl rfl (by kernel_rfl) ?_ (fun _ _ _ h => h) (by rfl) (fun w' => ?_) ?_ ?_ ?_;rotate_left;go_simp;with_reducible rfl;rotate_left;simp only [P_,A_,B_,C_,i64_w,i32_w];rfl
                 refine pz_ 3 105 43 15 HT_ rfl rfl (by kernel_rfl) ?_ (fun _ _ _ h => h) (by rfl) (fun w' => ?_) ?_ ?_ ?_;rotate_left;go_simp;with_reducible rfl;rotate_left;simp only [P_,A_,B_,C_,i64_w,i32_w];rfl
                 refine pz_ 4 106 43 31 HT_ rfl rfl (by kernel_rfl) ?_ (fun _ _ _ h => h) (by rfl) (fun w' => ?_) ?_ ?_ ?_;rotate_left;go_simp;with_reducible rfl;rotate_left;simp only [P_,A_,B_,C_,i64_w,i32_w];rfl
                 refine one_ (i := 5) (N := some 107) #[T_,T_,T_,T_,T_,T_,F_,F_,F_,F_,F_,F_,F_,F_,F_,F_,F_,F_,F_,F_,F_,F_,F_,F_,F_,F_,F_,F_,F_,F_,F_,F_,F_,F_,F_,F_,F_,F_,F_,F_,F_,F_,F_] rfl rfl (one_of HT_.out (by kernel_rfl)) (by decide) (fun K hK => ?_)
                 refine goes_ Tryd.func17 (by kernel_rfl) rfl #[.agg #[.int .i64 5, .int .i64 1]] (by rfl) rfl rfl (by (try simp only [List.map_toArray, List.map_cons, List.map_nil]); first | done | rfl | (simp only [List.length_drop, List.length_take]; rfl)) ?_
                 with_reducible refine (fraction_Text.calls 5 1 t344 _ ?side1 A94.out).mono ?_
                 (case side1 => exact GL.below hGL HB.out)
                 rintro e w109 ⟨rfl, hb⟩
                 refine ⟨_, rfl, ?_⟩
                 replace BK277 := Aside0.mk (blk_below BK277.out hb)
                 replace BK278 := Aside0.mk (blk_below BK278.out hb)
                 replace BK279 := Aside0.mk (blk_below BK279.out hb)
                 replace HB := Aside0.mk (below_step HB.out hb)
                 (try clear hb)
                 (try clear A94)
                 refine hK.out _ _ ⟨(blk_cell BK277.out 0).trans rfl, (blk_cell BK277.out 1).trans rfl, (blk_cell BK278.out 0).trans rfl, (blk_cell BK278.out 1).trans rfl⟩ (fun hHeld => ?_)
                 clear hK K
                 refine norm_ (a' := ?_) ?_ ?_
                 rotate_left
                 ·show Act.put _ (some 107) _ = _
                  simp only [Act.put, List.setIfInBounds_toArray, List.set_cons_zero, List.set_cons_succ, i64_w, i32_w]
                  rfl
                 refine pz_ 6 108 43 127 HT_ rfl rfl (by kernel_rfl) ?_ (fun _ _ _ h => h) (by rfl) (fun w' => ?_) ?_ ?_ ?_;rotate_left;go_simp;with_reducible rfl;rotate_left;simp only [P_,A_,B_,C_,i64_w,i32_w];rfl
                 refine pz_ 7 109 43 255 HT_ rfl rfl (by kernel_rfl) ?_ (fun _ _ _ h => h) (by rfl) (fun w' => ?_) ?_ ?_ ?_;rotate_left;go_simp;with_reducible rfl;rotate_left;simp only [P_,A_,B_,C_,i64_w,i32_w];rfl
                 refine pz_ 8 110 43 511 HT_ rfl rfl (by kernel_rfl) ?_ (fun _ _ _ h => h) (by rfl) (fun w' => ?_) ?_ ?_ ?_;rotate_left;go_simp;with_reducible rfl;rotate_left;simp only [P_,A_,B_,C_,i64_w,i32_w];rfl
                 refine pz_ 9 111 43 1023 HT_ rfl rfl (by kernel_rfl) ?_ (fun _ _ _ h => h) (by rfl) (fun w' => ?_) ?_ ?_ ?_;rotate_left;go_simp;with_reducible rfl;rotate_left;simp only [P_,A_,B_,C_,i64_w,i32_w];rfl
                 refine one_ (i := 10) (N := some 112) #[T_,T_,T_,T_,T_,T_,T_,T_,T_,T_,T_,F_,F_,F_,F_,F_,F_,F_,F_,F_,F_,F_,F_,F_,F_,F_,F_,F_,F_,F_,F_,F_,F_,F_,F_,F_,F_,F_,F_,F_,F_,F_,F_] rfl rfl (one_of HT_.out (by kernel_rfl)) (by decide) (fun K hK => ?_)
                 refine goes_ Tryd.func11 (by kernel_rfl) rfl #[.agg #[.int .i64 (-3), .int .i64 2]] (by rfl) rfl rfl (by (try simp only [List.map_toArray, List.map_cons, List.map_nil]); first | done | rfl | (simp only [List.length_drop, List.length_take]; rfl)) ?_
                 with_reducible refine (fraction_Floor.calls (-3) 2 t345 _ A96.out).mono ?_
                 rintro e w110 ⟨rfl, hb⟩
                 refine ⟨_, rfl, ?_⟩
                 replace BK277 := Aside0.mk (blk_below BK277.out hb)
                 replace BK278 := Aside0.mk (blk_below BK278.out hb)
                 replace BK279 := Aside0.mk (blk_below BK279.out hb)
                 replace HB := Aside0.mk (below_step HB.out hb)
                 (try clear hb)
                 (try clear A96)
                 refine hK.out _ _ ⟨(blk_cell BK277.out 0).trans rfl, (blk_cell BK277.out 1).trans rfl, (blk_cell BK278.out 0).trans rfl, (blk_cell BK278.out 1).trans rfl⟩ (fun hHeld => ?_)
                 clear hK K
                 refine norm_ (a' := ?_) ?_ ?_
                 rotate_left
                 ·show Act.put _ (some 112) _ = _
                  simp only [Act.put, List.setIfInBounds_toArray, List.set_cons_zero, List.set_cons_succ, i64_w, i32_w]
                  rfl
                 refine pz_ 11 113 43 4095 HT_ rfl rfl (by kernel_rfl) ?_ (fun _ _ _ h => h) (by rfl) (fun w' => ?_) ?_ ?_ ?_;rotate_left;go_simp;with_reducible rfl;rotate_left;simp only [P_,A_,B_,C_,i64_w,i32_w];rfl
                 refine pz_ 12 114 43 8191 HT_ rfl rfl (by kernel_rfl) ?_ (fun _ _ _ h => h) (by rfl) (fun w' => ?_) ?_ ?_ ?_;rotate_left;go_simp;with_reducible rfl;rotate_left;simp only [P_,A_,B_,C_,i64_w,i32_w];rfl
                 refine pz_ 13 115 43 16383 HT_ rfl rfl (by kernel_rfl) ?_ (fun _ _ _ h => h) (by rfl) (fun w' => ?_) ?_ ?_ ?_;rotate_left;go_simp;with_reducible rfl;rotate_left;simp only [P_,A_,B_,C_,i64_w,i32_w];rfl
                 refine pz_ 14 116 43 32767 HT_ rfl rfl (by kernel_rfl) ?_ (fun _ _ _ h => h) (by rfl) (fun w' => ?_) ?_ ?_ ?_;rotate_left;go_simp;with_reducible rfl;rotate_left;simp only [P_,A_,B_,C_,i64_w,i32_w];rfl
                 refine one_ (i := 15) (N := some 117) #[T_,T_,T_,T_,T_,T_,T_,T_,T_,T_,T_,T_,T_,T_,T_,T_,F_,F_,F_,F_,F_,F_,F_,F_,F_,F_,F_,F_,F_,F_,F_,F_,F_,F_,F_,F_,F_,F_,F_,F_,F_,F_,F_] rfl rfl (one_of HT_.out (by kernel_rfl)) (by decide) (fun K hK => ?_)
                 refine goes_ Tryd.func12 (by kernel_rfl) rfl #[.agg #[.int .i64 (-3), .int .i64 2]] (by rfl) rfl rfl (by (try simp only [List.map_toArray, List.map_cons, List.map_nil]); first | done | rfl | (simp only [List.length_drop, List.length_take]; rfl)) ?_
                 with_reducible refine (fraction_Ceil.calls (-3) 2 t346 _ A98.out).mono ?_
                 rintro e w111 ⟨rfl, hb⟩
                 refine ⟨_, rfl, ?_⟩
                 replace BK277 := Aside0.mk (blk_below BK277.out hb)
                 replace BK278 := Aside0.mk (blk_below BK278.out hb)
                 replace BK279 := Aside0.mk (blk_below BK279.out hb)
                 replace HB := Aside0.mk (below_step HB.out hb)
                 (try clear hb)
                 (try clear A98)
                 refine hK.out _ _ ⟨(blk_cell BK277.out 0).trans rfl, (blk_cell BK277.out 1).trans rfl, (blk_cell BK278.out 0).trans rfl, (blk_cell BK278.out 1).trans rfl⟩ (fun hHeld => ?_)
                 clear hK K
                 refine norm_ (a' := ?_) ?_ ?_
                 rotate_left
                 ·show Act.put _ (some 117) _ = _
                  simp only [Act.put, List.setIfInBounds_toArray, List.set_cons_zero, List.set_cons_succ, i64_w, i32_w]
                  rfl
                 refine pz_ 16 118 43 131071 HT_ rfl rfl (by kernel_rfl) ?_ (fun _ _ _ h => h) (by rfl) (fun w' => ?_) ?_ ?_ ?_;rotate_left;go_simp;with_reducible rfl;rotate_left;simp only [P_,A_,B_,C_,i64_w,i32_w];rfl
                 refine pz_ 17 119 43 262143 HT_ rfl rfl (by kernel_rfl) ?_ (fun _ _ _ h => h) (by rfl) (fun w' => ?_) ?_ ?_ ?_;rotate_left;go_simp;with_reducible rfl;rotate_left;simp only [P_,A_,B_,C_,i64_w,i32_w];rfl
                 refine pz_ 18 120 43 524287 HT_ rfl rfl (by kernel_rfl) ?_ (fun _ _ _ h => h) (by rfl) (fun w' => ?_) ?_ ?_ ?_;rotate_left;go_simp;with_reducible rfl;rotate_left;simp only [P_,A_,B_,C_,i64_w,i32_w];rfl
                 refine tz_ 19 121 43 1048575 HT_ HW_ rfl rfl (by kernel_rfl) hHeld ?_ (fun _ _ _ h => h) (by rfl) (fun w' ⟨s0, s1, s2, s3⟩ => ?_) ?_ ?_ ?_;rotate_left;go_simp;with_reducible rfl;rotate_left;simp only [P_,A_,B_,C_,i64_w,i32_w];rfl
                 refine one_ (i := 20) (N := some 122) #[T_,T_,T_,T_,T_,T_,T_,T_,T_,T_,T_,T_,T_,T_,T_,T_,T_,T_,T_,T_,T_,F_,F_,F_,F_,F_,F_,F_,F_,F_,F_,F_,F_,F_,F_,F_,F_,F_,F_,F_,F_,F_,F_] rfl rfl (one_of HT_.out (by kernel_rfl)) (by decide) (fun K hK => ?_)
                 refine goes_ Tryd.func11 (by kernel_rfl) rfl #[.agg #[.int .i64 1, .int .i64 6]] (by rfl) rfl rfl (by (try simp only [List.map_toArray, List.map_cons, List.map_nil]); first | done | rfl | (simp only [List.length_drop, List.length_take]; rfl)) ?_
                 with_reducible refine (fraction_Floor.calls 1 6 t347 _ A100.out).mono ?_
                 rintro e w112 ⟨rfl, hb⟩
                 refine ⟨_, rfl, ?_⟩
                 replace BK277 := Aside0.mk (blk_below BK277.out hb)
                 replace BK278 := Aside0.mk (blk_below BK278.out hb)
                 replace BK279 := Aside0.mk (blk_below BK279.out hb)
                 replace HB := Aside0.mk (below_step HB.out hb)
                 (try clear hb)
                 (try clear A100)
                 refine hK.out _ _ ⟨(blk_cell BK277.out 0).trans rfl, (blk_cell BK277.out 1).trans rfl, (blk_cell BK278.out 0).trans rfl, (blk_cell BK278.out 1).trans rfl⟩ (fun hHeld => ?_)
                 clear hK K
                 refine norm_ (a' := ?_) ?_ ?_
                 rotate_left
                 ·show Act.put _ (some 122) _ = _
                  simp only [Act.put, List.setIfInBounds_toArray, List.set_cons_zero, List.set_cons_succ, i64_w, i32_w]
                  rfl
                 refine pz_ 21 123 43 4194303 HT_ rfl rfl (by kernel_rfl) ?_ (fun _ _ _ h => h) (by rfl) (fun w' => ?_) ?_ ?_ ?_;rotate_left;go_simp;with_reducible rfl;rotate_left;simp only [P_,A_,B_,C_,i64_w,i32_w];rfl
                 refine pz_ 22 124 43 8388607 HT_ rfl rfl (by kernel_rfl) ?_ (fun _ _ _ h => h) (by rfl) (fun w' => ?_) ?_ ?_ ?_;rotate_left;go_simp;with_reducible rfl;rotate_left;simp only [P_,A_,B_,C_,i64_w,i32_w];rfl
                 refine pz_ 23 125 43 16777215 HT_ rfl rfl (by kernel_rfl) ?_ (fun _ _ _ h => h) (by rfl) (fun w' => ?_) ?_ ?_ ?_;rotate_left;go_simp;with_reducible rfl;rotate_left;simp only [P_,A_,B_,C_,i64_w,i32_w];rfl
                 refine tz_ 24 126 43 33554431 HT_ HW_ rfl rfl (by kernel_rfl) hHeld ?_ (fun _ _ _ h => h) (by rfl) (fun w' ⟨s0, s1, s2, s3⟩ => ?_) ?_ ?_ ?_;rotate_left;go_simp;with_reducible rfl;rotate_left;simp only [P_,A_,B_,C_,i64_w,i32_w];rfl
                 refine one_ (i := 25) (N := some 127) #[T_,T_,T_,T_,T_,T_,T_,T_,T_,T_,T_,T_,T_,T_,T_,T_,T_,T_,T_,T_,T_,T_,T_,T_,T_,T_,F_,F_,F_,F_,F_,F_,F_,F_,F_,F_,F_,F_,F_,F_,F_,F_,F_] rfl rfl (one_of HT_.out (by kernel_rfl)) (by decide) (fun K hK => ?_)
                 refine goes_ Tryd.func12 (by kernel_rfl) rfl #[.agg #[.int .i64 1, .int .i64 6]] (by rfl) rfl rfl (by (try simp only [List.map_toArray, List.map_cons, List.map_nil]); first | done | rfl | (simp only [List.length_drop, List.length_take]; rfl)) ?_
                 with_reducible refine (fraction_Ceil.calls 1 6 t348 _ A102.out).mono ?_
                 rintro e w113 ⟨rfl, hb⟩
                 refine ⟨_, rfl, ?_⟩
                 replace BK277 := Aside0.mk (blk_below BK277.out hb)
                 replace BK278 := Aside0.mk (blk_below BK278.out hb)
                 replace BK279 := Aside0.mk (blk_below BK279.out hb)
                 replace HB := Aside0.mk (below_step HB.out hb)
                 (try clear hb)
                 (try clear A102)
                 refine hK.out _ _ ⟨(blk_cell BK277.out 0).trans rfl, (blk_cell BK277.out 1).trans rfl, (blk_cell BK278.out 0).trans rfl, (blk_cell BK278.out 1).trans rfl⟩ (fun hHeld => ?_)
                 clear hK K
                 refine norm_ (a' := ?_) ?_ ?_
                 rotate_left
                 ·show Act.put _ (some 127) _ = _
                  simp only [Act.put, List.setIfInBounds_toArray, List.set_cons_zero, List.set_cons_succ, i64_w, i32_w]
                  rfl
                 refine pz_ 26 128 43 134217727 HT_ rfl rfl (by kernel_rfl) ?_ (fun _ _ _ h => h) (by rfl) (fun w' => ?_) ?_ ?_ ?_;rotate_left;go_simp;with_reducible rfl;rotate_left;simp only [P_,A_,B_,C_,i64_w,i32_w];rfl
                 refine pz_ 27 129 43 268435455 HT_ rfl rfl (by kernel_rfl) ?_ (fun _ _ _ h => h) (by rfl) (fun w' => ?_) ?_ ?_ ?_;rotate_left;go_simp;with_reducible rfl;rotate_left;simp only [P_,A_,B_,C_,i64_w,i32_w];rfl
                 refine pz_ 28 130 43 536870911 HT_ rfl rfl (by kernel_rfl) ?_ (fun _ _ _ h => h) (by rfl) (fun w' => ?_) ?_ ?_ ?_;rotate_left;go_simp;with_reducible rfl;rotate_left;simp only [P_,A_,B_,C_,i64_w,i32_w];rfl
                 refine tz_ 29 131 43 1073741823 HT_ HW_ rfl rfl (by kernel_rfl) hHeld ?_ (fun _ _ _ h => h) (by rfl) (fun w' ⟨s0, s1, s2, s3⟩ => ?_) ?_ ?_ ?_;rotate_left;go_simp;with_reducible rfl;rotate_left;simp only [P_,A_,B_,C_,i64_w,i32_w];rfl
                 refine tz_ 30 132 43 2147483647 HT_ HW_ rfl rfl (by kernel_rfl) hHeld ?_ (fun _ _ _ h => h) (by rfl) (fun w' ⟨s0, s1, s2, s3⟩ => ?_) ?_ ?_ ?_;rotate_left;go_simp;with_reducible rfl;rotate_left;simp only [P_,A_,B_,C_,i64_w,i32_w];rfl
                 refine tz_ 32 134 43 6442450943 HT_ HW_ rfl rfl (by kernel_rfl) hHeld ?_ (fun _ _ _ h => h) (by rfl) (fun w' ⟨s0, s1, s2, s3⟩ => ?_) ?_ ?_ ?_;rotate_left;go_simp;with_reducible rfl;rotate_left;simp only [P_,A_,B_,C_,i64_w,i32_w];rfl
                 refine one_ (i := 31) (N := some 133) #[T_,T_,T_,T_,T_,T_,T_,T_,T_,T_,T_,T_,T_,T_,T_,T_,T_,T_,T_,T_,T_,T_,T_,T_,T_,T_,T_,T_,T_,T_,T_,T_,T_,F_,F_,F_,F_,F_,F_,F_,F_,F_,F_] rfl rfl (one_of HT_.out (by kernel_rfl)) (by decide) (fun K hK => ?_)
                 refine goes_ Tryd.func23 (by kernel_rfl) rfl #[.agg #[.int .i64 1, .int .i64 6], .agg #[.int .i64 1, .int .i64 10]] (by rfl) rfl rfl (by (try simp only [List.map_toArray, List.map_cons, List.map_nil]); first | done | rfl | (simp only [List.length_drop, List.length_take]; rfl)) ?_
                 with_reducible refine (fraction_Min.calls 1 6 1 10 t349 t350 _ A104.out).mono ?_
                 rintro e w114 ⟨rfl, hb⟩
                 refine ⟨_, rfl, ?_⟩
                 replace BK277 := Aside0.mk (blk_below BK277.out hb)
                 replace BK278 := Aside0.mk (blk_below BK278.out hb)
                 replace BK279 := Aside0.mk (blk_below BK279.out hb)
                 replace HB := Aside0.mk (below_step HB.out hb)
                 (try clear hb)
                 (try clear A104)
                 refine hK.out _ _ ⟨(blk_cell BK277.out 0).trans rfl, (blk_cell BK277.out 1).trans rfl, (blk_cell BK278.out 0).trans rfl, (blk_cell BK278.out 1).trans rfl⟩ (fun hHeld => ?_)
                 clear hK K
                 refine norm_ (a' := ?_) ?_ ?_
                 rotate_left
                 ·show Act.put _ (some 133) _ = _
                  simp only [Act.put, List.setIfInBounds_toArray, List.set_cons_zero, List.set_cons_succ, i64_w, i32_w]
                  rfl
                 refine pz_ 33 135 43 17179869183 HT_ rfl rfl (by kernel_rfl) ?_ (fun _ _ _ h => h) (by rfl) (fun w' => ?_) ?_ ?_ ?_;rotate_left;go_simp;with_reducible rfl;rotate_left;simp only [P_,A_,B_,C_,i64_w,i32_w];rfl
                 refine pz_ 34 136 43 34359738367 HT_ rfl rfl (by kernel_rfl) ?_ (fun _ _ _ h => h) (by rfl) (fun w' => ?_) ?_ ?_ ?_;rotate_left;go_simp;with_reducible rfl;rotate_left;simp only [P_,A_,B_,C_,i64_w,i32_w];rfl
                 refine pz_ 35 137 43 68719476735 HT_ rfl rfl (by kernel_rfl) ?_ (fun _ _ _ h => h) (by rfl) (fun w' => ?_) ?_ ?_ ?_;rotate_left;go_simp;with_reducible rfl;rotate_left;simp only [P_,A_,B_,C_,i64_w,i32_w];rfl
                 refine tz_ 36 138 43 137438953471 HT_ HW_ rfl rfl (by kernel_rfl) hHeld ?_ (fun _ _ _ h => h) (by rfl) (fun w' ⟨s0, s1, s2, s3⟩ => ?_) ?_ ?_ ?_;rotate_left;go_simp;with_reducible rfl;rotate_left;simp only [P_,A_,B_,C_,i64_w,i32_w];rfl
                 refine tz_ 37 139 43 274877906943 HT_ HW_ rfl rfl (by kernel_rfl) hHeld ?_ (fun _ _ _ h => h) (by rfl) (fun w' ⟨s0, s1, s2, s3⟩ => ?_) ?_ ?_ ?_;rotate_left;go_simp;with_reducible rfl;rotate_left;simp only [P_,A_,B_,C_,i64_w,i32_w];rfl
                 refine tz_ 39 141 43 824633720831 HT_ HW_ rfl rfl (by kernel_rfl) hHeld ?_ (fun _ _ _ h => h) (by rfl) (fun w' ⟨s0, s1, s2, s3⟩ => ?_) ?_ ?_ ?_;rotate_left;go_simp;with_reducible rfl;rotate_left;simp only [P_,A_,B_,C_,i64_w,i32_w];rfl
                 refine one_ (i := 38) (N := some 140) #[T_,T_,T_,T_,T_,T_,T_,T_,T_,T_,T_,T_,T_,T_,T_,T_,T_,T_,T_,T_,T_,T_,T_,T_,T_,T_,T_,T_,T_,T_,T_,T_,T_,T_,T_,T_,T_,T_,T_,T_,F_,F_,F_] rfl rfl (one_of HT_.out (by kernel_rfl)) (by decide) (fun K hK => ?_)
                 refine goes_ Tryd.func24 (by kernel_rfl) rfl #[.agg #[.int .i64 1, .int .i64 6], .agg #[.int .i64 1, .int .i64 10]] (by rfl) rfl rfl (by (try simp only [List.map_toArray, List.map_cons, List.map_nil]); first | done | rfl | (simp only [List.length_drop, List.length_take]; rfl)) ?_
                 with_reducible refine (fraction_Max.calls 1 6 1 10 t351 t352 _ A106.out).mono ?_
                 rintro e w115 ⟨rfl, hb⟩
                 refine ⟨_, rfl, ?_⟩
                 replace BK277 := Aside0.mk (blk_below BK277.out hb)
                 replace BK278 := Aside0.mk (blk_below BK278.out hb)
                 replace BK279 := Aside0.mk (blk_below BK279.out hb)
                 replace HB := Aside0.mk (below_step HB.out hb)
                 (try clear hb)
                 (try clear A106)
                 refine hK.out _ _ ⟨(blk_cell BK277.out 0).trans rfl, (blk_cell BK277.out 1).trans rfl, (blk_cell BK278.out 0).trans rfl, (blk_cell BK278.out 1).trans rfl⟩ (fun hHeld => ?_)
                 clear hK K
                 refine norm_ (a' := ?_) ?_ ?_
                 rotate_left
                 ·show Act.put _ (some 140) _ = _
                  simp only [Act.put, List.setIfInBounds_toArray, List.set_cons_zero, List.set_cons_succ, i64_w, i32_w]
                  rfl
                 refine pz_ 40 142 43 2199023255551 HT_ rfl rfl (by kernel_rfl) ?_ (fun _ _ _ h => h) (by rfl) (fun w' => ?_) ?_ ?_ ?_;rotate_left;go_simp;with_reducible rfl;rotate_left;simp only [P_,A_,B_,C_,i64_w,i32_w];rfl
                 refine pz_ 41 143 43 4398046511103 HT_ rfl rfl (by kernel_rfl) ?_ (fun _ _ _ h => h) (by rfl) (fun w' => ?_) ?_ ?_ ?_;rotate_left;go_simp;with_reducible rfl;rotate_left;simp only [P_,A_,B_,C_,i64_w,i32_w];rfl
                 refine pz_ 42 0 43 8796093022207 HT_ rfl rfl (by kernel_rfl) ?_ (fun _ _ _ h => h) (by rfl) (fun w' => ?_) ?_ ?_ ?_;rotate_left;go_simp;with_reducible rfl;rotate_left;simp only [P_,A_,B_,C_,i64_w,i32_w];rfl
                 refine done_ (done_of HT_.out (by kernel_rfl)) ?_
                 try go_wp2
                 go_ret
                 exact ⟨by first | rfl | (simp [errW_none, errW_some] <;> rfl) | (simp [*, errW_none, errW_some] <;> rfl), by repeat (first | (with_reducible first | exact HB.out | apply below_alloc | apply pw_below_drewN | apply below_drew1 | refine below_set ?_ GE277.out | refine below_set ?_ GE278.out | refine below_set ?_ GE279.out) | exact HB.out)⟩
                ·rw [if_neg c105] at H
                 have c105b0 : (t349 == 1 && (t350 == 10)) = false := by simpa using c105
                 (try (have c105b1 : decide (t349 = 1 && (t350 == 10)) = false := by simpa using c105))
                 (try (have c105b2 : (t349 == 1 && (t350 == 10)) = false := by simpa using c105))
                 (try (have c105b3 : ¬ (t349 = 1 && (t350 == 10)) := by simpa using c105))
                 clear c105
                 exact absurd H (by decide)
               ·rw [if_neg c103] at H
                have c103b0 : (t348 == 1) = false := beq_eq_false_iff_ne.mpr c103
                have c103b1 : (t348 != 1) = true := bne_iff_ne.mpr c103
                exact absurd H (by decide)
              ·rw [if_neg c101] at H
               have c101b0 : (t347 == 0) = false := beq_eq_false_iff_ne.mpr c101
               have c101b1 : (t347 != 0) = true := bne_iff_ne.mpr c101
               exact absurd H (by decide)
             ·rw [if_neg c99] at H
              have c99b0 : (t346 == (-1)) = false := beq_eq_false_iff_ne.mpr c99
              have c99b1 : (t346 != (-1)) = true := bne_iff_ne.mpr c99
              exact absurd H (by decide)
            ·rw [if_neg c97] at H
             have c97b0 : (t345 == (-2)) = false := beq_eq_false_iff_ne.mpr c97
             have c97b1 : (t345 != (-2)) = true := bne_iff_ne.mpr c97
             exact absurd H (by decide)
           ·rw [if_neg c95] at H
            have c95b0 : (t344.toList == ([53] : List UInt8)) = false := beq_eq_false_iff_ne.mpr c95
            have c95b1 : (t344.toList != ([53] : List UInt8)) = true := bne_iff_ne.mpr c95
            exact absurd H (by decide)
          ·rw [if_neg c93] at H
           have c93b0 : (t343.toList == ([45, 51, 47, 50] : List UInt8)) = false := beq_eq_false_iff_ne.mpr c93
           have c93b1 : (t343.toList != ([45, 51, 47, 50] : List UInt8)) = true := bne_iff_ne.mpr c93
           exact absurd H (by decide)
def wireloomlaw02_examples.f (k : Nat) : Option Bool := some true
theorem wireloomlaw02_examples.mono : ∀ k, LeO (wireloomlaw02_examples.f k) (wireloomlaw02_examples.f (k + 1)) := fun _ => LeO.refl _
theorem wireloomlaw02_examplesT.true_ : wireloomlaw02_examplesT.f 100000 = some true := by kernel_rfl
theorem wireloomlaw02_examples.calls (k : Nat) (r : Bool) (w : World) (hGL : GL w) (h : wireloomlaw02_examples.f k = some r) :
  Calls Tryd.prog 9 #[] w fun e w' => e = .returned (.bool r) ∧ Below w.heap.size w w' := by
 obtain rfl := Option.some.inj h
 exact wireloomlaw02_examplesT.calls 100000 w hGL wireloomlaw02_examplesT.true_

/-! ### wireloomref02_Gcd: function 44 -/
def wireloomref02_Gcd.l0 : Nat → Int → Int → Option (Int)
 | 0, _, _ => none
 | k + 1, x0, x1 => if x1 > 0 then (if x1 = 0 then (none) else (wireloomref02_Gcd.l0 k x1 (Int.tmod x0 x1))) else (some x0)
def wireloomref02_Gcd.f (k : Nat) (a0 : Int) (a1 : Int) : Option (Int) := wireloomref02_Gcd.l0 k a0 a1
theorem wireloomref02_Gcd.mono_l : ∀ k, (∀ y0 y1, LeO (wireloomref02_Gcd.l0 k y0 y1) (wireloomref02_Gcd.l0 (k + 1) y0 y1))
 | 0 => fun _ _ r h => by simp [wireloomref02_Gcd.l0] at h
 | k + 1 => by
  have ih0 := wireloomref02_Gcd.mono_l k
  ·intro y0 y1
   unfold wireloomref02_Gcd.l0
   repeat' first
   | (with_reducible exact ih0 _ _)
   | (with_reducible exact LeO.refl _)
   | (with_reducible exact LeO.none _)
   | (with_reducible refine LeO.ite ?_ ?_)
   | (with_reducible refine LeO.bind ?_ (fun _ => ?_))
   | exact ih0 _ _
   | exact LeO.none _
   | refine LeO.ite ?_ ?_
   | refine LeO.bind ?_ (fun _ => ?_)
theorem wireloomref02_Gcd.mono : ∀ a0 a1 k, LeO (wireloomref02_Gcd.f k a0 a1) (wireloomref02_Gcd.f (k + 1) a0 a1) := by
 intro a0 a1 k
 have ih0 := wireloomref02_Gcd.mono_l k
 unfold wireloomref02_Gcd.f
 repeat' first
   | (with_reducible exact ih0 _ _)
   | (with_reducible exact LeO.refl _)
   | (with_reducible exact LeO.none _)
   | (with_reducible refine LeO.ite ?_ ?_)
   | (with_reducible refine LeO.bind ?_ (fun _ => ?_))
   | exact ih0 _ _
   | exact LeO.none _
   | refine LeO.ite ?_ ?_
   | refine LeO.bind ?_ (fun _ => ?_)
set_option maxHeartbeats 8000000 in
set_option maxRecDepth 100000 in
theorem wireloomref02_Gcd.calls (k : Nat) (a0 : Int) (a1 : Int) (r : Int) (w : World) (h : wireloomref02_Gcd.f k a0 a1 = some r) :
  Calls Tryd.prog 44 #[.int .i64 a0, .int .i64 a1] w fun e w' => e = .returned (.int .i64 r) ∧ Drawn0 w w' := by
 have H : (wireloomref02_Gcd.l0 k a0 a1) = some r := h
 clear h
 have H' := Aside0.mk H
 clear H
 go_enter Tryd.func44, Tryd.ntmps44
 go_wp2
 go_loopg [0, 1] k (fun kq v0 v1 w' => ∃ (x0_1 : Int) (x1_1 : Int), v0 = .int .i64 x0_1 ∧ v1 = .int .i64 x1_1 ∧ Aside0 (wireloomref02_Gcd.l0 kq x0_1 x1_1 = some r) ∧ Aside0 (kq ≤ k) ∧ Drawn0 w w')
 case atStart => exact ⟨(a0), (a1), (by first | rfl | (simp; done) | (simp [*]; done)), (by first | rfl | (simp; done) | (simp [*]; done)), H', ⟨Nat.le_refl _⟩, by repeat (first | exact Drawn0.refl _ | apply Drawn0.step)⟩
 case round =>
  clear H'
  try clear p2
  obtain ⟨x0_1, x1_1, rfl, rfl, HA, HK1, ⟨m1, rfl⟩⟩ := hrel
  cases gk with
  | zero => exact absurd HA.out (by simp [wireloomref02_Gcd.l0])
  | succ k1 =>
   have H := HA.out
   clear HA
   simp only [wireloomref02_Gcd.l0] at H
   by_cases c3 : x1_1 > 0
   ·rw [if_pos c3] at H
    have c3b0 : decide (0 < x1_1) = true := decide_eq_true c3
    clear c3
    by_cases c4 : x1_1 = 0
    ·rw [if_pos c4] at H
     exact absurd H (by simp)
    ·rw [if_neg c4] at H
     have c4b0 : (x1_1 == 0) = false := beq_eq_false_iff_ne.mpr c4
     have c4b1 : (x1_1 != 0) = true := bne_iff_ne.mpr c4
     have H' := Aside0.mk H
     clear H
     go_wp2
     go_roundg k1
     case measure => have := HK1.out; omega
     case rel => exact ⟨(x1_1), (Int.tmod x0_1 x1_1), (by first | rfl | (simp; done) | (simp [*]; done)), (by first | rfl | (simp; done) | (simp [*]; done)), H', ⟨by have := HK1.out; omega⟩, by repeat (first | exact Drawn0.refl _ | apply Drawn0.step)⟩
   ·rw [if_neg c3] at H
    have c3b0 : decide (0 < x1_1) = false := decide_eq_false c3
    clear c3
    obtain rfl := Option.some.inj H
    go_wp2
    go_ret
    exact ⟨by first | rfl | (simp; done) | (simp [*]; done), by repeat (first | exact Drawn0.refl _ | apply Drawn0.step)⟩

/-! ### wireloomref02_size: function 45 -/
def wireloomref02_size.f (a0 : Int) : Option (Int) := if a0 < 0 then (some (wrap64 (-a0))) else (some a0)
set_option maxHeartbeats 8000000 in
set_option maxRecDepth 100000 in
theorem wireloomref02_size.calls (a0 : Int) (r : Int) (w : World) (h : wireloomref02_size.f a0 = some r) :
  Calls Tryd.prog 45 #[.int .i64 a0] w fun e w' => e = .returned (.int .i64 r) ∧ Drawn0 w w' := by
 have H : (if a0 < 0 then (some (wrap64 (-a0))) else (some a0)) = some r := h
 clear h
 by_cases c2 : a0 < 0
 ·rw [if_pos c2] at H
  have c2b0 : decide (a0 < 0) = true := decide_eq_true c2
  clear c2
  obtain rfl := Option.some.inj H
  go_enter Tryd.func45, Tryd.ntmps45
  go_wp2
  go_ret
  exact ⟨by first | rfl | (simp; done) | (simp [*]; done), by repeat (first | exact Drawn0.refl _ | apply Drawn0.step)⟩
 ·rw [if_neg c2] at H
  have c2b0 : decide (a0 < 0) = false := decide_eq_false c2
  clear c2
  obtain rfl := Option.some.inj H
  go_enter Tryd.func45, Tryd.ntmps45
  go_wp2
  go_ret
  exact ⟨by first | rfl | (simp; done) | (simp [*]; done), by repeat (first | exact Drawn0.refl _ | apply Drawn0.step)⟩

/-! ### wireloomref02_half: function 46 -/
def wireloomref02_half.f (a0 : Int) (a1 : Int) : Option (Int) := if a1 = 0 then (none) else ((wireloomref02_size.f (wrap64 (Int.tdiv a0 a1))).bind fun t353 => (some t353))
set_option maxHeartbeats 8000000 in
set_option maxRecDepth 100000 in
theorem wireloomref02_half.calls (a0 : Int) (a1 : Int) (r : Int) (w : World) (h : wireloomref02_half.f a0 a1 = some r) :
  Calls Tryd.prog 46 #[.int .i64 a0, .int .i64 a1] w fun e w' => e = .returned (.int .i64 r) ∧ Drawn0 w w' := by
 have H : (if a1 = 0 then (none) else ((wireloomref02_size.f (wrap64 (Int.tdiv a0 a1))).bind fun t353 => (some t353))) = some r := h
 clear h
 by_cases c3 : a1 = 0
 ·rw [if_pos c3] at H
  exact absurd H (by simp)
 ·rw [if_neg c3] at H
  have c3b0 : (a1 == 0) = false := beq_eq_false_iff_ne.mpr c3
  have c3b1 : (a1 != 0) = true := bne_iff_ne.mpr c3
  replace H := Option.bind_eq_some_iff.mp H
  obtain ⟨t353, A40, H⟩ := H
  replace H : (some t353) = some r := H
  have A4 := Aside0.mk A40
  clear A40
  obtain rfl := Option.some.inj H
  go_enter Tryd.func46, Tryd.ntmps46
  go_wp2_with (first | ((with_reducible refine gate_callee (f := 45) rfl ?_); refine goesL_ (some 8) rfl rfl Tryd.func45 (by kernel_rfl) rfl #[.int .i64 (wrap64 (Int.tdiv a0 a1))] rfl (by (try simp only [List.map_toArray, List.map_cons, List.map_nil]); first | done | rfl | (simp only [List.length_drop, List.length_take]; rfl)) ?_; (with_reducible refine (wireloomref02_size.calls (wrap64 (Int.tdiv a0 a1)) t353 _ A4.out).mono ?_); rintro e w' ⟨rfl, ⟨nd, rfl⟩⟩; refine ⟨_, rfl, ?_⟩))
  go_ret
  exact ⟨by first | rfl | (simp; done) | (simp [*]; done), by repeat (first | exact Drawn0.refl _ | apply Drawn0.step)⟩

/-! ### wireloomref02_MakeIn: function 29 -/
mutual
def wireloomref02_MakeIn.l0 : Nat → Int → Int → Option (Int × Int × Int)
 | 0, _, _ => none
 | k + 1, x5, x6 => if (Int.tmod x5 2) = 0 then (if (Int.tmod x6 2) = 0 then (wireloomref02_MakeIn.j1 k x5 x6 (x5 != 0)) else (wireloomref02_MakeIn.j1 k x5 x6 false)) else (wireloomref02_MakeIn.j1 k x5 x6 false)
def wireloomref02_MakeIn.j1 : Nat → Int → Int → Bool → Option (Int × Int × Int)
 | 0, _, _, _ => none
 | k + 1, x5, x6, x27 => if x27 = true then (wireloomref02_MakeIn.l0 k (wrap64 (Int.tdiv x5 2)) (wrap64 (Int.tdiv x6 2))) else (if x5 = 0 then (some (0, 1, 0)) else (if x5 = (-9223372036854775808) then (wireloomref02_MakeIn.j2 k x5 x6 true) else (wireloomref02_MakeIn.j2 k x5 x6 (x6 == (-9223372036854775808)))))
def wireloomref02_MakeIn.j2 : Nat → Int → Int → Bool → Option (Int × Int × Int)
 | 0, _, _, _ => none
 | k + 1, x5, x6, x43 => if x43 = true then (some (0, 0, 2)) else ((wireloomref02_size.f x5).bind fun t355 => ((wireloomref02_size.f x6).bind fun t356 => ((wireloomref02_Gcd.f k t355 t356).bind fun t357 => ((wireloomref02_half.f x5 t357).bind fun t358 => ((wireloomref02_half.f x6 t357).bind fun t359 => ((wireloomref02_Most.f).bind fun t360 => (if t358 > t360 then (wireloomref02_MakeIn.j3 k x5 x6 t358 t359 true) else ((wireloomref02_Most.f).bind fun t361 => (wireloomref02_MakeIn.j3 k x5 x6 t358 t359 (decide (t359 > t361)))))))))))
def wireloomref02_MakeIn.j3 : Nat → Int → Int → Int → Int → Bool → Option (Int × Int × Int)
 | 0, _, _, _, _, _ => none
 | k + 1, x5, x6, x9, x10, x63 => if x63 = true then (some (0, 0, 2)) else (if ((decide (x5 < 0)) != (decide (x6 < 0))) = true then (some (wrap64 (-x9), x10, 0)) else (some (x9, x10, 0)))
end
def wireloomref02_MakeIn.f (k : Nat) (a0 : Int) (a1 : Int) : Option (Int × Int × Int) := if a1 = 0 then (some (0, 0, 3)) else (wireloomref02_MakeIn.l0 k a0 a1)
theorem wireloomref02_MakeIn.mono_l : ∀ k, (∀ y0 y1, LeO (wireloomref02_MakeIn.l0 k y0 y1) (wireloomref02_MakeIn.l0 (k + 1) y0 y1)) ∧ (∀ y0 y1 y2, LeO (wireloomref02_MakeIn.j1 k y0 y1 y2) (wireloomref02_MakeIn.j1 (k + 1) y0 y1 y2)) ∧ (∀ y0 y1 y2, LeO (wireloomref02_MakeIn.j2 k y0 y1 y2) (wireloomref02_MakeIn.j2 (k + 1) y0 y1 y2)) ∧ (∀ y0 y1 y2 y3 y4, LeO (wireloomref02_MakeIn.j3 k y0 y1 y2 y3 y4) (wireloomref02_MakeIn.j3 (k + 1) y0 y1 y2 y3 y4))
 | 0 => ⟨fun _ _ r h => by simp [wireloomref02_MakeIn.l0] at h, fun _ _ _ r h => by simp [wireloomref02_MakeIn.j1] at h, fun _ _ _ r h => by simp [wireloomref02_MakeIn.j2] at h, fun _ _ _ _ _ r h => by simp [wireloomref02_MakeIn.j3] at h⟩
 | k + 1 => by
  obtain ⟨ih0, ih1, ih2, ih3⟩ := wireloomref02_MakeIn.mono_l k
  refine ⟨?_, ?_, ?_, ?_⟩
  ·intro y0 y1
   unfold wireloomref02_MakeIn.l0
   repeat' first
   | (with_reducible exact ih0 _ _)
   | (with_reducible exact ih1 _ _ _)
   | (with_reducible exact ih2 _ _ _)
   | (with_reducible exact ih3 _ _ _ _ _)
   | (with_reducible exact wireloomref02_Gcd.mono _ _ _)
   | (with_reducible exact LeO.refl _)
   | (with_reducible exact LeO.none _)
   | (with_reducible refine LeO.ite ?_ ?_)
   | (with_reducible refine LeO.bind ?_ (fun _ => ?_))
   | exact ih0 _ _
   | exact ih1 _ _ _
   | exact ih2 _ _ _
   | exact ih3 _ _ _ _ _
   | exact wireloomref02_Gcd.mono _ _ _
   | exact LeO.none _
   | refine LeO.ite ?_ ?_
   | refine LeO.bind ?_ (fun _ => ?_)
  ·intro y0 y1 y2
   unfold wireloomref02_MakeIn.j1
   repeat' first
   | (with_reducible exact ih0 _ _)
   | (with_reducible exact ih1 _ _ _)
   | (with_reducible exact ih2 _ _ _)
   | (with_reducible exact ih3 _ _ _ _ _)
   | (with_reducible exact wireloomref02_Gcd.mono _ _ _)
   | (with_reducible exact LeO.refl _)
   | (with_reducible exact LeO.none _)
   | (with_reducible refine LeO.ite ?_ ?_)
   | (with_reducible refine LeO.bind ?_ (fun _ => ?_))
   | exact ih0 _ _
   | exact ih1 _ _ _
   | exact ih2 _ _ _
   | exact ih3 _ _ _ _ _
   | exact wireloomref02_Gcd.mono _ _ _
   | exact LeO.none _
   | refine LeO.ite ?_ ?_
   | refine LeO.bind ?_ (fun _ => ?_)
  ·intro y0 y1 y2
   unfold wireloomref02_MakeIn.j2
   repeat' first
   | (with_reducible exact ih0 _ _)
   | (with_reducible exact ih1 _ _ _)
   | (with_reducible exact ih2 _ _ _)
   | (with_reducible exact ih3 _ _ _ _ _)
   | (with_reducible exact wireloomref02_Gcd.mono _ _ _)
   | (with_reducible exact LeO.refl _)
   | (with_reducible exact LeO.none _)
   | (with_reducible refine LeO.ite ?_ ?_)
   | (with_reducible refine LeO.bind ?_ (fun _ => ?_))
   | exact ih0 _ _
   | exact ih1 _ _ _
   | exact ih2 _ _ _
   | exact ih3 _ _ _ _ _
   | exact wireloomref02_Gcd.mono _ _ _
   | exact LeO.none _
   | refine LeO.ite ?_ ?_
   | refine LeO.bind ?_ (fun _ => ?_)
  ·intro y0 y1 y2 y3 y4
   unfold wireloomref02_MakeIn.j3
   repeat' first
   | (with_reducible exact ih0 _ _)
   | (with_reducible exact ih1 _ _ _)
   | (with_reducible exact ih2 _ _ _)
   | (with_reducible exact ih3 _ _ _ _ _)
   | (with_reducible exact wireloomref02_Gcd.mono _ _ _)
   | (with_reducible exact LeO.refl _)
   | (with_reducible exact LeO.none _)
   | (with_reducible refine LeO.ite ?_ ?_)
   | (with_reducible refine LeO.bind ?_ (fun _ => ?_))
   | exact ih0 _ _
   | exact ih1 _ _ _
   | exact ih2 _ _ _
   | exact ih3 _ _ _ _ _
   | exact wireloomref02_Gcd.mono _ _ _
   | exact LeO.none _
   | refine LeO.ite ?_ ?_
   | refine LeO.bind ?_ (fun _ => ?_)
theorem wireloomref02_MakeIn.mono : ∀ a0 a1 k, LeO (wireloomref02_MakeIn.f k a0 a1) (wireloomref02_MakeIn.f (k + 1) a0 a1) := by
 intro a0 a1 k
 obtain ⟨ih0, ih1, ih2, ih3⟩ := wireloomref02_MakeIn.mono_l k
 unfold wireloomref02_MakeIn.f
 repeat' first
   | (with_reducible exact ih0 _ _)
   | (with_reducible exact ih1 _ _ _)
   | (with_reducible exact ih2 _ _ _)
   | (with_reducible exact ih3 _ _ _ _ _)
   | (with_reducible exact wireloomref02_Gcd.mono _ _ _)
   | (with_reducible exact LeO.refl _)
   | (with_reducible exact LeO.none _)
   | (with_reducible refine LeO.ite ?_ ?_)
   | (with_reducible refine LeO.bind ?_ (fun _ => ?_))
   | exact ih0 _ _
   | exact ih1 _ _ _
   | exact ih2 _ _ _
   | exact ih3 _ _ _ _ _
   | exact wireloomref02_Gcd.mono _ _ _
   | exact LeO.none _
   | refine LeO.ite ?_ ?_
   | refine LeO.bind ?_ (fun _ => ?_)
set_option maxHeartbeats 8000000 in
set_option maxRecDepth 100000 in
theorem wireloomref02_MakeIn.calls (k : Nat) (a0 : Int) (a1 : Int) (r1 : Int) (r2 : Int) (r3 : Int) (w : World) (h : wireloomref02_MakeIn.f k a0 a1 = some (r1, r2, r3)) :
  Calls Tryd.prog 29 #[.int .i64 a0, .int .i64 a1] w fun e w' => e = .returned (.agg #[.int .i64 r1, .int .i64 r2, .int .i64 r3]) ∧ Below w.heap.size w w' := by
 have hu31 := Tryd.underlying31
 have hu25 := Tryd.underlying25
 have HB := Aside0.mk (Below.refl w.heap.size w)
 have H : (if a1 = 0 then (some (0, 0, 3)) else (wireloomref02_MakeIn.l0 k a0 a1)) = some (r1, r2, r3) := h
 clear h
 by_cases c3 : a1 = 0
 ·rw [if_pos c3] at H
  have c3b0 : (a1 == 0) = true := beq_iff_eq.mpr c3
  have c3b1 : (a1 != 0) = false := bne_eq_false_iff_eq.mpr c3
  clear c3
  simp only [Option.some.injEq, Prod.mk.injEq] at H
  obtain ⟨rfl, rfl, rfl⟩ := H
  go_enter Tryd.func29, Tryd.ntmps29
  go_wp2_with (first | ((with_reducible refine gate_dst (N := 4) rfl ?_); refine box_event ?hg (N := 4) ?hd (cs := #[.int .i64 0, .int .i64 0, .int .i64 0]) (t := 31) ?hr ?_; (case hd => rfl); (case hg => rfl); (case hr => first | (go_simp; done) | (go_simp; rfl)); intro gb354 hg w4 hbox hb; have BK354 := Aside0.mk (hbox); have GW354 := Aside0.mk ((by rw [hg]; exact (below_size HB.out) : w.heap.size ≤ gb354)); have GE354 := Aside0.mk ((by rw [hg]; exact (below_size HB.out) : w.heap.size ≤ gb354)); replace HB := Aside0.mk (below_step HB.out hb); clear hb hbox hg; have hcz5_0 : w4.cell? ⟨gb354, 0, none⟩ = some (.int .i64 0) := (blk_cell BK354.out 0).trans rfl; have hcz5_1 : w4.cell? ⟨gb354, 1, none⟩ = some (.int .i64 0) := (blk_cell BK354.out 1).trans rfl; have hcz5_2 : w4.cell? ⟨gb354, 2, none⟩ = some (.int .i64 0) := (blk_cell BK354.out 2).trans rfl; have hfz5_0 := blk_frozen BK354.out 0; have hfz5_1 := blk_frozen BK354.out 1; have hfz5_2 := blk_frozen BK354.out 2))
  refine bodyPost_ret (results_cell_row rfl _ _ gb354 31 #[.int .i64 0, .int .i64 0, .int .i64 3] (0, 0) _ rfl (by (with_reducible repeat (first | refine blk_drewN ?_ _ | refine blk_drew ?_ | refine blk_alloc ?_ _)); refine blk_put (cs := #[.int .i64 0, .int .i64 0, .int .i64 0]) ?_ 2 _ rfl; (with_reducible repeat (first | refine blk_drewN ?_ _ | refine blk_drew ?_ | refine blk_alloc ?_ _)); refine blk_put (cs := #[.int .i64 0, .int .i64 0, .int .i64 0]) ?_ 1 _ rfl; (with_reducible repeat (first | refine blk_drewN ?_ _ | refine blk_drew ?_ | refine blk_alloc ?_ _)); refine blk_put (cs := #[.int .i64 0, .int .i64 0, .int .i64 0]) ?_ 0 _ rfl; (with_reducible repeat (first | refine blk_drewN ?_ _ | refine blk_drew ?_ | refine blk_alloc ?_ _)); exact BK354.out) Tryd.underlying31 rfl (by kernel_rfl)) rfl ?_
  exact ⟨by first | rfl | (simp [errW_none, errW_some] <;> rfl) | (simp [*, errW_none, errW_some] <;> rfl), by repeat (first | (with_reducible first | exact HB.out | apply below_alloc | apply pw_below_drewN | apply below_drew1 | refine below_set ?_ GE354.out) | exact HB.out)⟩
 ·rw [if_neg c3] at H
  have c3b0 : (a1 == 0) = false := beq_eq_false_iff_ne.mpr c3
  have c3b1 : (a1 != 0) = true := bne_iff_ne.mpr c3
  have H' := Aside0.mk H
  clear H
  go_enter Tryd.func29, Tryd.ntmps29
  go_wp2_with (first | ((with_reducible refine gate_dst (N := 4) rfl ?_); refine box_event ?hg (N := 4) ?hd (cs := #[.int .i64 0, .int .i64 0, .int .i64 0]) (t := 31) ?hr ?_; (case hd => rfl); (case hg => rfl); (case hr => first | (go_simp; done) | (go_simp; rfl)); intro gb354 hg w6 hbox hb; have BK354 := Aside0.mk (hbox); have GW354 := Aside0.mk ((by rw [hg]; exact (below_size HB.out) : w.heap.size ≤ gb354)); have GE354 := Aside0.mk ((by rw [hg]; exact (below_size HB.out) : w.heap.size ≤ gb354)); replace HB := Aside0.mk (below_step HB.out hb); clear hb hbox hg))
  go_loopg [5, 6] k (fun kq v5 v6 w' => ∃ (x5_1 : Int) (x6_1 : Int), v5 = .int .i64 x5_1 ∧ v6 = .int .i64 x6_1 ∧ Aside0 (wireloomref02_MakeIn.l0 kq x5_1 x6_1 = some (r1, r2, r3)) ∧ Aside0 (kq ≤ k) ∧ Aside0 (w'.heap[gb354]? = some (.cells #[.int .i64 0, .int .i64 0, .int .i64 0] 31 (0, 0))) ∧ Aside0 (Below w.heap.size w w'))
  case atStart => exact ⟨(a0), (a1), (by first | rfl | (simp; done) | (simp [*]; done)), (by first | rfl | (simp; done) | (simp [*]; done)), H', ⟨Nat.le_refl _⟩, ⟨by (with_reducible repeat (first | refine blk_drewN ?_ _ | refine blk_drew ?_ | refine blk_alloc ?_ _)); exact BK354.out⟩, ⟨by repeat (first | (with_reducible first | exact HB.out | apply below_alloc | apply pw_below_drewN | apply below_drew1 | refine below_set ?_ GE354.out) | exact HB.out)⟩⟩
  case round =>
   clear H'
   try clear c2
   try clear p2
   try clear c3
   try clear c3b0
   try clear c3b1
   try clear hcz5_0
   try clear hcz5_1
   try clear hcz5_2
   try clear hfz5_0
   try clear hfz5_1
   try clear hfz5_2
   obtain ⟨x5_1, x6_1, rfl, rfl, HA, HK1, BK354, HB⟩ := hrel
   cases gk with
   | zero => exact absurd HA.out (by simp [wireloomref02_MakeIn.l0])
   | succ k1 =>
    have H := HA.out
    clear HA
    simp only [wireloomref02_MakeIn.l0] at H
    have HC7 := Aside0.mk H
    clear H
    go_upto_region 5 with (fail)
    go_cut [27] (fun v27 wc => ∃ (kq : Nat) (x27_6 : Bool), v27 = .bool x27_6 ∧ Aside0 (wireloomref02_MakeIn.j1 kq x5_1 x6_1 x27_6 = some (r1, r2, r3)) ∧ Aside0 (kq ≤ k1) ∧ Aside0 (wc.heap[gb354]? = some (.cells #[.int .i64 0, .int .i64 0, .int .i64 0] 31 (0, 0))) ∧ Aside0 (Below w.heap.size w wc))
    case first =>
     have H := HC7.out
     clear HC7
     by_cases c8 : (Int.tmod x5_1 2) = 0
     ·rw [if_pos c8] at H
      have c8b0 : ((Int.tmod x5_1 2) == 0) = true := beq_iff_eq.mpr c8
      have c8b1 : ((Int.tmod x5_1 2) != 0) = false := bne_eq_false_iff_eq.mpr c8
      clear c8
      (first | rw [c8b0] | (simp only [i64_w, i32_w]; rw [c8b0]) | skip)
      by_cases c9 : (Int.tmod x6_1 2) = 0
      ·rw [if_pos c9] at H
       have c9b0 : ((Int.tmod x6_1 2) == 0) = true := beq_iff_eq.mpr c9
       have c9b1 : ((Int.tmod x6_1 2) != 0) = false := bne_eq_false_iff_eq.mpr c9
       clear c9
       have H' := Aside0.mk H
       clear H
       go_wp2
       go_meet
       case rel => exact ⟨_, ((x5_1 != 0)), (by first | rfl | (simp; done) | (simp [*]; done)), H', ⟨by have := HK1.out; first | omega | exact Nat.le_refl _⟩, ⟨by (with_reducible repeat (first | refine blk_drewN ?_ _ | refine blk_drew ?_ | refine blk_alloc ?_ _)); exact BK354.out⟩, ⟨by repeat (first | (with_reducible first | exact HB.out | apply below_alloc | apply pw_below_drewN | apply below_drew1 | refine below_set ?_ GE354.out) | exact HB.out)⟩⟩
      ·rw [if_neg c9] at H
       have c9b0 : ((Int.tmod x6_1 2) == 0) = false := beq_eq_false_iff_ne.mpr c9
       have c9b1 : ((Int.tmod x6_1 2) != 0) = true := bne_iff_ne.mpr c9
       have H' := Aside0.mk H
       clear H
       go_wp2
       go_meet
       case rel => exact ⟨_, (false), (by first | rfl | (simp; done) | (simp [*]; done)), H', ⟨by have := HK1.out; first | omega | exact Nat.le_refl _⟩, ⟨by (with_reducible repeat (first | refine blk_drewN ?_ _ | refine blk_drew ?_ | refine blk_alloc ?_ _)); exact BK354.out⟩, ⟨by repeat (first | (with_reducible first | exact HB.out | apply below_alloc | apply pw_below_drewN | apply below_drew1 | refine below_set ?_ GE354.out) | exact HB.out)⟩⟩
     ·rw [if_neg c8] at H
      have c8b0 : ((Int.tmod x5_1 2) == 0) = false := beq_eq_false_iff_ne.mpr c8
      have c8b1 : ((Int.tmod x5_1 2) != 0) = true := bne_iff_ne.mpr c8
      (first | rw [c8b0] | (simp only [i64_w, i32_w]; rw [c8b0]) | skip)
      have H' := Aside0.mk H
      clear H
      go_wp2
      go_meet
      case rel => exact ⟨_, (false), (by first | rfl | (simp; done) | (simp [*]; done)), H', ⟨by have := HK1.out; first | omega | exact Nat.le_refl _⟩, ⟨by (with_reducible repeat (first | refine blk_drewN ?_ _ | refine blk_drew ?_ | refine blk_alloc ?_ _)); exact BK354.out⟩, ⟨by repeat (first | (with_reducible first | exact HB.out | apply below_alloc | apply pw_below_drewN | apply below_drew1 | refine below_set ?_ GE354.out) | exact HB.out)⟩⟩
    case rest =>
     clear HC7
     try clear c2
     try clear p2
     try clear c3
     try clear c3b0
     try clear c3b1
     try clear c8
     try clear c8b0
     try clear c8b1
     try clear c9
     try clear c9b0
     try clear c9b1
     try clear hcz5_0
     try clear hcz5_1
     try clear hcz5_2
     try clear hfz5_0
     try clear hfz5_1
     try clear hfz5_2
     try clear p2
     obtain ⟨kq, x27_6, rfl, HA, HJ6, BK354, HB⟩ := hcut
     cases kq with
     | zero => exact absurd HA.out (by simp [wireloomref02_MakeIn.j1])
     | succ kj6 =>
      have H := HA.out
      clear HA
      simp only [wireloomref02_MakeIn.j1] at H
      by_cases c10 : x27_6 = true
      ·subst c10
       have H1 : (wireloomref02_MakeIn.l0 kj6 (wrap64 (Int.tdiv x5_1 2)) (wrap64 (Int.tdiv x6_1 2))) = some (r1, r2, r3) := by rw [if_pos rfl] at H; exact H
       clear H
       have H := H1
       clear H1
       have H' := Aside0.mk H
       clear H
       go_wp2
       go_roundg kj6
       case measure => have := HK1.out; have := HJ6.out; omega
       case rel => exact ⟨(wrap64 (Int.tdiv x5_1 2)), (wrap64 (Int.tdiv x6_1 2)), (by first | rfl | (simp; done) | (simp [*]; done)), (by first | rfl | (simp; done) | (simp [*]; done)), H', ⟨by have := HK1.out; have := HJ6.out; omega⟩, ⟨by (with_reducible repeat (first | refine blk_drewN ?_ _ | refine blk_drew ?_ | refine blk_alloc ?_ _)); exact BK354.out⟩, ⟨by repeat (first | (with_reducible first | exact HB.out | apply below_alloc | apply pw_below_drewN | apply below_drew1 | refine below_set ?_ GE354.out) | exact HB.out)⟩⟩
      ·replace c10 := Bool.eq_false_iff.mpr c10
       subst c10
       have H1 : (if x5_1 = 0 then (some (0, 1, 0)) else (if x5_1 = (-9223372036854775808) then (wireloomref02_MakeIn.j2 kj6 x5_1 x6_1 true) else (wireloomref02_MakeIn.j2 kj6 x5_1 x6_1 (x6_1 == (-9223372036854775808))))) = some (r1, r2, r3) := by rw [if_neg (show ¬ (false = true) by decide)] at H; exact H
       clear H
       have H := H1
       clear H1
       by_cases c11 : x5_1 = 0
       ·rw [if_pos c11] at H
        have c11b0 : (x5_1 == 0) = true := beq_iff_eq.mpr c11
        have c11b1 : (x5_1 != 0) = false := bne_eq_false_iff_eq.mpr c11
        clear c11
        simp only [Option.some.injEq, Prod.mk.injEq] at H
        obtain ⟨rfl, rfl, rfl⟩ := H
        have hcz12_0 : wc.cell? ⟨gb354, 0, none⟩ = some (.int .i64 0) := (blk_cell BK354.out 0).trans rfl
        have hcz12_1 : wc.cell? ⟨gb354, 1, none⟩ = some (.int .i64 0) := (blk_cell BK354.out 1).trans rfl
        have hcz12_2 : wc.cell? ⟨gb354, 2, none⟩ = some (.int .i64 0) := (blk_cell BK354.out 2).trans rfl
        have hfz12_0 := blk_frozen BK354.out 0
        have hfz12_1 := blk_frozen BK354.out 1
        have hfz12_2 := blk_frozen BK354.out 2
        go_wp2
        refine bodyPost_ret (results_cell_row rfl _ _ gb354 31 #[.int .i64 0, .int .i64 1, .int .i64 0] (0, 0) _ rfl (by (with_reducible repeat (first | refine blk_drewN ?_ _ | refine blk_drew ?_ | refine blk_alloc ?_ _)); refine blk_put (cs := #[.int .i64 0, .int .i64 1, .int .i64 0]) ?_ 2 _ rfl; (with_reducible repeat (first | refine blk_drewN ?_ _ | refine blk_drew ?_ | refine blk_alloc ?_ _)); refine blk_put (cs := #[.int .i64 0, .int .i64 0, .int .i64 0]) ?_ 1 _ rfl; (with_reducible repeat (first | refine blk_drewN ?_ _ | refine blk_drew ?_ | refine blk_alloc ?_ _)); refine blk_put (cs := #[.int .i64 0, .int .i64 0, .int .i64 0]) ?_ 0 _ rfl; (with_reducible repeat (first | refine blk_drewN ?_ _ | refine blk_drew ?_ | refine blk_alloc ?_ _)); exact BK354.out) Tryd.underlying31 rfl (by kernel_rfl)) rfl ?_
        exact ⟨by first | rfl | (simp [errW_none, errW_some] <;> rfl) | (simp [*, errW_none, errW_some] <;> rfl), by repeat (first | (with_reducible first | exact HB.out | apply below_alloc | apply pw_below_drewN | apply below_drew1 | refine below_set ?_ GE354.out) | exact HB.out)⟩
       ·rw [if_neg c11] at H
        have c11b0 : (x5_1 == 0) = false := beq_eq_false_iff_ne.mpr c11
        have c11b1 : (x5_1 != 0) = true := bne_iff_ne.mpr c11
        have HC13 := Aside0.mk H
        clear H
        go_upto_region 11 with (fail)
        go_cut [43] (fun v43 wc => ∃ (kq : Nat) (x43_12 : Bool), v43 = .bool x43_12 ∧ Aside0 (wireloomref02_MakeIn.j2 kq x5_1 x6_1 x43_12 = some (r1, r2, r3)) ∧ Aside0 (kq ≤ kj6) ∧ Aside0 (wc.heap[gb354]? = some (.cells #[.int .i64 0, .int .i64 0, .int .i64 0] 31 (0, 0))) ∧ Aside0 (Below w.heap.size w wc))
        case first =>
         have H := HC13.out
         clear HC13
         by_cases c14 : x5_1 = (-9223372036854775808)
         ·rw [if_pos c14] at H
          have c14b0 : (x5_1 == (-9223372036854775808)) = true := beq_iff_eq.mpr c14
          have c14b1 : (x5_1 != (-9223372036854775808)) = false := bne_eq_false_iff_eq.mpr c14
          clear c14
          (first | rw [c14b0] | (simp only [i64_w, i32_w]; rw [c14b0]) | skip)
          have H' := Aside0.mk H
          clear H
          go_wp2
          go_meet
          case rel => exact ⟨_, (true), (by first | rfl | (simp; done) | (simp [*]; done)), H', ⟨by have := HK1.out; have := HJ6.out; first | omega | exact Nat.le_refl _⟩, ⟨by (with_reducible repeat (first | refine blk_drewN ?_ _ | refine blk_drew ?_ | refine blk_alloc ?_ _)); exact BK354.out⟩, ⟨by repeat (first | (with_reducible first | exact HB.out | apply below_alloc | apply pw_below_drewN | apply below_drew1 | refine below_set ?_ GE354.out) | exact HB.out)⟩⟩
         ·rw [if_neg c14] at H
          have c14b0 : (x5_1 == (-9223372036854775808)) = false := beq_eq_false_iff_ne.mpr c14
          have c14b1 : (x5_1 != (-9223372036854775808)) = true := bne_iff_ne.mpr c14
          (first | rw [c14b0] | (simp only [i64_w, i32_w]; rw [c14b0]) | skip)
          have H' := Aside0.mk H
          clear H
          go_wp2
          go_meet
          case rel => exact ⟨_, ((x6_1 == (-9223372036854775808))), (by first | rfl | (simp; done) | (simp [*]; done)), H', ⟨by have := HK1.out; have := HJ6.out; first | omega | exact Nat.le_refl _⟩, ⟨by (with_reducible repeat (first | refine blk_drewN ?_ _ | refine blk_drew ?_ | refine blk_alloc ?_ _)); exact BK354.out⟩, ⟨by repeat (first | (with_reducible first | exact HB.out | apply below_alloc | apply pw_below_drewN | apply below_drew1 | refine below_set ?_ GE354.out) | exact HB.out)⟩⟩
        case rest =>
         clear HC13
         try clear c1
         try clear c2
         try clear p2
         try clear c3
         try clear c3b0
         try clear c3b1
         try clear p6
         try clear c8
         try clear c8b0
         try clear c8b1
         try clear c9
         try clear c9b0
         try clear c9b1
         try clear c10
         try clear c11
         try clear c11b0
         try clear c11b1
         try clear c14
         try clear c14b0
         try clear c14b1
         try clear hcz12_0
         try clear hcz12_1
         try clear hcz12_2
         try clear hcz5_0
         try clear hcz5_1
         try clear hcz5_2
         try clear hfz12_0
         try clear hfz12_1
         try clear hfz12_2
         try clear hfz5_0
         try clear hfz5_1
         try clear hfz5_2
         try clear p2
         obtain ⟨kq, x43_12, rfl, HA, HJ12, BK354, HB⟩ := hcut
         cases kq with
         | zero => exact absurd HA.out (by simp [wireloomref02_MakeIn.j2])
         | succ kj12 =>
          have H := HA.out
          clear HA
          simp only [wireloomref02_MakeIn.j2] at H
          by_cases c15 : x43_12 = true
          ·subst c15
           have H1 : (some (0, 0, 2)) = some (r1, r2, r3) := by rw [if_pos rfl] at H; exact H
           clear H
           have H := H1
           clear H1
           simp only [Option.some.injEq, Prod.mk.injEq] at H
           obtain ⟨rfl, rfl, rfl⟩ := H
           have hcz16_0 : wc.cell? ⟨gb354, 0, none⟩ = some (.int .i64 0) := (blk_cell BK354.out 0).trans rfl
           have hcz16_1 : wc.cell? ⟨gb354, 1, none⟩ = some (.int .i64 0) := (blk_cell BK354.out 1).trans rfl
           have hcz16_2 : wc.cell? ⟨gb354, 2, none⟩ = some (.int .i64 0) := (blk_cell BK354.out 2).trans rfl
           have hfz16_0 := blk_frozen BK354.out 0
           have hfz16_1 := blk_frozen BK354.out 1
           have hfz16_2 := blk_frozen BK354.out 2
           go_wp2
           refine bodyPost_ret (results_cell_row rfl _ _ gb354 31 #[.int .i64 0, .int .i64 0, .int .i64 2] (0, 0) _ rfl (by (with_reducible repeat (first | refine blk_drewN ?_ _ | refine blk_drew ?_ | refine blk_alloc ?_ _)); refine blk_put (cs := #[.int .i64 0, .int .i64 0, .int .i64 0]) ?_ 2 _ rfl; (with_reducible repeat (first | refine blk_drewN ?_ _ | refine blk_drew ?_ | refine blk_alloc ?_ _)); refine blk_put (cs := #[.int .i64 0, .int .i64 0, .int .i64 0]) ?_ 1 _ rfl; (with_reducible repeat (first | refine blk_drewN ?_ _ | refine blk_drew ?_ | refine blk_alloc ?_ _)); refine blk_put (cs := #[.int .i64 0, .int .i64 0, .int .i64 0]) ?_ 0 _ rfl; (with_reducible repeat (first | refine blk_drewN ?_ _ | refine blk_drew ?_ | refine blk_alloc ?_ _)); exact BK354.out) Tryd.underlying31 rfl (by kernel_rfl)) rfl ?_
           exact ⟨by first | rfl | (simp [errW_none, errW_some] <;> rfl) | (simp [*, errW_none, errW_some] <;> rfl), by repeat (first | (with_reducible first | exact HB.out | apply below_alloc | apply pw_below_drewN | apply below_drew1 | refine below_set ?_ GE354.out) | exact HB.out)⟩
          ·replace c15 := Bool.eq_false_iff.mpr c15
           subst c15
           have H1 : ((wireloomref02_size.f x5_1).bind fun t355 => ((wireloomref02_size.f x6_1).bind fun t356 => ((wireloomref02_Gcd.f kj12 t355 t356).bind fun t357 => ((wireloomref02_half.f x5_1 t357).bind fun t358 => ((wireloomref02_half.f x6_1 t357).bind fun t359 => ((wireloomref02_Most.f).bind fun t360 => (if t358 > t360 then (wireloomref02_MakeIn.j3 kj12 x5_1 x6_1 t358 t359 true) else ((wireloomref02_Most.f).bind fun t361 => (wireloomref02_MakeIn.j3 kj12 x5_1 x6_1 t358 t359 (decide (t359 > t361))))))))))) = some (r1, r2, r3) := by rw [if_neg (show ¬ (false = true) by decide)] at H; exact H
           clear H
           have H := H1
           clear H1
           replace H := Option.bind_eq_some_iff.mp H
           obtain ⟨t355, A170, H⟩ := H
           replace H : ((wireloomref02_size.f x6_1).bind fun t356 => ((wireloomref02_Gcd.f kj12 t355 t356).bind fun t357 => ((wireloomref02_half.f x5_1 t357).bind fun t358 => ((wireloomref02_half.f x6_1 t357).bind fun t359 => ((wireloomref02_Most.f).bind fun t360 => (if t358 > t360 then (wireloomref02_MakeIn.j3 kj12 x5_1 x6_1 t358 t359 true) else ((wireloomref02_Most.f).bind fun t361 => (wireloomref02_MakeIn.j3 kj12 x5_1 x6_1 t358 t359 (decide (t359 > t361)))))))))) = some (r1, r2, r3) := H
           have A17 := Aside0.mk A170
           clear A170
           replace H := Option.bind_eq_some_iff.mp H
           obtain ⟨t356, A180, H⟩ := H
           replace H : ((wireloomref02_Gcd.f kj12 t355 t356).bind fun t357 => ((wireloomref02_half.f x5_1 t357).bind fun t358 => ((wireloomref02_half.f x6_1 t357).bind fun t359 => ((wireloomref02_Most.f).bind fun t360 => (if t358 > t360 then (wireloomref02_MakeIn.j3 kj12 x5_1 x6_1 t358 t359 true) else ((wireloomref02_Most.f).bind fun t361 => (wireloomref02_MakeIn.j3 kj12 x5_1 x6_1 t358 t359 (decide (t359 > t361))))))))) = some (r1, r2, r3) := H
           have A18 := Aside0.mk A180
           clear A180
           replace H := Option.bind_eq_some_iff.mp H
           obtain ⟨t357, A190, H⟩ := H
           replace H : ((wireloomref02_half.f x5_1 t357).bind fun t358 => ((wireloomref02_half.f x6_1 t357).bind fun t359 => ((wireloomref02_Most.f).bind fun t360 => (if t358 > t360 then (wireloomref02_MakeIn.j3 kj12 x5_1 x6_1 t358 t359 true) else ((wireloomref02_Most.f).bind fun t361 => (wireloomref02_MakeIn.j3 kj12 x5_1 x6_1 t358 t359 (decide (t359 > t361)))))))) = some (r1, r2, r3) := H
           have A19 := Aside0.mk A190
           clear A190
           replace H := Option.bind_eq_some_iff.mp H
           obtain ⟨t358, A200, H⟩ := H
           replace H : ((wireloomref02_half.f x6_1 t357).bind fun t359 => ((wireloomref02_Most.f).bind fun t360 => (if t358 > t360 then (wireloomref02_MakeIn.j3 kj12 x5_1 x6_1 t358 t359 true) else ((wireloomref02_Most.f).bind fun t361 => (wireloomref02_MakeIn.j3 kj12 x5_1 x6_1 t358 t359 (decide (t359 > t361))))))) = some (r1, r2, r3) := H
           have A20 := Aside0.mk A200
           clear A200
           replace H := Option.bind_eq_some_iff.mp H
           obtain ⟨t359, A210, H⟩ := H
           replace H : ((wireloomref02_Most.f).bind fun t360 => (if t358 > t360 then (wireloomref02_MakeIn.j3 kj12 x5_1 x6_1 t358 t359 true) else ((wireloomref02_Most.f).bind fun t361 => (wireloomref02_MakeIn.j3 kj12 x5_1 x6_1 t358 t359 (decide (t359 > t361)))))) = some (r1, r2, r3) := H
           have A21 := Aside0.mk A210
           clear A210
           have HC22 := Aside0.mk H
           clear H
           go_upto_region 16 with (first | ((with_reducible refine gate_callee (f := 45) rfl ?_); refine goesL_ (some 46) rfl rfl Tryd.func45 (by kernel_rfl) rfl #[.int .i64 x5_1] rfl (by (try simp only [List.map_toArray, List.map_cons, List.map_nil]); first | done | rfl | (simp only [List.length_drop, List.length_take]; rfl)) ?_; (with_reducible refine (wireloomref02_size.calls x5_1 t355 _ A17.out).mono ?_); rintro e w' ⟨rfl, ⟨nd, rfl⟩⟩; refine ⟨_, rfl, ?_⟩) | ((with_reducible refine gate_callee (f := 45) rfl ?_); refine goesL_ (some 48) rfl rfl Tryd.func45 (by kernel_rfl) rfl #[.int .i64 x6_1] rfl (by (try simp only [List.map_toArray, List.map_cons, List.map_nil]); first | done | rfl | (simp only [List.length_drop, List.length_take]; rfl)) ?_; (with_reducible refine (wireloomref02_size.calls x6_1 t356 _ A18.out).mono ?_); rintro e w' ⟨rfl, ⟨nd, rfl⟩⟩; refine ⟨_, rfl, ?_⟩) | ((with_reducible refine gate_callee (f := 44) rfl ?_); refine goesL_ (some 49) rfl rfl Tryd.func44 (by kernel_rfl) rfl #[.int .i64 t355, .int .i64 t356] rfl (by (try simp only [List.map_toArray, List.map_cons, List.map_nil]); first | done | rfl | (simp only [List.length_drop, List.length_take]; rfl)) ?_; (with_reducible refine (wireloomref02_Gcd.calls kj12 t355 t356 t357 _ A19.out).mono ?_); rintro e w' ⟨rfl, ⟨nd, rfl⟩⟩; refine ⟨_, rfl, ?_⟩) | ((with_reducible refine gate_callee (f := 46) rfl ?_); refine goesL_ (some 52) rfl rfl Tryd.func46 (by kernel_rfl) rfl #[.int .i64 x5_1, .int .i64 t357] rfl (by (try simp only [List.map_toArray, List.map_cons, List.map_nil]); first | done | rfl | (simp only [List.length_drop, List.length_take]; rfl)) ?_; (with_reducible refine (wireloomref02_half.calls x5_1 t357 t358 _ A20.out).mono ?_); rintro e w' ⟨rfl, ⟨nd, rfl⟩⟩; refine ⟨_, rfl, ?_⟩) | ((with_reducible refine gate_callee (f := 46) rfl ?_); refine goesL_ (some 55) rfl rfl Tryd.func46 (by kernel_rfl) rfl #[.int .i64 x6_1, .int .i64 t357] rfl (by (try simp only [List.map_toArray, List.map_cons, List.map_nil]); first | done | rfl | (simp only [List.length_drop, List.length_take]; rfl)) ?_; (with_reducible refine (wireloomref02_half.calls x6_1 t357 t359 _ A21.out).mono ?_); rintro e w' ⟨rfl, ⟨nd, rfl⟩⟩; refine ⟨_, rfl, ?_⟩))
           (try simp only [Act.put, List.setIfInBounds_toArray, List.set_cons_zero, List.set_cons_succ])
           go_cut [63] (fun v63 wc => ∃ (kq : Nat) (x63_21 : Bool), v63 = .bool x63_21 ∧ Aside0 (wireloomref02_MakeIn.j3 kq x5_1 x6_1 t358 t359 x63_21 = some (r1, r2, r3)) ∧ Aside0 (kq ≤ kj12) ∧ Aside0 (wc.heap[gb354]? = some (.cells #[.int .i64 0, .int .i64 0, .int .i64 0] 31 (0, 0))) ∧ Aside0 (Below w.heap.size w wc))
           case first =>
            have H := HC22.out
            clear HC22
            replace H := Option.bind_eq_some_iff.mp H
            obtain ⟨t360, A230, H⟩ := H
            replace H : (if t358 > t360 then (wireloomref02_MakeIn.j3 kj12 x5_1 x6_1 t358 t359 true) else ((wireloomref02_Most.f).bind fun t361 => (wireloomref02_MakeIn.j3 kj12 x5_1 x6_1 t358 t359 (decide (t359 > t361))))) = some (r1, r2, r3) := H
            have A23 := Aside0.mk A230
            clear A230
            by_cases c24 : t358 > t360
            ·rw [if_pos c24] at H
             have c24b0 : decide (t360 < t358) = true := decide_eq_true c24
             clear c24
             (first | rw [c24b0] | (simp only [i64_w, i32_w]; rw [c24b0]) | skip)
             have H' := Aside0.mk H
             clear H
             go_wp2_with (first | ((with_reducible refine gate_callee (f := 28) rfl ?_); refine goesL_ (some 57) rfl rfl Tryd.func28 (by kernel_rfl) rfl #[] rfl (by (try simp only [List.map_toArray, List.map_cons, List.map_nil]); first | done | rfl | (simp only [List.length_drop, List.length_take]; rfl)) ?_; (with_reducible refine (wireloomref02_Most.calls  t360 _ A23.out).mono ?_); rintro e w' ⟨rfl, ⟨nd, rfl⟩⟩; refine ⟨_, rfl, ?_⟩))
             go_meet
             case rel => exact ⟨_, (true), (by first | rfl | (simp; done) | (simp [*]; done)), H', ⟨by have := HK1.out; have := HJ6.out; have := HJ12.out; first | omega | exact Nat.le_refl _⟩, ⟨by (with_reducible repeat (first | refine blk_drewN ?_ _ | refine blk_drew ?_ | refine blk_alloc ?_ _)); exact BK354.out⟩, ⟨by repeat (first | (with_reducible first | exact HB.out | apply below_alloc | apply pw_below_drewN | apply below_drew1 | refine below_set ?_ GE354.out) | exact HB.out)⟩⟩
            ·rw [if_neg c24] at H
             have c24b0 : decide (t360 < t358) = false := decide_eq_false c24
             clear c24
             (first | rw [c24b0] | (simp only [i64_w, i32_w]; rw [c24b0]) | skip)
             replace H := Option.bind_eq_some_iff.mp H
             obtain ⟨t361, A250, H⟩ := H
             replace H : (wireloomref02_MakeIn.j3 kj12 x5_1 x6_1 t358 t359 (decide (t359 > t361))) = some (r1, r2, r3) := H
             have A25 := Aside0.mk A250
             clear A250
             have H' := Aside0.mk H
             clear H
             go_wp2_with (first | ((with_reducible refine gate_callee (f := 28) rfl ?_); refine goesL_ (some 57) rfl rfl Tryd.func28 (by kernel_rfl) rfl #[] rfl (by (try simp only [List.map_toArray, List.map_cons, List.map_nil]); first | done | rfl | (simp only [List.length_drop, List.length_take]; rfl)) ?_; (with_reducible refine (wireloomref02_Most.calls  t360 _ A23.out).mono ?_); rintro e w' ⟨rfl, ⟨nd, rfl⟩⟩; refine ⟨_, rfl, ?_⟩) | (go_at_call 28; (with_reducible refine (wireloomref02_Most.calls  t361 _ A25.out).mono ?_); rintro e w' ⟨rfl, ⟨nd, rfl⟩⟩))
             go_meet
             case rel => exact ⟨_, (decide (t359 > t361)), (by first | rfl | (simp; done) | (simp [*]; done)), H', ⟨by have := HK1.out; have := HJ6.out; have := HJ12.out; first | omega | exact Nat.le_refl _⟩, ⟨by (with_reducible repeat (first | refine blk_drewN ?_ _ | refine blk_drew ?_ | refine blk_alloc ?_ _)); exact BK354.out⟩, ⟨by repeat (first | (with_reducible first | exact HB.out | apply below_alloc | apply pw_below_drewN | apply below_drew1 | refine below_set ?_ GE354.out) | exact HB.out)⟩⟩
           case rest =>
            clear HC22
            try clear c1
            try clear c2
            try clear p2
            try clear c3
            try clear c3b0
            try clear c3b1
            try clear c4
            try clear p6
            try clear c8
            try clear c8b0
            try clear c8b1
            try clear c9
            try clear c9b0
            try clear c9b1
            try clear c10
            try clear c11
            try clear c11b0
            try clear c11b1
            try clear c14
            try clear c14b0
            try clear c14b1
            try clear c15
            try clear c24
            try clear c24b0
            try clear hcz12_0
            try clear hcz12_1
            try clear hcz12_2
            try clear hcz16_0
            try clear hcz16_1
            try clear hcz16_2
            try clear hcz5_0
            try clear hcz5_1
            try clear hcz5_2
            try clear hfz12_0
            try clear hfz12_1
            try clear hfz12_2
            try clear hfz16_0
            try clear hfz16_1
            try clear hfz16_2
            try clear hfz5_0
            try clear hfz5_1
            try clear hfz5_2
            try clear p2
            try clear p6
            obtain ⟨kq, x63_21, rfl, HA, HJ21, BK354, HB⟩ := hcut
            cases kq with
            | zero => exact absurd HA.out (by simp [wireloomref02_MakeIn.j3])
            | succ kj21 =>
             have H := HA.out
             clear HA
             simp only [wireloomref02_MakeIn.j3] at H
             by_cases c26 : x63_21 = true
             ·subst c26
              have H1 : (some (0, 0, 2)) = some (r1, r2, r3) := by rw [if_pos rfl] at H; exact H
              clear H
              have H := H1
              clear H1
              simp only [Option.some.injEq, Prod.mk.injEq] at H
              obtain ⟨rfl, rfl, rfl⟩ := H
              have hcz27_0 : wc.cell? ⟨gb354, 0, none⟩ = some (.int .i64 0) := (blk_cell BK354.out 0).trans rfl
              have hcz27_1 : wc.cell? ⟨gb354, 1, none⟩ = some (.int .i64 0) := (blk_cell BK354.out 1).trans rfl
              have hcz27_2 : wc.cell? ⟨gb354, 2, none⟩ = some (.int .i64 0) := (blk_cell BK354.out 2).trans rfl
              have hfz27_0 := blk_frozen BK354.out 0
              have hfz27_1 := blk_frozen BK354.out 1
              have hfz27_2 := blk_frozen BK354.out 2
              go_wp2
              refine bodyPost_ret (results_cell_row rfl _ _ gb354 31 #[.int .i64 0, .int .i64 0, .int .i64 2] (0, 0) _ rfl (by (with_reducible repeat (first | refine blk_drewN ?_ _ | refine blk_drew ?_ | refine blk_alloc ?_ _)); refine blk_put (cs := #[.int .i64 0, .int .i64 0, .int .i64 0]) ?_ 2 _ rfl; (with_reducible repeat (first | refine blk_drewN ?_ _ | refine blk_drew ?_ | refine blk_alloc ?_ _)); refine blk_put (cs := #[.int .i64 0, .int .i64 0, .int .i64 0]) ?_ 1 _ rfl; (with_reducible repeat (first | refine blk_drewN ?_ _ | refine blk_drew ?_ | refine blk_alloc ?_ _)); refine blk_put (cs := #[.int .i64 0, .int .i64 0, .int .i64 0]) ?_ 0 _ rfl; (with_reducible repeat (first | refine blk_drewN ?_ _ | refine blk_drew ?_ | refine blk_alloc ?_ _)); exact BK354.out) Tryd.underlying31 rfl (by kernel_rfl)) rfl ?_
              exact ⟨by first | rfl | (simp [errW_none, errW_some] <;> rfl) | (simp [*, errW_none, errW_some] <;> rfl), by repeat (first | (with_reducible first | exact HB.out | apply below_alloc | apply pw_below_drewN | apply below_drew1 | refine below_set ?_ GE354.out) | exact HB.out)⟩
             ·replace c26 := Bool.eq_false_iff.mpr c26
              subst c26
              have H1 : (if ((decide (x5_1 < 0)) != (decide (x6_1 < 0))) = true then (some (wrap64 (-t358), t359, 0)) else (some (t358, t359, 0))) = some (r1, r2, r3) := by rw [if_neg (show ¬ (false = true) by decide)] at H; exact H
              clear H
              have H := H1
              clear H1
              by_cases c28 : ((decide (x5_1 < 0)) != (decide (x6_1 < 0))) = true
              ·rw [if_pos c28] at H
               have c28b0 : ((decide (x5_1 < 0)) != (decide (x6_1 < 0))) = true := c28
               (try (have c28b1 : decide ((decide (x5_1 < 0)) = (decide (x6_1 < 0))) = false := by simpa using c28))
               (try (have c28b2 : ((decide (x5_1 < 0)) == (decide (x6_1 < 0))) = false := by simpa using c28))
               (try (have c28b3 : ¬ ((decide (x5_1 < 0)) = (decide (x6_1 < 0))) := by simpa using c28))
               clear c28
               simp only [Option.some.injEq, Prod.mk.injEq] at H
               obtain ⟨rfl, rfl, rfl⟩ := H
               have hcz29_0 : wc.cell? ⟨gb354, 0, none⟩ = some (.int .i64 0) := (blk_cell BK354.out 0).trans rfl
               have hcz29_1 : wc.cell? ⟨gb354, 1, none⟩ = some (.int .i64 0) := (blk_cell BK354.out 1).trans rfl
               have hcz29_2 : wc.cell? ⟨gb354, 2, none⟩ = some (.int .i64 0) := (blk_cell BK354.out 2).trans rfl
               have hfz29_0 := blk_frozen BK354.out 0
               have hfz29_1 := blk_frozen BK354.out 1
               have hfz29_2 := blk_frozen BK354.out 2
               go_wp2
               refine bodyPost_ret (results_cell_row rfl _ _ gb354 31 #[.int .i64 (wrap64 (-t358)), .int .i64 t359, .int .i64 0] (0, 0) _ rfl (by (with_reducible repeat (first | refine blk_drewN ?_ _ | refine blk_drew ?_ | refine blk_alloc ?_ _)); refine blk_put (cs := #[.int .i64 (wrap64 (-t358)), .int .i64 t359, .int .i64 0]) ?_ 2 _ rfl; (with_reducible repeat (first | refine blk_drewN ?_ _ | refine blk_drew ?_ | refine blk_alloc ?_ _)); refine blk_put (cs := #[.int .i64 (wrap64 (-t358)), .int .i64 0, .int .i64 0]) ?_ 1 _ rfl; (with_reducible repeat (first | refine blk_drewN ?_ _ | refine blk_drew ?_ | refine blk_alloc ?_ _)); refine blk_put (cs := #[.int .i64 0, .int .i64 0, .int .i64 0]) ?_ 0 _ rfl; (with_reducible repeat (first | refine blk_drewN ?_ _ | refine blk_drew ?_ | refine blk_alloc ?_ _)); exact BK354.out) Tryd.underlying31 rfl (by kernel_rfl)) rfl ?_
               exact ⟨by first | rfl | (simp [errW_none, errW_some] <;> rfl) | (simp [*, errW_none, errW_some] <;> rfl), by repeat (first | (with_reducible first | exact HB.out | apply below_alloc | apply pw_below_drewN | apply below_drew1 | refine below_set ?_ GE354.out) | exact HB.out)⟩
              ·rw [if_neg c28] at H
               have c28b0 : ((decide (x5_1 < 0)) != (decide (x6_1 < 0))) = false := by simpa using c28
               (try (have c28b1 : decide ((decide (x5_1 < 0)) = (decide (x6_1 < 0))) = true := by simpa using c28))
               (try (have c28b2 : ((decide (x5_1 < 0)) == (decide (x6_1 < 0))) = true := by simpa using c28))
               clear c28
               simp only [Option.some.injEq, Prod.mk.injEq] at H
               obtain ⟨rfl, rfl, rfl⟩ := H
               have hcz30_0 : wc.cell? ⟨gb354, 0, none⟩ = some (.int .i64 0) := (blk_cell BK354.out 0).trans rfl
               have hcz30_1 : wc.cell? ⟨gb354, 1, none⟩ = some (.int .i64 0) := (blk_cell BK354.out 1).trans rfl
               have hcz30_2 : wc.cell? ⟨gb354, 2, none⟩ = some (.int .i64 0) := (blk_cell BK354.out 2).trans rfl
               have hfz30_0 := blk_frozen BK354.out 0
               have hfz30_1 := blk_frozen BK354.out 1
               have hfz30_2 := blk_frozen BK354.out 2
               go_wp2
               refine bodyPost_ret (results_cell_row rfl _ _ gb354 31 #[.int .i64 t358, .int .i64 t359, .int .i64 0] (0, 0) _ rfl (by (with_reducible repeat (first | refine blk_drewN ?_ _ | refine blk_drew ?_ | refine blk_alloc ?_ _)); refine blk_put (cs := #[.int .i64 t358, .int .i64 t359, .int .i64 0]) ?_ 2 _ rfl; (with_reducible repeat (first | refine blk_drewN ?_ _ | refine blk_drew ?_ | refine blk_alloc ?_ _)); refine blk_put (cs := #[.int .i64 t358, .int .i64 0, .int .i64 0]) ?_ 1 _ rfl; (with_reducible repeat (first | refine blk_drewN ?_ _ | refine blk_drew ?_ | refine blk_alloc ?_ _)); refine blk_put (cs := #[.int .i64 0, .int .i64 0, .int .i64 0]) ?_ 0 _ rfl; (with_reducible repeat (first | refine blk_drewN ?_ _ | refine blk_drew ?_ | refine blk_alloc ?_ _)); exact BK354.out) Tryd.underlying31 rfl (by kernel_rfl)) rfl ?_
               exact ⟨by first | rfl | (simp [errW_none, errW_some] <;> rfl) | (simp [*, errW_none, errW_some] <;> rfl), by repeat (first | (with_reducible first | exact HB.out | apply below_alloc | apply pw_below_drewN | apply below_drew1 | refine below_set ?_ GE354.out) | exact HB.out)⟩

/-! ### wireloomref02_Made: function 10 -/
mutual
def wireloomref02_Made.l0 : Nat → Int → Int → Int → Int → Int → Option (Int × Int)
 | 0, _, _, _, _, _ => none
 | k + 1, x0, x1, x367000, x367001, x367002 => if x367002 = 0 then (some (x367000, x367001)) else (if (wrap64 (Int.tdiv x1 2)) = 0 then (wireloomref02_Made.j1 k (wrap64 (Int.tdiv x0 2)) 1) else (wireloomref02_Made.j1 k (wrap64 (Int.tdiv x0 2)) (wrap64 (Int.tdiv x1 2))))
def wireloomref02_Made.j1 : Nat → Int → Int → Option (Int × Int)
 | 0, _, _ => none
 | k + 1, x0, x1 => (wireloomref02_MakeIn.f k x0 x1).bind fun bt367 => (wireloomref02_Made.l0 k x0 x1 bt367.1 bt367.2.1 bt367.2.2)
end
def wireloomref02_Made.f (k : Nat) (a0 : Int) (a1 : Int) : Option (Int × Int) := (wireloomref02_MakeIn.f k a0 a1).bind fun bt363 => (wireloomref02_Made.l0 k a0 a1 bt363.1 bt363.2.1 bt363.2.2)
theorem wireloomref02_Made.mono_l : ∀ k, (∀ y0 y1 y2 y3 y4, LeO (wireloomref02_Made.l0 k y0 y1 y2 y3 y4) (wireloomref02_Made.l0 (k + 1) y0 y1 y2 y3 y4)) ∧ (∀ y0 y1, LeO (wireloomref02_Made.j1 k y0 y1) (wireloomref02_Made.j1 (k + 1) y0 y1))
 | 0 => ⟨fun _ _ _ _ _ r h => by simp [wireloomref02_Made.l0] at h, fun _ _ r h => by simp [wireloomref02_Made.j1] at h⟩
 | k + 1 => by
  obtain ⟨ih0, ih1⟩ := wireloomref02_Made.mono_l k
  refine ⟨?_, ?_⟩
  ·intro y0 y1 y2 y3 y4
   unfold wireloomref02_Made.l0
   repeat' first
   | (with_reducible exact ih0 _ _ _ _ _)
   | (with_reducible exact ih1 _ _)
   | (with_reducible exact wireloomref02_MakeIn.mono _ _ _)
   | (with_reducible exact LeO.refl _)
   | (with_reducible exact LeO.none _)
   | (with_reducible refine LeO.ite ?_ ?_)
   | (with_reducible refine LeO.bind ?_ (fun _ => ?_))
   | exact ih0 _ _ _ _ _
   | exact ih1 _ _
   | exact wireloomref02_MakeIn.mono _ _ _
   | exact LeO.none _
   | refine LeO.ite ?_ ?_
   | refine LeO.bind ?_ (fun _ => ?_)
  ·intro y0 y1
   unfold wireloomref02_Made.j1
   repeat' first
   | (with_reducible exact ih0 _ _ _ _ _)
   | (with_reducible exact ih1 _ _)
   | (with_reducible exact wireloomref02_MakeIn.mono _ _ _)
   | (with_reducible exact LeO.refl _)
   | (with_reducible exact LeO.none _)
   | (with_reducible refine LeO.ite ?_ ?_)
   | (with_reducible refine LeO.bind ?_ (fun _ => ?_))
   | exact ih0 _ _ _ _ _
   | exact ih1 _ _
   | exact wireloomref02_MakeIn.mono _ _ _
   | exact LeO.none _
   | refine LeO.ite ?_ ?_
   | refine LeO.bind ?_ (fun _ => ?_)
theorem wireloomref02_Made.mono : ∀ a0 a1 k, LeO (wireloomref02_Made.f k a0 a1) (wireloomref02_Made.f (k + 1) a0 a1) := by
 intro a0 a1 k
 obtain ⟨ih0, ih1⟩ := wireloomref02_Made.mono_l k
 unfold wireloomref02_Made.f
 repeat' first
   | (with_reducible exact ih0 _ _ _ _ _)
   | (with_reducible exact ih1 _ _)
   | (with_reducible exact wireloomref02_MakeIn.mono _ _ _)
   | (with_reducible exact LeO.refl _)
   | (with_reducible exact LeO.none _)
   | (with_reducible refine LeO.ite ?_ ?_)
   | (with_reducible refine LeO.bind ?_ (fun _ => ?_))
   | exact ih0 _ _ _ _ _
   | exact ih1 _ _
   | exact wireloomref02_MakeIn.mono _ _ _
   | exact LeO.none _
   | refine LeO.ite ?_ ?_
   | refine LeO.bind ?_ (fun _ => ?_)
set_option maxHeartbeats 8000000 in
set_option maxRecDepth 100000 in
theorem wireloomref02_Made.calls (k : Nat) (a0 : Int) (a1 : Int) (r1 : Int) (r2 : Int) (w : World) (h : wireloomref02_Made.f k a0 a1 = some (r1, r2)) :
  Calls Tryd.prog 10 #[.int .i64 a0, .int .i64 a1] w fun e w' => e = .returned (.agg #[.int .i64 r1, .int .i64 r2]) ∧ Below w.heap.size w w' := by
 have hu25 := Tryd.underlying25
 have hu31 := Tryd.underlying31
 have HB := Aside0.mk (Below.refl w.heap.size w)
 have H : ((wireloomref02_MakeIn.f k a0 a1).bind fun bt363 => (wireloomref02_Made.l0 k a0 a1 bt363.1 bt363.2.1 bt363.2.2)) = some (r1, r2) := h
 clear h
 replace H := Option.bind_eq_some_iff.mp H
 obtain ⟨⟨t363, t364, t365⟩, A30, H⟩ := H
 replace H : (wireloomref02_Made.l0 k a0 a1 t363 t364 t365) = some (r1, r2) := H
 have A3 := Aside0.mk A30
 clear A30
 have H' := Aside0.mk H
 clear H
 go_enter Tryd.func10, Tryd.ntmps10
 go_wp2_with (first | ((with_reducible refine gate_dst (N := 4) rfl ?_); refine box_event ?hg (N := 4) ?hd (cs := #[.int .i64 0, .int .i64 0]) (t := 25) ?hr ?_; (case hd => rfl); (case hg => rfl); (case hr => first | (go_simp; done) | (go_simp; rfl)); intro gb362 hg w4 hbox hb; have BK362 := Aside0.mk (hbox); have GW362 := Aside0.mk ((by rw [hg]; exact (below_size HB.out) : w.heap.size ≤ gb362)); have GE362 := Aside0.mk ((by rw [hg]; exact (below_size HB.out) : w.heap.size ≤ gb362)); replace HB := Aside0.mk (below_step HB.out hb); clear hb hbox hg) | ((with_reducible refine gate_callee (f := 29) rfl ?_); refine goesL_ (some 8) rfl rfl Tryd.func29 (by kernel_rfl) rfl #[.int .i64 a0, .int .i64 a1] rfl (by (try simp only [List.map_toArray, List.map_cons, List.map_nil]); first | done | rfl | (simp only [List.length_drop, List.length_take]; rfl)) ?_; (with_reducible refine (wireloomref02_MakeIn.calls k a0 a1 t363 t364 t365 _ A3.out).mono ?_); rintro e w5 ⟨rfl, hb⟩; refine ⟨_, rfl, ?_⟩; replace BK362 := Aside0.mk (blk_below BK362.out hb); replace HB := Aside0.mk (below_step HB.out hb); (try clear hb); (try clear A3)) | ((with_reducible refine gate_dst (N := 5) rfl ?_); refine box_event ?hg (N := 5) ?hd (cs := #[.int .i64 0, .int .i64 0, .int .i64 0]) (t := 31) ?hr ?_; (case hd => rfl); (case hg => rfl); (case hr => first | (go_simp; done) | (go_simp; rfl)); intro gb366 hg w6 hbox hb; have BK366 := Aside0.mk (hbox); have GW366 := Aside0.mk ((by rw [hg]; exact (below_size HB.out) : w.heap.size ≤ gb366)); have GE366 := Aside0.mk ((by rw [hg]; exact (below_size HB.out) : w.heap.size ≤ gb366)); replace HB := Aside0.mk (below_step HB.out hb); have NB362_366 := Aside0.mk ((by rw [hg]; exact Nat.ne_of_lt (blk_lt BK362.out) : gb362 ≠ gb366)); have NB366_362 := Aside0.mk ((by rw [hg]; exact Nat.ne_of_gt (blk_lt BK362.out) : gb366 ≠ gb362)); replace BK362 := Aside0.mk (blk_below BK362.out hb); clear hb hbox hg; have hnb7 := NB366_362.out; have hnc7 := NB362_366.out; have hcz8_0 : w6.cell? ⟨gb366, 0, none⟩ = some (.int .i64 0) := (blk_cell BK366.out 0).trans rfl; have hcz8_1 : w6.cell? ⟨gb366, 1, none⟩ = some (.int .i64 0) := (blk_cell BK366.out 1).trans rfl; have hcz8_2 : w6.cell? ⟨gb366, 2, none⟩ = some (.int .i64 0) := (blk_cell BK366.out 2).trans rfl; have hfz8_0 := blk_frozen BK366.out 0; have hfz8_1 := blk_frozen BK366.out 1; have hfz8_2 := blk_frozen BK366.out 2))
 go_loopg [0, 1] k (fun kq v0 v1 w' => ∃ (x0_1 : Int) (x1_1 : Int) (x367000_1 : Int) (x367001_1 : Int) (x367002_1 : Int), v0 = .int .i64 x0_1 ∧ v1 = .int .i64 x1_1 ∧ Aside0 (wireloomref02_Made.l0 kq x0_1 x1_1 x367000_1 x367001_1 x367002_1 = some (r1, r2)) ∧ Aside0 (kq ≤ k) ∧ Aside0 (w'.heap[gb362]? = some (.cells #[.int .i64 0, .int .i64 0] 25 (0, 0))) ∧ Aside0 (w'.heap[gb366]? = some (.cells #[.int .i64 x367000_1, .int .i64 x367001_1, .int .i64 x367002_1] 31 (0, 0))) ∧ Aside0 (Below w.heap.size w w'))
 case atStart => exact ⟨(a0), (a1), (t363), (t364), (t365), (by first | rfl | (simp; done) | (simp [*]; done)), (by first | rfl | (simp; done) | (simp [*]; done)), H', ⟨Nat.le_refl _⟩, ⟨by repeat first | (with_reducible first | refine blk_drewN ?_ _ | refine blk_drew ?_ | refine blk_alloc ?_ _) | refine blk_far ?_ NB362_366.out _ | exact BK362.out⟩, ⟨by (with_reducible repeat (first | refine blk_drewN ?_ _ | refine blk_drew ?_ | refine blk_alloc ?_ _)); refine blk_put (cs := #[.int .i64 t363, .int .i64 t364, .int .i64 0]) ?_ 2 _ rfl; (with_reducible repeat (first | refine blk_drewN ?_ _ | refine blk_drew ?_ | refine blk_alloc ?_ _)); refine blk_put (cs := #[.int .i64 t363, .int .i64 0, .int .i64 0]) ?_ 1 _ rfl; (with_reducible repeat (first | refine blk_drewN ?_ _ | refine blk_drew ?_ | refine blk_alloc ?_ _)); refine blk_put (cs := #[.int .i64 0, .int .i64 0, .int .i64 0]) ?_ 0 _ rfl; (with_reducible repeat (first | refine blk_drewN ?_ _ | refine blk_drew ?_ | refine blk_alloc ?_ _)); exact BK366.out⟩, ⟨by repeat (first | (with_reducible first | exact HB.out | apply below_alloc | apply pw_below_drewN | apply below_drew1 | refine below_set ?_ GE362.out | refine below_set ?_ GE366.out) | exact HB.out)⟩⟩
 case round =>
  clear H'
  try clear c1
  try clear c2
  try clear p2
  try clear c7
  try clear hcz8_0
  try clear hcz8_1
  try clear hcz8_2
  try clear hfz8_0
  try clear hfz8_1
  try clear hfz8_2
  obtain ⟨x0_1, x1_1, x367000_1, x367001_1, x367002_1, rfl, rfl, HA, HK1, BK362, BK366, HB⟩ := hrel
  cases gk with
  | zero => exact absurd HA.out (by simp [wireloomref02_Made.l0])
  | succ k1 =>
   have H := HA.out
   clear HA
   simp only [wireloomref02_Made.l0] at H
   by_cases c9 : x367002_1 = 0
   ·rw [if_pos c9] at H
    have c9b0 : (x367002_1 == 0) = true := beq_iff_eq.mpr c9
    have c9b1 : (x367002_1 != 0) = false := bne_eq_false_iff_eq.mpr c9
    clear c9
    simp only [Option.some.injEq, Prod.mk.injEq] at H
    obtain ⟨rfl, rfl⟩ := H
    have hnb10 := NB366_362.out
    have hnc10 := NB362_366.out
    have hcz11_0 : wr.cell? ⟨gb366, 0, none⟩ = some (.int .i64 x367000_1) := (blk_cell BK366.out 0).trans rfl
    have hcz11_1 : wr.cell? ⟨gb366, 1, none⟩ = some (.int .i64 x367001_1) := (blk_cell BK366.out 1).trans rfl
    have hcz11_2 : wr.cell? ⟨gb366, 2, none⟩ = some (.int .i64 x367002_1) := (blk_cell BK366.out 2).trans rfl
    have hfz11_0 := blk_frozen BK366.out 0
    have hfz11_1 := blk_frozen BK366.out 1
    have hfz11_2 := blk_frozen BK366.out 2
    have hcz12_0 : wr.cell? ⟨gb362, 0, none⟩ = some (.int .i64 0) := (blk_cell BK362.out 0).trans rfl
    have hcz12_1 : wr.cell? ⟨gb362, 1, none⟩ = some (.int .i64 0) := (blk_cell BK362.out 1).trans rfl
    have hfz12_0 := blk_frozen BK362.out 0
    have hfz12_1 := blk_frozen BK362.out 1
    go_wp2
    refine bodyPost_ret (results_cell_row rfl _ _ gb362 25 #[.int .i64 x367000_1, .int .i64 x367001_1] (0, 0) _ rfl (by (with_reducible repeat (first | refine blk_drewN ?_ _ | refine blk_drew ?_ | refine blk_alloc ?_ _)); refine blk_put (cs := #[.int .i64 x367000_1, .int .i64 0]) ?_ 1 _ rfl; (with_reducible repeat (first | refine blk_drewN ?_ _ | refine blk_drew ?_ | refine blk_alloc ?_ _)); refine blk_put (cs := #[.int .i64 0, .int .i64 0]) ?_ 0 _ rfl; (with_reducible repeat (first | refine blk_drewN ?_ _ | refine blk_drew ?_ | refine blk_alloc ?_ _)); exact BK362.out) Tryd.underlying25 rfl (by kernel_rfl)) rfl ?_
    exact ⟨by first | rfl | (simp [errW_none, errW_some] <;> rfl) | (simp [*, errW_none, errW_some] <;> rfl), by repeat (first | (with_reducible first | exact HB.out | apply below_alloc | apply pw_below_drewN | apply below_drew1 | refine below_set ?_ GE362.out | refine below_set ?_ GE366.out) | exact HB.out)⟩
   ·rw [if_neg c9] at H
    have c9b0 : (x367002_1 == 0) = false := beq_eq_false_iff_ne.mpr c9
    have c9b1 : (x367002_1 != 0) = true := bne_iff_ne.mpr c9
    have HC13 := Aside0.mk H
    clear H
    have hnb14 := NB366_362.out
    have hnc14 := NB362_366.out
    have hcz15_0 : wr.cell? ⟨gb366, 0, none⟩ = some (.int .i64 x367000_1) := (blk_cell BK366.out 0).trans rfl
    have hcz15_1 : wr.cell? ⟨gb366, 1, none⟩ = some (.int .i64 x367001_1) := (blk_cell BK366.out 1).trans rfl
    have hcz15_2 : wr.cell? ⟨gb366, 2, none⟩ = some (.int .i64 x367002_1) := (blk_cell BK366.out 2).trans rfl
    have hfz15_0 := blk_frozen BK366.out 0
    have hfz15_1 := blk_frozen BK366.out 1
    have hfz15_2 := blk_frozen BK366.out 2
    go_upto_if 17 with (fail)
    go_cut [1] (fun v1 wc => ∃ (kq : Nat) (x1_12 : Int), v1 = .int .i64 x1_12 ∧ Aside0 (wireloomref02_Made.j1 kq (wrap64 (Int.tdiv x0_1 2)) x1_12 = some (r1, r2)) ∧ Aside0 (kq ≤ k1) ∧ Aside0 (wc.heap[gb362]? = some (.cells #[.int .i64 0, .int .i64 0] 25 (0, 0))) ∧ Aside0 (wc.heap[gb366]? = some (.cells #[.int .i64 x367000_1, .int .i64 x367001_1, .int .i64 x367002_1] 31 (0, 0))) ∧ Aside0 (Below w.heap.size w wc))
    case first =>
     have H := HC13.out
     clear HC13
     by_cases c16 : (wrap64 (Int.tdiv x1_1 2)) = 0
     ·rw [if_pos c16] at H
      have c16b0 : ((wrap64 (Int.tdiv x1_1 2)) == 0) = true := beq_iff_eq.mpr c16
      have c16b1 : ((wrap64 (Int.tdiv x1_1 2)) != 0) = false := bne_eq_false_iff_eq.mpr c16
      clear c16
      (first | rw [c16b0] | (simp only [i64_w, i32_w]; rw [c16b0]) | skip)
      have H' := Aside0.mk H
      clear H
      go_wp2
      go_meet
      case rel => exact ⟨_, (1), (by first | rfl | (simp; done) | (simp [*]; done)), H', ⟨by have := HK1.out; first | omega | exact Nat.le_refl _⟩, ⟨by (with_reducible repeat (first | refine blk_drewN ?_ _ | refine blk_drew ?_ | refine blk_alloc ?_ _)); exact BK362.out⟩, ⟨by (with_reducible repeat (first | refine blk_drewN ?_ _ | refine blk_drew ?_ | refine blk_alloc ?_ _)); exact BK366.out⟩, ⟨by repeat (first | (with_reducible first | exact HB.out | apply below_alloc | apply pw_below_drewN | apply below_drew1 | refine below_set ?_ GE362.out | refine below_set ?_ GE366.out) | exact HB.out)⟩⟩
     ·rw [if_neg c16] at H
      have c16b0 : ((wrap64 (Int.tdiv x1_1 2)) == 0) = false := beq_eq_false_iff_ne.mpr c16
      have c16b1 : ((wrap64 (Int.tdiv x1_1 2)) != 0) = true := bne_iff_ne.mpr c16
      (first | rw [c16b0] | (simp only [i64_w, i32_w]; rw [c16b0]) | skip)
      have H' := Aside0.mk H
      clear H
      go_wp2
      go_meet
      case rel => exact ⟨_, (wrap64 (Int.tdiv x1_1 2)), (by first | rfl | (simp; done) | (simp [*]; done)), H', ⟨by have := HK1.out; first | omega | exact Nat.le_refl _⟩, ⟨by (with_reducible repeat (first | refine blk_drewN ?_ _ | refine blk_drew ?_ | refine blk_alloc ?_ _)); exact BK362.out⟩, ⟨by (with_reducible repeat (first | refine blk_drewN ?_ _ | refine blk_drew ?_ | refine blk_alloc ?_ _)); exact BK366.out⟩, ⟨by repeat (first | (with_reducible first | exact HB.out | apply below_alloc | apply pw_below_drewN | apply below_drew1 | refine below_set ?_ GE362.out | refine below_set ?_ GE366.out) | exact HB.out)⟩⟩
    case rest =>
     clear HC13
     try clear c1
     try clear c2
     try clear p2
     try clear p6
     try clear c7
     try clear c9
     try clear c9b0
     try clear c9b1
     try clear c10
     try clear c14
     try clear c16
     try clear c16b0
     try clear c16b1
     try clear hcz11_0
     try clear hcz11_1
     try clear hcz11_2
     try clear hcz12_0
     try clear hcz12_1
     try clear hcz15_0
     try clear hcz15_1
     try clear hcz15_2
     try clear hcz8_0
     try clear hcz8_1
     try clear hcz8_2
     try clear hfz11_0
     try clear hfz11_1
     try clear hfz11_2
     try clear hfz12_0
     try clear hfz12_1
     try clear hfz15_0
     try clear hfz15_1
     try clear hfz15_2
     try clear hfz8_0
     try clear hfz8_1
     try clear hfz8_2
     try clear p2
     obtain ⟨kq, x1_12, rfl, HA, HJ12, BK362, BK366, HB⟩ := hcut
     cases kq with
     | zero => exact absurd HA.out (by simp [wireloomref02_Made.j1])
     | succ kj12 =>
      have H := HA.out
      clear HA
      simp only [wireloomref02_Made.j1] at H
      replace H := Option.bind_eq_some_iff.mp H
      obtain ⟨⟨t367, t368, t369⟩, A170, H⟩ := H
      replace H : (wireloomref02_Made.l0 kj12 (wrap64 (Int.tdiv x0_1 2)) x1_12 t367 t368 t369) = some (r1, r2) := H
      have A17 := Aside0.mk A170
      clear A170
      have H' := Aside0.mk H
      clear H
      go_wp2_with (first | ((with_reducible refine gate_callee (f := 29) rfl ?_); refine goesL_ (some 20) rfl rfl Tryd.func29 (by kernel_rfl) rfl #[.int .i64 (wrap64 (Int.tdiv x0_1 2)), .int .i64 x1_12] rfl (by (try simp only [List.map_toArray, List.map_cons, List.map_nil]); first | done | rfl | (simp only [List.length_drop, List.length_take]; rfl)) ?_; (with_reducible refine (wireloomref02_MakeIn.calls kj12 (wrap64 (Int.tdiv x0_1 2)) x1_12 t367 t368 t369 _ A17.out).mono ?_); rintro e w18 ⟨rfl, hb⟩; refine ⟨_, rfl, ?_⟩; replace BK362 := Aside0.mk (blk_below BK362.out hb); replace BK366 := Aside0.mk (blk_below BK366.out hb); replace HB := Aside0.mk (below_step HB.out hb); (try clear hb); (try clear A17); have hnb19 := NB366_362.out; have hnc19 := NB362_366.out; have hcz20_0 : w18.cell? ⟨gb366, 0, none⟩ = some (.int .i64 x367000_1) := (blk_cell BK366.out 0).trans rfl; have hcz20_1 : w18.cell? ⟨gb366, 1, none⟩ = some (.int .i64 x367001_1) := (blk_cell BK366.out 1).trans rfl; have hcz20_2 : w18.cell? ⟨gb366, 2, none⟩ = some (.int .i64 x367002_1) := (blk_cell BK366.out 2).trans rfl; have hfz20_0 := blk_frozen BK366.out 0; have hfz20_1 := blk_frozen BK366.out 1; have hfz20_2 := blk_frozen BK366.out 2))
      go_roundg kj12
      case measure => have := HK1.out; have := HJ12.out; omega
      case rel => exact ⟨((wrap64 (Int.tdiv x0_1 2))), (x1_12), (t367), (t368), (t369), (by first | rfl | (simp; done) | (simp [*]; done)), (by first | rfl | (simp; done) | (simp [*]; done)), H', ⟨by have := HK1.out; have := HJ12.out; omega⟩, ⟨by repeat first | (with_reducible first | refine blk_drewN ?_ _ | refine blk_drew ?_ | refine blk_alloc ?_ _) | refine blk_far ?_ NB362_366.out _ | exact BK362.out⟩, ⟨by (with_reducible repeat (first | refine blk_drewN ?_ _ | refine blk_drew ?_ | refine blk_alloc ?_ _)); refine blk_put (cs := #[.int .i64 t367, .int .i64 t368, .int .i64 x367002_1]) ?_ 2 _ rfl; (with_reducible repeat (first | refine blk_drewN ?_ _ | refine blk_drew ?_ | refine blk_alloc ?_ _)); refine blk_put (cs := #[.int .i64 t367, .int .i64 x367001_1, .int .i64 x367002_1]) ?_ 1 _ rfl; (with_reducible repeat (first | refine blk_drewN ?_ _ | refine blk_drew ?_ | refine blk_alloc ?_ _)); refine blk_put (cs := #[.int .i64 x367000_1, .int .i64 x367001_1, .int .i64 x367002_1]) ?_ 0 _ rfl; (with_reducible repeat (first | refine blk_drewN ?_ _ | refine blk_drew ?_ | refine blk_alloc ?_ _)); exact BK366.out⟩, ⟨by repeat (first | (with_reducible first | exact HB.out | apply below_alloc | apply pw_below_drewN | apply below_drew1 | refine below_set ?_ GE362.out | refine below_set ?_ GE366.out) | exact HB.out)⟩⟩

end Go.Proofs.YtndfjpnpdnnpkaaDoor.F
