-- made by a program of this claim (wip/myprint.sh); Lean checks it
import Derived.Test.YtoongglmgpilfaaDoorLx0
import Derived.Test.YtoongglmgpilfaaDoorSt
import Derived.Test.YtoongglmgpilfaaDoorLx2
import Derived.Test.YtoongglmgpilfaaDoorLx3
import Derived.Test.YtoongglmgpilfaaDoorLx4
import Derived.Test.YtoongglmgpilfaaDoorLx9
import Derived.Test.YtoongglmgpilfaaDoorGiven
namespace Go.Proofs.YtoongglmgpilfaaDoor.L
open Go.RowKit Go.Proofs.YtoongglmgpilfaaDoorW.PrintWords Go.Proofs.YtoongglmgpilfaaDoorW.PrintLast Go.Proofs.YtoongglmgpilfaaDoorW.PrintMore
attribute [local go_sem] max2_int min2_int max_two min_two max_three min_three max_four min_four   -- for this text's walks alone
set_option linter.unusedVariables false
set_option linter.unusedSimpArgs false

/-! ### wireloomlaw08_LexerCovers: function 4 -/
mutual
def wireloomlaw08_LexerCovers.j0 : Nat → List Int → ByteArray → Bool → Bool → Option (Bool)
 | 0, _, _, _, _ => none
 | k + 1, x0, x1, x5, x18 => if x18 = true then (some x5) else ((wireloomref08_Made.f k x0).bind fun t255 => (if t255.size + x1.size ≤ 9223372036854775807 then ((wireloomlaw08_lexed.f (t255 ++ x1)).bind fun bt256 => (if bt256.2.2 = 0 then (wireloomlaw08_LexerCovers.l0 k x5 (t255 ++ x1) 0 0 bt256.1 bt256.2.1 bt256.2.2) else (if bt256.2.2 = 5 then (if bt256.2.1 ≥ 0 then (if bt256.2.1 < ((t255 ++ x1).size : Int) then (some ((bt256.1.length : Int) == 0)) else (some false)) else (some false)) else (some false)))) else (none)))
def wireloomlaw08_LexerCovers.l0 : Nat → Bool → ByteArray → Int → Int → List (S39) → Int → Int → Option (Bool)
 | 0, _, _, _, _, _, _, _ => none
 | k + 1, x5, x6, x8, x9, x262000, x262001, x262002 => if x9 < (x262000.length : Int) then (if 0 ≤ x9 then (if ((rd_T39 x262000 x9).f2) < x8 then (wireloomlaw08_LexerCovers.j2 k x5 x6 x9 (wrap64 (((rd_T39 x262000 x9).f2) + (((rd_T39 x262000 x9).f1).size : Int))) true x262000 x262001 x262002) else (if (wrap64 (((rd_T39 x262000 x9).f2) + (((rd_T39 x262000 x9).f1).size : Int))) > (x6.size : Int) then (wireloomlaw08_LexerCovers.j2 k x5 x6 x9 (wrap64 (((rd_T39 x262000 x9).f2) + (((rd_T39 x262000 x9).f1).size : Int))) true x262000 x262001 x262002) else (if 0 ≤ ((rd_T39 x262000 x9).f2) then (if ((rd_T39 x262000 x9).f2) ≤ (wrap64 (((rd_T39 x262000 x9).f2) + (((rd_T39 x262000 x9).f1).size : Int))) then (if (wrap64 (((rd_T39 x262000 x9).f2) + (((rd_T39 x262000 x9).f1).size : Int))) ≤ (x6.size : Int) then (if (x6.extract (((rd_T39 x262000 x9).f2) : Int).toNat ((wrap64 (((rd_T39 x262000 x9).f2) + (((rd_T39 x262000 x9).f1).size : Int))) : Int).toNat).toList = ((rd_T39 x262000 x9).f1).toList then (if 0 ≤ x8 then (if x8 ≤ ((rd_T39 x262000 x9).f2) then (if ((rd_T39 x262000 x9).f2) ≤ (x6.size : Int) then ((wireloomlaw08_white.f k (x6.extract (x8 : Int).toNat (((rd_T39 x262000 x9).f2) : Int).toNat)).bind fun t268 => (if t268 = true then (if ((((rd_T39 x262000 x9).f0) == 4) != (x9 == (wrap64 ((x262000.length : Int) - 1)))) = true then (wireloomlaw08_LexerCovers.j2 k x5 x6 x9 (wrap64 (((rd_T39 x262000 x9).f2) + (((rd_T39 x262000 x9).f1).size : Int))) true x262000 x262001 x262002) else (wireloomlaw08_LexerCovers.j2 k x5 x6 x9 (wrap64 (((rd_T39 x262000 x9).f2) + (((rd_T39 x262000 x9).f1).size : Int))) (((wrap64 (((rd_T39 x262000 x9).f2) + (((rd_T39 x262000 x9).f1).size : Int))) == ((rd_T39 x262000 x9).f2)) != (x9 == (wrap64 ((x262000.length : Int) - 1)))) x262000 x262001 x262002)) else (wireloomlaw08_LexerCovers.j2 k x5 x6 x9 (wrap64 (((rd_T39 x262000 x9).f2) + (((rd_T39 x262000 x9).f1).size : Int))) true x262000 x262001 x262002))) else (none)) else (none)) else (none)) else (wireloomlaw08_LexerCovers.j2 k x5 x6 x9 (wrap64 (((rd_T39 x262000 x9).f2) + (((rd_T39 x262000 x9).f1).size : Int))) true x262000 x262001 x262002)) else (none)) else (none)) else (none)))) else (none)) else (if x8 = (x6.size : Int) then (if (x262000.length : Int) > 0 then (some x5) else (some false)) else (some false))
def wireloomlaw08_LexerCovers.j2 : Nat → Bool → ByteArray → Int → Int → Bool → List (S39) → Int → Int → Option (Bool)
 | 0, _, _, _, _, _, _, _, _ => none
 | k + 1, x5, x6, x9, x10, x148, x262000, x262001, x262002 => if x148 = true then (some false) else (wireloomlaw08_LexerCovers.l0 k x5 x6 x10 (wrap64 (x9 + 1)) x262000 x262001 x262002)
end
def wireloomlaw08_LexerCovers.f (k : Nat) (l0 : List Int) (a1 : ByteArray) : Option (Bool) := (wireloomlaw08_examples.f k).bind fun t254 => (if t254 = true then (wireloomlaw08_LexerCovers.j0 k l0 a1 t254 (decide ((a1.size : Int) > 300))) else (wireloomlaw08_LexerCovers.j0 k l0 a1 t254 true))
theorem wireloomlaw08_LexerCovers.mono_l : ∀ k, (∀ y0 y1 y2 y3, LeO (wireloomlaw08_LexerCovers.j0 k y0 y1 y2 y3) (wireloomlaw08_LexerCovers.j0 (k + 1) y0 y1 y2 y3)) ∧ (∀ y0 y1 y2 y3 y4 y5 y6, LeO (wireloomlaw08_LexerCovers.l0 k y0 y1 y2 y3 y4 y5 y6) (wireloomlaw08_LexerCovers.l0 (k + 1) y0 y1 y2 y3 y4 y5 y6)) ∧ (∀ y0 y1 y2 y3 y4 y5 y6 y7, LeO (wireloomlaw08_LexerCovers.j2 k y0 y1 y2 y3 y4 y5 y6 y7) (wireloomlaw08_LexerCovers.j2 (k + 1) y0 y1 y2 y3 y4 y5 y6 y7))
 | 0 => ⟨fun _ _ _ _ r h => by simp [wireloomlaw08_LexerCovers.j0] at h, fun _ _ _ _ _ _ _ r h => by simp [wireloomlaw08_LexerCovers.l0] at h, fun _ _ _ _ _ _ _ _ r h => by simp [wireloomlaw08_LexerCovers.j2] at h⟩
 | k + 1 => by
  obtain ⟨ih0, ih1, ih2⟩ := wireloomlaw08_LexerCovers.mono_l k
  refine ⟨?_, ?_, ?_⟩
  ·intro y0 y1 y2 y3
   unfold wireloomlaw08_LexerCovers.j0
   repeat' first
   | (with_reducible exact ih0 _ _ _ _)
   | (with_reducible exact ih1 _ _ _ _ _ _ _)
   | (with_reducible exact ih2 _ _ _ _ _ _ _ _)
   | (with_reducible exact wireloomlaw08_examples.mono _)
   | (with_reducible exact wireloomlaw08_white.mono _ _)
   | (with_reducible exact wireloomref08_Made.mono _ _)
   | (with_reducible exact LeO.refl _)
   | (with_reducible exact LeO.none _)
   | (with_reducible refine LeO.ite ?_ ?_)
   | (with_reducible refine LeO.bind ?_ (fun _ => ?_))
   | exact ih0 _ _ _ _
   | exact ih1 _ _ _ _ _ _ _
   | exact ih2 _ _ _ _ _ _ _ _
   | exact wireloomlaw08_examples.mono _
   | exact wireloomlaw08_white.mono _ _
   | exact wireloomref08_Made.mono _ _
   | exact LeO.none _
   | refine LeO.ite ?_ ?_
   | refine LeO.bind ?_ (fun _ => ?_)
  ·intro y0 y1 y2 y3 y4 y5 y6
   unfold wireloomlaw08_LexerCovers.l0
   repeat' first
   | (with_reducible exact ih0 _ _ _ _)
   | (with_reducible exact ih1 _ _ _ _ _ _ _)
   | (with_reducible exact ih2 _ _ _ _ _ _ _ _)
   | (with_reducible exact wireloomlaw08_examples.mono _)
   | (with_reducible exact wireloomlaw08_white.mono _ _)
   | (with_reducible exact wireloomref08_Made.mono _ _)
   | (with_reducible exact LeO.refl _)
   | (with_reducible exact LeO.none _)
   | (with_reducible refine LeO.ite ?_ ?_)
   | (with_reducible refine LeO.bind ?_ (fun _ => ?_))
   | exact ih0 _ _ _ _
   | exact ih1 _ _ _ _ _ _ _
   | exact ih2 _ _ _ _ _ _ _ _
   | exact wireloomlaw08_examples.mono _
   | exact wireloomlaw08_white.mono _ _
   | exact wireloomref08_Made.mono _ _
   | exact LeO.none _
   | refine LeO.ite ?_ ?_
   | refine LeO.bind ?_ (fun _ => ?_)
  ·intro y0 y1 y2 y3 y4 y5 y6 y7
   unfold wireloomlaw08_LexerCovers.j2
   repeat' first
   | (with_reducible exact ih0 _ _ _ _)
   | (with_reducible exact ih1 _ _ _ _ _ _ _)
   | (with_reducible exact ih2 _ _ _ _ _ _ _ _)
   | (with_reducible exact wireloomlaw08_examples.mono _)
   | (with_reducible exact wireloomlaw08_white.mono _ _)
   | (with_reducible exact wireloomref08_Made.mono _ _)
   | (with_reducible exact LeO.refl _)
   | (with_reducible exact LeO.none _)
   | (with_reducible refine LeO.ite ?_ ?_)
   | (with_reducible refine LeO.bind ?_ (fun _ => ?_))
   | exact ih0 _ _ _ _
   | exact ih1 _ _ _ _ _ _ _
   | exact ih2 _ _ _ _ _ _ _ _
   | exact wireloomlaw08_examples.mono _
   | exact wireloomlaw08_white.mono _ _
   | exact wireloomref08_Made.mono _ _
   | exact LeO.none _
   | refine LeO.ite ?_ ?_
   | refine LeO.bind ?_ (fun _ => ?_)
theorem wireloomlaw08_LexerCovers.mono : ∀ a0 a1 k, LeO (wireloomlaw08_LexerCovers.f k a0 a1) (wireloomlaw08_LexerCovers.f (k + 1) a0 a1) := by
 intro a0 a1 k
 obtain ⟨ih0, ih1, ih2⟩ := wireloomlaw08_LexerCovers.mono_l k
 unfold wireloomlaw08_LexerCovers.f
 repeat' first
   | (with_reducible exact ih0 _ _ _ _)
   | (with_reducible exact ih1 _ _ _ _ _ _ _)
   | (with_reducible exact ih2 _ _ _ _ _ _ _ _)
   | (with_reducible exact wireloomlaw08_examples.mono _)
   | (with_reducible exact wireloomlaw08_white.mono _ _)
   | (with_reducible exact wireloomref08_Made.mono _ _)
   | (with_reducible exact LeO.refl _)
   | (with_reducible exact LeO.none _)
   | (with_reducible refine LeO.ite ?_ ?_)
   | (with_reducible refine LeO.bind ?_ (fun _ => ?_))
   | exact ih0 _ _ _ _
   | exact ih1 _ _ _ _ _ _ _
   | exact ih2 _ _ _ _ _ _ _ _
   | exact wireloomlaw08_examples.mono _
   | exact wireloomlaw08_white.mono _ _
   | exact wireloomref08_Made.mono _ _
   | exact LeO.none _
   | refine LeO.ite ?_ ?_
   | refine LeO.bind ?_ (fun _ => ?_)
theorem wireloomlaw08_LexerCovers.dead_j2_true (k : Nat) (x5 : Bool) (x6 : ByteArray) (x9 : Int) (x10 : Int) (x262000 : List (S39)) (x262001 : Int) (x262002 : Int) : ¬ wireloomlaw08_LexerCovers.j2 k x5 x6 x9 x10 true x262000 x262001 x262002 = some true := by
 cases k with
 | zero => simp [wireloomlaw08_LexerCovers.j2]
 | succ k => simp [wireloomlaw08_LexerCovers.j2]
def wireloomlaw08_LexerCovers.T12 : Bool × List (List Nat × List Nat) := (true, [([], []), ([0], [0]), ([], []), ([1, 2], [1, 2]), ([3], [3]), ([4], [4]), ([], []), ([6], [6]), ([], []), ([7, 8], [7, 8]), ([9], [9]), ([10], [10]), ([11], [11]), ([5, 12], [5, 12]), ([13, 0, 1, 2, 3, 4, 5, 6, 7, 8, 9, 10, 11, 12, 13], [13])])
def wireloomlaw08_LexerCovers.B12 : List Nat := [0, 1, 0, 7, 15, 31, 0, 64, 0, 448, 960, 1984, 4032, 8191, 16383]
theorem wireloomlaw08_LexerCovers.tab12 : rtab .any (opsOf Tryd.f4 12) = wireloomlaw08_LexerCovers.T12 := by kernel_rfl
theorem wireloomlaw08_LexerCovers.bits12 : waitsOk wireloomlaw08_LexerCovers.T12.2 wireloomlaw08_LexerCovers.B12 = true := by kernel_rfl
def wireloomlaw08_LexerCovers.T13 : Bool × List (List Nat × List Nat) := (true, [([], []), ([0], [0]), ([], []), ([1, 2], [1, 2]), ([3], [3]), ([4], [4]), ([], []), ([5, 6], [5, 6]), ([7], [7]), ([8], [8]), ([8], [8]), ([10, 8], [8, 10]), ([9, 11, 8], [8, 9, 11]), ([8, 12], [8, 12]), ([13, 8], [13]), ([14], [14]), ([14], [14]), ([16, 14], [14, 16]), ([14], [14]), ([17, 18, 14], [14, 17, 18]), ([19, 14], [14, 19]), ([20, 14], [14, 20]), ([14], [14]), ([15, 21, 22, 14], [14, 15, 21, 22]), ([14], [14]), ([24, 14], [14, 24]), ([14], [14]), ([25, 26, 14], [14, 25, 26]), ([27, 14], [14, 27]), ([28, 14], [14, 28]), ([23, 29, 14], [14, 23, 29]), ([14, 30], [14, 30]), ([31, 14], [31]), ([32], [32]), ([32], [32]), ([32], [32]), ([35, 32], [32, 35]), ([32], [32]), ([36, 37, 32], [32, 36, 37]), ([38, 32], [32, 38]), ([39, 32], [32, 39]), ([33, 34, 40, 32], [32, 33, 34, 40]), ([41, 32, 32], [32, 41]), ([42, 32], [32, 42]), ([32, 43], [32, 43]), ([44, 42], [44]), ([45], [45]), ([46, 45], [45, 46]), ([45], [45]), ([47, 48, 45], [45, 47, 48]), ([49, 45], [45, 49]), ([50, 45], [45, 50]), ([51, 45], [45, 51]), ([45], [45]), ([45], [45]), ([54, 45], [45, 54]), ([55, 45], [45, 55]), ([56, 45], [45, 56]), ([53, 57, 45], [45, 53, 57]), ([52, 58, 45], [45, 52, 58]), ([45, 59], [45, 59]), ([60, 45], [60]), ([61], [61]), ([61], [61]), ([63, 61], [61, 63]), ([61], [61]), ([64, 65, 61], [61, 64, 65]), ([66, 61], [61, 66]), ([67, 61], [61, 67]), ([62, 68, 61], [61, 62, 68]), ([61], [61]), ([61], [61]), ([71, 61], [61, 71]), ([72, 61], [61, 72]), ([73, 61], [61, 73]), ([70, 74, 61], [61, 70, 74]), ([69, 75, 61], [61, 69, 75]), ([61, 76], [61, 76])])
def wireloomlaw08_LexerCovers.B13 : List Nat := [0, 1, 0, 7, 15, 31, 0, 127, 255, 511, 511, 1535, 4095, 8191, 16383, 32767, 32767, 98303, 32767, 491519, 1015807, 2064383, 32767, 8388607, 32767, 16809983, 32767, 117473279, 251691007, 520126463, 1073741823, 2147483647, 4294967295, 8589934591, 8589934591, 8589934591, 42949672959, 8589934591, 249108103167, 523986010111, 1073741823999, 2199023255551, 4398046511103, 8796093022207, 17592186044415, 35184372088831, 70368744177663, 140737488355327, 70368744177663, 562949953421311, 1125899906842623, 2251799813685247, 4503599627370495, 70368744177663, 70368744177663, 18084767253659647, 54113564272623615, 126171158310551551, 279293545641148415, 576460752303423487, 1152921504606846975, 2305843009213693951, 4611686018427387903, 4611686018427387903, 13835058055282163711, 4611686018427387903, 69175290276410818559, 142962266571249025023, 290536219160925437951, 590295810358705651711, 4611686018427387903, 4611686018427387903, 2365794927453249994751, 7088161410322895208447, 16532894376062185635839, 36602951928258177794047, 75557863725914323419135, 151115727451828646838271]
theorem wireloomlaw08_LexerCovers.tab13 : rtab .any (opsOf Tryd.f4 13) = wireloomlaw08_LexerCovers.T13 := by kernel_rfl
theorem wireloomlaw08_LexerCovers.bits13 : waitsOk wireloomlaw08_LexerCovers.T13.2 wireloomlaw08_LexerCovers.B13 = true := by kernel_rfl
set_option maxHeartbeats 8000000 in
set_option maxRecDepth 100000 in
theorem wireloomlaw08_LexerCovers.calls (k : Nat) (A0 : Option Addr) (c0 : Nat) (l0 : List Int) (a1 : ByteArray) (w : World) (hr0 : Kd.C (Kd.int .u8) w A0 l0.length l0) (hc0 : l0.length ≤ c0) (hGL : GL w) (h : wireloomlaw08_LexerCovers.f k l0 a1 = some true) :
  Calls Tryd.prog 4 #[.slice A0 l0.length c0, .string a1] w fun e w' => e = .returned (.bool true) ∧ Below w.heap.size w w' := by
 have hu29 := Tryd.underlying29
 have HR0 := Aside0.mk hr0
 have HC0 := Aside0.mk hc0
 clear hr0 hc0
 have HB := Aside0.mk (Below.refl w.heap.size w)
 have H : ((wireloomlaw08_examples.f k).bind fun t254 => (if t254 = true then (wireloomlaw08_LexerCovers.j0 k l0 a1 t254 (decide ((a1.size : Int) > 300))) else (wireloomlaw08_LexerCovers.j0 k l0 a1 t254 true))) = some true := h
 clear h
 replace H := Option.bind_eq_some_iff.mp H
 obtain ⟨t254, A30, H⟩ := H
 replace H : (if t254 = true then (wireloomlaw08_LexerCovers.j0 k l0 a1 t254 (decide ((a1.size : Int) > 300))) else (wireloomlaw08_LexerCovers.j0 k l0 a1 t254 true)) = some true := H
 have A3 := Aside0.mk A30
 clear A30
 have HC4 := Aside0.mk H
 clear H
 go_enter Tryd.func4, Tryd.ntmps4
 go_upto_region 2 with (first | ((with_reducible refine gate_callee (f := 10) rfl ?_); refine goesL_ (some 11) rfl rfl Tryd.func10 (by kernel_rfl) rfl #[] rfl (by (try simp only [List.map_toArray, List.map_cons, List.map_nil]); first | done | rfl | (simp only [List.length_drop, List.length_take]; rfl)) ?_; (with_reducible refine (wireloomlaw08_examples.calls k  t254 _ ?side1 A3.out).mono ?_); (case side1 => exact GL.below hGL (by repeat (first | (with_reducible first | exact HB.out | apply below_alloc | apply pw_below_drewN | apply below_drew1) | exact HB.out))); rintro e w5 ⟨rfl, hb⟩; refine ⟨_, rfl, ?_⟩; have n0_ := Aside0.mk (below_step (by repeat (first | (with_reducible first | exact HB.out | apply below_alloc | apply pw_below_drewN | apply below_drew1) | exact HB.out)) hb); clear HB; have HB := n0_; clear n0_; (try clear hb); (try clear hb2); (try clear hk); (try clear hi); (try clear A3)))
 (try simp only [Act.put, List.setIfInBounds_toArray, List.set_cons_zero, List.set_cons_succ])
 go_cut [18] (fun v18 wc => ∃ (kq : Nat) (x18_3 : Bool), v18 = .bool x18_3 ∧ Aside0 (wireloomlaw08_LexerCovers.j0 kq l0 a1 t254 x18_3 = some true) ∧ Aside0 (kq ≤ k) ∧ Aside0 (Below w.heap.size w wc))
 case first =>
  have H := HC4.out
  clear HC4
  by_cases c6 : t254 = true
  ·subst c6
   have H1 : (wireloomlaw08_LexerCovers.j0 k l0 a1 true (decide ((a1.size : Int) > 300))) = some true := by rw [if_pos rfl] at H; exact H
   clear H
   have H := H1
   clear H1
   have H' := Aside0.mk H
   clear H
   go_wp2
   go_meet
   case rel => exact ⟨_, (decide ((a1.size : Int) > 300)), (by first | rfl | (simp; done) | (simp [*]; done)), H', ⟨by first | omega | exact Nat.le_refl _⟩, ⟨by repeat (first | (with_reducible first | exact HB.out | apply below_alloc | apply pw_below_drewN | apply below_drew1) | exact HB.out)⟩⟩
  ·replace c6 := Bool.eq_false_iff.mpr c6
   subst c6
   have H1 : (wireloomlaw08_LexerCovers.j0 k l0 a1 false true) = some true := by rw [if_neg (show ¬ (false = true) by decide)] at H; exact H
   clear H
   have H := H1
   clear H1
   have H' := Aside0.mk H
   clear H
   go_wp2
   go_meet
   case rel => exact ⟨_, (true), (by first | rfl | (simp; done) | (simp [*]; done)), H', ⟨by first | omega | exact Nat.le_refl _⟩, ⟨by repeat (first | (with_reducible first | exact HB.out | apply below_alloc | apply pw_below_drewN | apply below_drew1) | exact HB.out)⟩⟩
 case rest =>
  clear HC4
  try clear c1
  try clear p2
  try clear c4
  try clear c6
  obtain ⟨kq, x18_3, rfl, HA, HJ3, HB⟩ := hcut
  cases kq with
  | zero => exact absurd HA.out (by simp [wireloomlaw08_LexerCovers.j0])
  | succ kj3 =>
   have H := HA.out
   clear HA
   simp only [wireloomlaw08_LexerCovers.j0] at H
   by_cases c7 : x18_3 = true
   ·subst c7
    have H1 : (some t254) = some true := by rw [if_pos rfl] at H; exact H
    clear H
    have H := H1
    clear H1
    have Hr_ := Option.some.inj H
    (try subst Hr_)
    go_wp2
    go_ret
    exact ⟨by first | rfl | (simp [errW_none, errW_some] <;> rfl) | (simp [*, errW_none, errW_some] <;> rfl), by repeat (first | (with_reducible first | exact HB.out | apply below_alloc | apply pw_below_drewN | apply below_drew1) | exact HB.out)⟩
   ·replace c7 := Bool.eq_false_iff.mpr c7
    subst c7
    have H1 : ((wireloomref08_Made.f kj3 l0).bind fun t255 => (if t255.size + a1.size ≤ 9223372036854775807 then ((wireloomlaw08_lexed.f (t255 ++ a1)).bind fun bt256 => (if bt256.2.2 = 0 then (wireloomlaw08_LexerCovers.l0 kj3 t254 (t255 ++ a1) 0 0 bt256.1 bt256.2.1 bt256.2.2) else (if bt256.2.2 = 5 then (if bt256.2.1 ≥ 0 then (if bt256.2.1 < ((t255 ++ a1).size : Int) then (some ((bt256.1.length : Int) == 0)) else (some false)) else (some false)) else (some false)))) else (none))) = some true := by rw [if_neg (show ¬ (false = true) by decide)] at H; exact H
    clear H
    have H := H1
    clear H1
    replace H := Option.bind_eq_some_iff.mp H
    obtain ⟨t255, A80, H⟩ := H
    replace H : (if t255.size + a1.size ≤ 9223372036854775807 then ((wireloomlaw08_lexed.f (t255 ++ a1)).bind fun bt256 => (if bt256.2.2 = 0 then (wireloomlaw08_LexerCovers.l0 kj3 t254 (t255 ++ a1) 0 0 bt256.1 bt256.2.1 bt256.2.2) else (if bt256.2.2 = 5 then (if bt256.2.1 ≥ 0 then (if bt256.2.1 < ((t255 ++ a1).size : Int) then (some ((bt256.1.length : Int) == 0)) else (some false)) else (some false)) else (some false)))) else (none)) = some true := H
    have A8 := Aside0.mk A80
    clear A80
    by_cases c9 : t255.size + a1.size ≤ 9223372036854775807
    ·rw [if_pos c9] at H
     have c9b0 := eq_true c9
     have c9b1 : decide (t255.size + a1.size ≤ 9223372036854775807) = true := decide_eq_true c9
     try have c9b2 : (9223372036854775807 < t255.size + a1.size) = False := eq_false (Nat.not_lt.2 c9)
     replace H := Option.bind_eq_some_iff.mp H
     obtain ⟨⟨t256, t259, t260⟩, A100, H⟩ := H
     replace H : (if t260 = 0 then (wireloomlaw08_LexerCovers.l0 kj3 t254 (t255 ++ a1) 0 0 t256 t259 t260) else (if t260 = 5 then (if t259 ≥ 0 then (if t259 < ((t255 ++ a1).size : Int) then (some ((t256.length : Int) == 0)) else (some false)) else (some false)) else (some false))) = some true := H
     have A10 := Aside0.mk A100
     clear A100
     by_cases c11 : t260 = 0
     ·rw [if_pos c11] at H
      have c11b0 : (t260 == 0) = true := beq_iff_eq.mpr c11
      have c11b1 : (t260 != 0) = false := bne_eq_false_iff_eq.mpr c11
      clear c11
      have H' := Aside0.mk H
      clear H
      go_wp2_with (first | ((with_reducible refine gate_callee (f := 11) rfl ?_); refine goesL_ (some 21) rfl rfl Tryd.func11 (by kernel_rfl) rfl #[.slice A0 l0.length c0] rfl (by (try simp only [List.map_toArray, List.map_cons, List.map_nil]); first | done | rfl | (simp only [List.length_drop, List.length_take]; rfl)) ?_; (with_reducible refine (wireloomref08_Made.calls kj3 _ _ l0 t255 _ ?side1 ?side2 A8.out).mono ?_); (case side1 => repeat (first | exact (Kd.C_below HR0.out HB.out) | (with_reducible refine Kd.C_alloc ?_ _) | (with_reducible refine Kd.C_drewN ?_ _) | (with_reducible refine Kd.C_drew ?_))); (case side2 => exact HC0.out); rintro e w12 ⟨rfl, hb⟩; refine ⟨_, rfl, ?_⟩; have n0_ := Aside0.mk (below_step (by repeat (first | (with_reducible first | exact HB.out | apply below_alloc | apply pw_below_drewN | apply below_drew1) | exact HB.out)) hb); clear HB; have HB := n0_; clear n0_; (try clear hb); (try clear hb2); (try clear hk); (try clear hi); (try clear A8)) | ((with_reducible refine gate_callee (f := 13) rfl ?_); refine goesL_ (some 25) rfl rfl Tryd.func13 (by kernel_rfl) rfl #[.string (t255 ++ a1)] rfl (by (try simp only [List.map_toArray, List.map_cons, List.map_nil]); first | done | rfl | (simp only [List.length_drop, List.length_take]; rfl)) ?_; (with_reducible refine (wireloomlaw08_lexed.calls (t255 ++ a1) t256 t259 t260 _ ?side1 A10.out).mono ?_); (case side1 => exact GL.below hGL (by repeat (first | (with_reducible first | exact HB.out | apply below_alloc | apply pw_below_drewN | apply below_drew1) | exact HB.out))); rintro e w13 ⟨v257, rfl, ho0, hb⟩; refine ⟨_, rfl, ?_⟩; have n0_ := Aside0.mk (Kd.R_lower ho0 (below_size (by repeat (first | (with_reducible first | exact HB.out | apply below_alloc | apply pw_below_drewN | apply below_drew1) | exact HB.out)))); have n1_ := Aside0.mk (below_step (by repeat (first | (with_reducible first | exact HB.out | apply below_alloc | apply pw_below_drewN | apply below_drew1) | exact HB.out)) hb); clear HB; have HO258 := n0_; have HB := n1_; clear n0_ n1_; (try clear hb); (try clear hb2); (try clear hk); (try clear hi); (try clear ho0); (try clear A10)) | ((with_reducible refine gate_dst (N := 7) rfl ?_); (try (refine gate_guard (by rfl) ?_; dsimp only)); refine box_event ?hg (N := 7) ?hd (cs := #[.slice none 0 0, .int .i64 0, .int .i64 0]) (t := 29) ?hr ?_; (case hd => rfl); (case hg => rfl); (case hr => first | (go_simp; done) | (go_simp; rfl)); intro gb261 hg w14 hbox hb; have n0_ := Aside0.mk (Kd.R_below (by (with_reducible repeat (first | apply Kd.R_alloc | apply Kd.R_drewN | apply Kd.R_drew)); exact HO258.out) hb); have n1_ := Aside0.mk (below_step (by repeat (first | (with_reducible first | exact HB.out | apply below_alloc | apply pw_below_drewN | apply below_drew1) | exact HB.out)) hb); have n2_ := Aside0.mk (hbox); have n3_ := Aside0.mk ((by rw [hg]; exact (below_size (by repeat (first | (with_reducible first | exact HB.out | apply below_alloc | apply pw_below_drewN | apply below_drew1) | exact HB.out))) : w.heap.size ≤ gb261)); have n4_ := Aside0.mk ((by rw [hg]; exact (below_size (by repeat (first | (with_reducible first | exact HB.out | apply below_alloc | apply pw_below_drewN | apply below_drew1) | exact HB.out))) : w.heap.size ≤ gb261)); clear HO258; clear HB; have HO258 := n0_; have HB := n1_; have BK261 := n2_; have GW261 := n3_; have GE261 := n4_; clear n0_ n1_ n2_ n3_ n4_; clear hb hbox hg; obtain ⟨Ao15, co15, eo15⟩ := Kd.R_slice HO258.out; subst eo15; have hcz16_0 : w14.cell? ⟨gb261, 0, none⟩ = some (.slice none 0 0) := (blk_cell BK261.out 0).trans rfl; have hcz16_1 : w14.cell? ⟨gb261, 1, none⟩ = some (.int .i64 0) := (blk_cell BK261.out 1).trans rfl; have hcz16_2 : w14.cell? ⟨gb261, 2, none⟩ = some (.int .i64 0) := (blk_cell BK261.out 2).trans rfl; have hfz16_0 := blk_frozen BK261.out 0; have hfz16_1 := blk_frozen BK261.out 1; have hfz16_2 := blk_frozen BK261.out 2))
      go_loopg [8, 9] kj3 (fun kq v8 v9 w' => ∃ (x8_2 : Int) (x9_2 : Int), v8 = .int .i64 x8_2 ∧ v9 = .int .i64 x9_2 ∧ Aside0 (wireloomlaw08_LexerCovers.l0 kq t254 (t255 ++ a1) x8_2 x9_2 t256 t259 t260 = some true) ∧ Aside0 (kq ≤ kj3) ∧ Aside0 (Kd.R k39 39 w' w.heap.size (fun _ => True) (.slice Ao15 t256.length co15) t256) ∧ Aside0 (w'.heap[gb261]? = some (.cells #[(.slice Ao15 t256.length co15), .int .i64 t259, .int .i64 t260] 29 (0, 0))) ∧ Aside0 (Below w.heap.size w w'))
      case atStart => exact ⟨(0), (0), (by first | rfl | (simp; done) | (simp [*]; done)), (by first | rfl | (simp; done) | (simp [*]; done)), H', ⟨Nat.le_refl _⟩, ⟨by (with_reducible repeat (first | apply Kd.R_alloc | apply Kd.R_drewN | apply Kd.R_drew)); exact Kd.R_mono (Kd.R_far (p := ⟨gb261, 2, none⟩) (Kd.R_far (p := ⟨gb261, 1, none⟩) (Kd.R_far (p := ⟨gb261, 0, none⟩) (Kd.R_types HO258.out BK261.out (by decide)) (fun _ hk => hk.2) (.slice Ao15 t256.length co15)) (fun _ hk => hk.2) (.int .i64 t259)) (fun _ hk => hk.2) (.int .i64 t260)) (fun _ hk => trivial)⟩, ⟨by (with_reducible repeat (first | refine blk_drewN ?_ _ | refine blk_drew ?_ | refine blk_alloc ?_ _)); refine blk_put (cs := #[.slice Ao15 t256.length co15, .int .i64 t259, .int .i64 0]) ?_ 2 _ rfl; (with_reducible repeat (first | refine blk_drewN ?_ _ | refine blk_drew ?_ | refine blk_alloc ?_ _)); refine blk_put (cs := #[.slice Ao15 t256.length co15, .int .i64 0, .int .i64 0]) ?_ 1 _ rfl; (with_reducible repeat (first | refine blk_drewN ?_ _ | refine blk_drew ?_ | refine blk_alloc ?_ _)); refine blk_put (cs := #[.slice none 0 0, .int .i64 0, .int .i64 0]) ?_ 0 _ rfl; (with_reducible repeat (first | refine blk_drewN ?_ _ | refine blk_drew ?_ | refine blk_alloc ?_ _)); exact BK261.out⟩, ⟨by repeat (first | (with_reducible first | exact HB.out | apply below_alloc | apply pw_below_drewN | apply below_drew1 | refine below_set ?_ GE261.out) | exact HB.out)⟩⟩
      case round =>
       clear H'
       try clear c1
       try clear p2
       try clear c4
       try clear c6
       try clear c7
       try clear c9
       try clear c9b0
       try clear c9b1
       try clear c9b2
       try clear c10
       try clear c11
       try clear c11b0
       try clear c11b1
       try clear c13
       try clear hcz16_0
       try clear hcz16_1
       try clear hcz16_2
       try clear hfz16_0
       try clear hfz16_1
       try clear hfz16_2
       try clear p2
       obtain ⟨x8_2, x9_2, rfl, rfl, HA, HK2, HO_262000, BK261, HB⟩ := hrel
       cases gk with
       | zero => exact absurd HA.out (by simp [wireloomlaw08_LexerCovers.l0])
       | succ k2 =>
        have H := HA.out
        clear HA
        simp only [wireloomlaw08_LexerCovers.l0] at H
        by_cases c17 : x9_2 < (t256.length : Int)
        ·rw [if_pos c17] at H
         have c17b0 : decide (x9_2 < (t256.length : Int)) = true := decide_eq_true c17
         clear c17
         by_cases c18 : 0 ≤ x9_2
         ·rw [if_pos c18] at H
          have c18b0 : decide (0 ≤ x9_2) = true := decide_eq_true c18
          clear c18
          have HC19 := Aside0.mk H
          clear H
          have hcz20_0 : wr.cell? ⟨gb261, 0, none⟩ = some (.slice Ao15 t256.length co15) := (blk_cell BK261.out 0).trans rfl
          have hcz20_1 : wr.cell? ⟨gb261, 1, none⟩ = some (.int .i64 t259) := (blk_cell BK261.out 1).trans rfl
          have hcz20_2 : wr.cell? ⟨gb261, 2, none⟩ = some (.int .i64 t260) := (blk_cell BK261.out 2).trans rfl
          have hfz20_0 := blk_frozen BK261.out 0
          have hfz20_1 := blk_frozen BK261.out 1
          have hfz20_2 := blk_frozen BK261.out 2
          try go_wp2
          have n0_ := Aside0.mk (Kd.R_drew HO_262000.out)
          have n1_ := Aside0.mk (blk_drew BK261.out)
          have n2_ := Aside0.mk (below_drew1 HB.out)
          clear HO_262000
          clear BK261
          clear HB
          have HO_262000 := n0_
          have BK261 := n1_
          have HB := n2_
          clear n0_ n1_ n2_
          have p262 : 0 ≤ (x9_2 : Int) := of_decide_eq_true (by first | (with_reducible assumption) | assumption)
          have q262 : x9_2 < (t256.length : Int) := of_decide_eq_true (by first | (with_reducible assumption) | assumption)
          obtain ⟨ad262, e262, hx262_0, hx262_1, hx262_2⟩ := at_T39 (Kd.R_reads' HO_262000.out).2.2 x9_2 p262 q262
          cases e262
          replace p262 := eq_true p262
          replace q262 := eq_true q262
          have p263 : 0 ≤ (x9_2 : Int) := of_decide_eq_true (by first | (with_reducible assumption) | assumption)
          have q263 : x9_2 < (t256.length : Int) := of_decide_eq_true (by first | (with_reducible assumption) | assumption)
          obtain ⟨ad263, e263, hx263_0, hx263_1, hx263_2⟩ := at_T39 (Kd.R_reads' HO_262000.out).2.2 x9_2 p263 q263
          obtain rfl : ad262 = ad263 := (by injection e263)
          replace p263 := eq_true p263
          replace q263 := eq_true q263
          refine start_ (n := 15) (S := fun w' => w'.cell? ⟨gb261, 0, none⟩ = some (.slice (some ad262) t256.length co15) ∧ w'.cell? ⟨gb261, 1, none⟩ = some (.int .i64 t259) ∧ w'.cell? ⟨gb261, 2, none⟩ = some (.int .i64 t260) ∧ w'.cell? (ad262.add ((x9_2).toNat * 3)) = some (.int .i64 ((rd_T39 t256 x9_2).f0)) ∧ w'.cell? ⟨(ad262.add ((x9_2).toNat * 3)).block, (ad262.add ((x9_2).toNat * 3)).off + 1, none⟩ = some (.string ((rd_T39 t256 x9_2).f1)) ∧ w'.cell? ⟨(ad262.add ((x9_2).toNat * 3)).block, (ad262.add ((x9_2).toNat * 3)).off + 2, none⟩ = some (.int .i64 ((rd_T39 t256 x9_2).f2)) ∧ w'.cell? (ad262.add ((x9_2).toNat * 3)) = some (.int .i64 ((rd_T39 t256 x9_2).f0)) ∧ w'.cell? ⟨(ad262.add ((x9_2).toNat * 3)).block, (ad262.add ((x9_2).toNat * 3)).off + 1, none⟩ = some (.string ((rd_T39 t256 x9_2).f1)) ∧ w'.cell? ⟨(ad262.add ((x9_2).toNat * 3)).block, (ad262.add ((x9_2).toNat * 3)).off + 2, none⟩ = some (.int .i64 ((rd_T39 t256 x9_2).f2))) (ds := []) #[F_,F_,F_,F_,F_,F_,F_,F_,F_,F_,F_,F_,F_,F_,F_] (by kernel_rfl) rfl rfl ⟨(blk_cell BK261.out 0).trans rfl, (blk_cell BK261.out 1).trans rfl, (blk_cell BK261.out 2).trans rfl, hx262_0, hx262_1, hx262_2, hx263_0, hx263_1, hx263_2⟩ (fun hHeld => ?_); refine with_tabW wireloomlaw08_LexerCovers.tab12 wireloomlaw08_LexerCovers.bits12 (fun HT_ HW_ => ?_)
          generalize wr.drew = w21 at HO_262000 BK261 HB hx262_0 hx262_1 hx262_2 hx263_0 hx263_1 hx263_2 hHeld ⊢
          refine pz_ 0 57 15 1 HT_ rfl rfl (by kernel_rfl) ?_ (fun _ _ _ h => h) (by rfl) (fun w' => ?_) ?_ ?_ ?_;rotate_left;go_simp;with_reducible rfl;rotate_left;simp only [P_,A_,B_,C_,i64_w,i32_w];rfl
          refine pz_ 2 59 15 5 HT_ rfl rfl (by kernel_rfl) ?_ (fun _ _ _ h => h) (by rfl) (fun w' => ?_) ?_ ?_ ?_;rotate_left;go_simp;with_reducible rfl;rotate_left;simp only [P_,A_,B_,C_,i64_w,i32_w];rfl
          refine pz_ 6 63 15 69 HT_ rfl rfl (by kernel_rfl) ?_ (fun _ _ _ h => h) (by rfl) (fun w' => ?_) ?_ ?_ ?_;rotate_left;go_simp;with_reducible rfl;rotate_left;simp only [P_,A_,B_,C_,i64_w,i32_w];rfl
          refine pz_ 8 65 15 325 HT_ rfl rfl (by kernel_rfl) ?_ (fun _ _ _ h => h) (by rfl) (fun w' => ?_) ?_ ?_ ?_;rotate_left;go_simp;with_reducible rfl;rotate_left;simp only [P_,A_,B_,C_,i64_w,i32_w];rfl
          refine tz_ 1 58 15 327 HT_ HW_ rfl rfl (by kernel_rfl) hHeld ?_ (fun _ _ _ h => h) (by rfl) (fun w' ⟨s0, s1, s2, s3, s4, s5, s6, s7, s8⟩ => ?_) ?_ ?_ ?_;rotate_left;go_simp;with_reducible rfl;rotate_left;simp only [P_,A_,B_,C_,i64_w,i32_w];rfl
          refine pz_ 3 60 15 335 HT_ rfl rfl (by kernel_rfl) ?_ (fun _ _ _ h => h) (by rfl) (fun w' => ?_) ?_ ?_ ?_;rotate_left;go_simp;with_reducible rfl;rotate_left;simp only [P_,A_,B_,C_,i64_w,i32_w];rfl
          refine pz_ 4 61 15 351 HT_ rfl rfl (by kernel_rfl) ?_ (fun _ _ _ h => h) (by rfl) (fun w' => ?_) ?_ ?_ ?_;rotate_left;go_simp;with_reducible rfl;rotate_left;simp only [P_,A_,B_,C_,i64_w,i32_w];rfl
          refine tz_ 5 62 15 383 HT_ HW_ rfl rfl (by kernel_rfl) hHeld ?_ (fun _ _ _ h => h) (by rfl) (fun w' ⟨s0, s1, s2, s3, s4, s5, s6, s7, s8⟩ => ?_) ?_ ?_ ?_;rotate_left;go_simp;with_reducible rfl;rotate_left;simp only [P_,A_,B_,C_,i64_w,i32_w];rfl
          refine tz_ 7 64 15 511 HT_ HW_ rfl rfl (by kernel_rfl) hHeld ?_ (fun _ _ _ h => h) (by rfl) (fun w' ⟨s0, s1, s2, s3, s4, s5, s6, s7, s8⟩ => ?_) ?_ ?_ ?_;rotate_left;go_simp;with_reducible rfl;rotate_left;simp only [P_,A_,B_,C_,i64_w,i32_w];rfl
          refine pz_ 9 66 15 1023 HT_ rfl rfl (by kernel_rfl) ?_ (fun _ _ _ h => h) (by rfl) (fun w' => ?_) ?_ ?_ ?_;rotate_left;go_simp;with_reducible rfl;rotate_left;simp only [P_,A_,B_,C_,i64_w,i32_w];rfl
          refine pz_ 10 67 15 2047 HT_ rfl rfl (by kernel_rfl) ?_ (fun _ _ _ h => h) (by rfl) (fun w' => ?_) ?_ ?_ ?_;rotate_left;go_simp;with_reducible rfl;rotate_left;simp only [P_,A_,B_,C_,i64_w,i32_w];rfl
          refine tz_ 11 68 15 4095 HT_ HW_ rfl rfl (by kernel_rfl) hHeld ?_ (fun _ _ _ h => h) (by rfl) (fun w' ⟨s0, s1, s2, s3, s4, s5, s6, s7, s8⟩ => ?_) ?_ ?_ ?_;rotate_left;go_simp;with_reducible rfl;rotate_left;simp only [P_,A_,B_,C_,i64_w,i32_w];rfl
          refine pz_ 12 69 15 8191 HT_ rfl rfl (by kernel_rfl) ?_ (fun _ _ _ h => h) (by rfl) (fun w' => ?_) ?_ ?_ ?_;rotate_left;go_simp;with_reducible rfl;rotate_left;simp only [P_,A_,B_,C_,i64_w,i32_w];rfl
          refine pz_ 13 70 15 16383 HT_ rfl rfl (by kernel_rfl) ?_ (fun _ _ _ h => h) (by rfl) (fun w' => ?_) ?_ ?_ ?_;rotate_left;go_simp;with_reducible rfl;rotate_left;simp only [P_,A_,B_,C_,i64_w,i32_w];rfl
          refine pz_ 14 10 15 32767 HT_ rfl rfl (by kernel_rfl) ?_ (fun _ _ _ h => h) (by rfl) (fun w' => ?_) ?_ ?_ ?_;rotate_left;go_simp;with_reducible rfl;rotate_left;simp only [P_,A_,B_,C_,i64_w,i32_w];rfl
          refine done_ (done_of HT_.out (by kernel_rfl)) ?_
          go_upto_region 13 with (fail)
          go_cut [148] (fun v148 wc => ∃ (kq : Nat) (x148_18 : Bool), v148 = .bool x148_18 ∧ Aside0 (wireloomlaw08_LexerCovers.j2 kq t254 (t255 ++ a1) x9_2 (wrap64 (((rd_T39 t256 x9_2).f2) + (((rd_T39 t256 x9_2).f1).size : Int))) x148_18 t256 t259 t260 = some true) ∧ Aside0 (kq ≤ k2) ∧ Aside0 (Kd.R k39 39 wc w.heap.size (fun _ => True) (.slice (some ad262) t256.length co15) t256) ∧ Aside0 (wc.heap[gb261]? = some (.cells #[(.slice (some ad262) t256.length co15), .int .i64 t259, .int .i64 t260] 29 (0, 0))) ∧ Aside0 (Below w.heap.size w wc))
          case first =>
           have H := HC19.out
           clear HC19
           by_cases c22 : ((rd_T39 t256 x9_2).f2) < x8_2
           ·rw [if_pos c22] at H
            have c22b0 : decide (((rd_T39 t256 x9_2).f2) < x8_2) = true := decide_eq_true c22
            clear c22
            (first | rw [c22b0] | (simp only [i64_w, i32_w]; rw [c22b0]) | skip)
            exact absurd H (wireloomlaw08_LexerCovers.dead_j2_true _ _ _ _ _ _ _ _)
           ·rw [if_neg c22] at H
            have c22b0 : decide (((rd_T39 t256 x9_2).f2) < x8_2) = false := decide_eq_false c22
            clear c22
            (first | rw [c22b0] | (simp only [i64_w, i32_w]; rw [c22b0]) | skip)
            by_cases c23 : (wrap64 (((rd_T39 t256 x9_2).f2) + (((rd_T39 t256 x9_2).f1).size : Int))) > ((t255 ++ a1).size : Int)
            ·rw [if_pos c23] at H
             have c23b0 : decide (((t255 ++ a1).size : Int) < (wrap64 (((rd_T39 t256 x9_2).f2) + (((rd_T39 t256 x9_2).f1).size : Int)))) = true := decide_eq_true c23
             have c23b0s := c23b0
             (try simp only [ByteArray.size_append, Int.natCast_add] at c23b0s)
             (try have c23b0t := eq_true (of_decide_eq_true c23b0s))
             clear c23
             exact absurd H (wireloomlaw08_LexerCovers.dead_j2_true _ _ _ _ _ _ _ _)
            ·rw [if_neg c23] at H
             have c23b0 : decide (((t255 ++ a1).size : Int) < (wrap64 (((rd_T39 t256 x9_2).f2) + (((rd_T39 t256 x9_2).f1).size : Int)))) = false := decide_eq_false c23
             have c23b0s := c23b0
             (try simp only [ByteArray.size_append, Int.natCast_add] at c23b0s)
             (try have c23b0t := eq_true (of_decide_eq_true c23b0s))
             clear c23
             by_cases c24 : 0 ≤ ((rd_T39 t256 x9_2).f2)
             ·rw [if_pos c24] at H
              have c24b0 := eq_true c24
              have c24b1 : decide (0 ≤ ((rd_T39 t256 x9_2).f2)) = true := decide_eq_true c24
              clear c24
              by_cases c25 : ((rd_T39 t256 x9_2).f2) ≤ (wrap64 (((rd_T39 t256 x9_2).f2) + (((rd_T39 t256 x9_2).f1).size : Int)))
              ·rw [if_pos c25] at H
               have c25b0 := eq_true c25
               have c25b1 : decide (((rd_T39 t256 x9_2).f2) ≤ (wrap64 (((rd_T39 t256 x9_2).f2) + (((rd_T39 t256 x9_2).f1).size : Int)))) = true := decide_eq_true c25
               by_cases c26 : (wrap64 (((rd_T39 t256 x9_2).f2) + (((rd_T39 t256 x9_2).f1).size : Int))) ≤ ((t255 ++ a1).size : Int)
               ·rw [if_pos c26] at H
                have c26b0 := eq_true c26
                have c26b1 : decide ((wrap64 (((rd_T39 t256 x9_2).f2) + (((rd_T39 t256 x9_2).f1).size : Int))) ≤ ((t255 ++ a1).size : Int)) = true := decide_eq_true c26
                have c26b1s := c26b1
                (try simp only [ByteArray.size_append, Int.natCast_add] at c26b1s)
                (try have c26b1t := eq_true (of_decide_eq_true c26b1s))
                by_cases c27 : ((t255 ++ a1).extract (((rd_T39 t256 x9_2).f2) : Int).toNat ((wrap64 (((rd_T39 t256 x9_2).f2) + (((rd_T39 t256 x9_2).f1).size : Int))) : Int).toNat).toList = ((rd_T39 t256 x9_2).f1).toList
                ·rw [if_pos c27] at H
                 have c27b0 : (((t255 ++ a1).extract (((rd_T39 t256 x9_2).f2) : Int).toNat ((wrap64 (((rd_T39 t256 x9_2).f2) + (((rd_T39 t256 x9_2).f1).size : Int))) : Int).toNat).toList == ((rd_T39 t256 x9_2).f1).toList) = true := beq_iff_eq.mpr c27
                 have c27b0s := c27b0
                 (try simp only [ByteArray.size_append, Int.natCast_add] at c27b0s)
                 (try have c27b0t := eq_true (of_decide_eq_true c27b0s))
                 have c27b1 : (((t255 ++ a1).extract (((rd_T39 t256 x9_2).f2) : Int).toNat ((wrap64 (((rd_T39 t256 x9_2).f2) + (((rd_T39 t256 x9_2).f1).size : Int))) : Int).toNat).toList != ((rd_T39 t256 x9_2).f1).toList) = false := bne_eq_false_iff_eq.mpr c27
                 have c27b1s := c27b1
                 (try simp only [ByteArray.size_append, Int.natCast_add] at c27b1s)
                 (try have c27b1t := eq_true (of_decide_eq_true c27b1s))
                 clear c27
                 by_cases c28 : 0 ≤ x8_2
                 ·rw [if_pos c28] at H
                  have c28b0 := eq_true c28
                  have c28b1 : decide (0 ≤ x8_2) = true := decide_eq_true c28
                  clear c28
                  by_cases c29 : x8_2 ≤ ((rd_T39 t256 x9_2).f2)
                  ·rw [if_pos c29] at H
                   have c29b0 := eq_true c29
                   have c29b1 : decide (x8_2 ≤ ((rd_T39 t256 x9_2).f2)) = true := decide_eq_true c29
                   clear c29
                   by_cases c30 : ((rd_T39 t256 x9_2).f2) ≤ ((t255 ++ a1).size : Int)
                   ·rw [if_pos c30] at H
                    have c30b0 := eq_true c30
                    have c30b1 : decide (((rd_T39 t256 x9_2).f2) ≤ ((t255 ++ a1).size : Int)) = true := decide_eq_true c30
                    have c30b1s := c30b1
                    (try simp only [ByteArray.size_append, Int.natCast_add] at c30b1s)
                    (try have c30b1t := eq_true (of_decide_eq_true c30b1s))
                    replace H := Option.bind_eq_some_iff.mp H
                    obtain ⟨t268, A310, H⟩ := H
                    replace H : (if t268 = true then (if ((((rd_T39 t256 x9_2).f0) == 4) != (x9_2 == (wrap64 ((t256.length : Int) - 1)))) = true then (wireloomlaw08_LexerCovers.j2 k2 t254 (t255 ++ a1) x9_2 (wrap64 (((rd_T39 t256 x9_2).f2) + (((rd_T39 t256 x9_2).f1).size : Int))) true t256 t259 t260) else (wireloomlaw08_LexerCovers.j2 k2 t254 (t255 ++ a1) x9_2 (wrap64 (((rd_T39 t256 x9_2).f2) + (((rd_T39 t256 x9_2).f1).size : Int))) (((wrap64 (((rd_T39 t256 x9_2).f2) + (((rd_T39 t256 x9_2).f1).size : Int))) == ((rd_T39 t256 x9_2).f2)) != (x9_2 == (wrap64 ((t256.length : Int) - 1)))) t256 t259 t260)) else (wireloomlaw08_LexerCovers.j2 k2 t254 (t255 ++ a1) x9_2 (wrap64 (((rd_T39 t256 x9_2).f2) + (((rd_T39 t256 x9_2).f1).size : Int))) true t256 t259 t260)) = some true := H
                    have A31 := Aside0.mk A310
                    clear A310
                    by_cases c32 : t268 = true
                    ·subst c32
                     have H1 : (if ((((rd_T39 t256 x9_2).f0) == 4) != (x9_2 == (wrap64 ((t256.length : Int) - 1)))) = true then (wireloomlaw08_LexerCovers.j2 k2 t254 (t255 ++ a1) x9_2 (wrap64 (((rd_T39 t256 x9_2).f2) + (((rd_T39 t256 x9_2).f1).size : Int))) true t256 t259 t260) else (wireloomlaw08_LexerCovers.j2 k2 t254 (t255 ++ a1) x9_2 (wrap64 (((rd_T39 t256 x9_2).f2) + (((rd_T39 t256 x9_2).f1).size : Int))) (((wrap64 (((rd_T39 t256 x9_2).f2) + (((rd_T39 t256 x9_2).f1).size : Int))) == ((rd_T39 t256 x9_2).f2)) != (x9_2 == (wrap64 ((t256.length : Int) - 1)))) t256 t259 t260)) = some true := by rw [if_pos rfl] at H; exact H
                     clear H
                     have H := H1
                     clear H1
                     by_cases c33 : ((((rd_T39 t256 x9_2).f0) == 4) != (x9_2 == (wrap64 ((t256.length : Int) - 1)))) = true
                     ·rw [if_pos c33] at H
                      have c33b0 : ((((rd_T39 t256 x9_2).f0) == 4) != (x9_2 == (wrap64 ((t256.length : Int) - 1)))) = true := c33
                      (try (have c33b1 : decide ((((rd_T39 t256 x9_2).f0) == 4) = (x9_2 == (wrap64 ((t256.length : Int) - 1)))) = false := by simpa using c33))
                      (try (have c33b2 : ((((rd_T39 t256 x9_2).f0) == 4) == (x9_2 == (wrap64 ((t256.length : Int) - 1)))) = false := by simpa using c33))
                      (try (have c33b3 : ¬ ((((rd_T39 t256 x9_2).f0) == 4) = (x9_2 == (wrap64 ((t256.length : Int) - 1)))) := by simpa using c33))
                      clear c33
                      exact absurd H (wireloomlaw08_LexerCovers.dead_j2_true _ _ _ _ _ _ _ _)
                     ·rw [if_neg c33] at H
                      have c33b0 : ((((rd_T39 t256 x9_2).f0) == 4) != (x9_2 == (wrap64 ((t256.length : Int) - 1)))) = false := by simpa using c33
                      (try (have c33b1 : decide ((((rd_T39 t256 x9_2).f0) == 4) = (x9_2 == (wrap64 ((t256.length : Int) - 1)))) = true := by simpa using c33))
                      (try (have c33b2 : ((((rd_T39 t256 x9_2).f0) == 4) == (x9_2 == (wrap64 ((t256.length : Int) - 1)))) = true := by simpa using c33))
                      clear c33
                      have H' := Aside0.mk H
                      clear H
                      try go_wp2
                      have n0_ := Aside0.mk (Kd.R_drew HO_262000.out)
                      have n1_ := Aside0.mk (blk_drew BK261.out)
                      have n2_ := Aside0.mk (below_drew1 HB.out)
                      clear HO_262000
                      clear BK261
                      clear HB
                      have HO_262000 := n0_
                      have BK261 := n1_
                      have HB := n2_
                      clear n0_ n1_ n2_
                      have p264 : 0 ≤ (x9_2 : Int) := of_decide_eq_true (by first | (with_reducible assumption) | assumption)
                      have q264 : x9_2 < (t256.length : Int) := of_decide_eq_true (by first | (with_reducible assumption) | assumption)
                      obtain ⟨ad264, e264, hx264_0, hx264_1, hx264_2⟩ := at_T39 (Kd.R_reads' HO_262000.out).2.2 x9_2 p264 q264
                      obtain rfl : ad262 = ad264 := (by injection e264)
                      replace p264 := eq_true p264
                      replace q264 := eq_true q264
                      have p265 : 0 ≤ (x9_2 : Int) := of_decide_eq_true (by first | (with_reducible assumption) | assumption)
                      have q265 : x9_2 < (t256.length : Int) := of_decide_eq_true (by first | (with_reducible assumption) | assumption)
                      obtain ⟨ad265, e265, hx265_0, hx265_1, hx265_2⟩ := at_T39 (Kd.R_reads' HO_262000.out).2.2 x9_2 p265 q265
                      obtain rfl : ad262 = ad265 := (by injection e265)
                      replace p265 := eq_true p265
                      replace q265 := eq_true q265
                      have p266 : 0 ≤ (x9_2 : Int) := of_decide_eq_true (by first | (with_reducible assumption) | assumption)
                      have q266 : x9_2 < (t256.length : Int) := of_decide_eq_true (by first | (with_reducible assumption) | assumption)
                      obtain ⟨ad266, e266, hx266_0, hx266_1, hx266_2⟩ := at_T39 (Kd.R_reads' HO_262000.out).2.2 x9_2 p266 q266
                      obtain rfl : ad262 = ad266 := (by injection e266)
                      replace p266 := eq_true p266
                      replace q266 := eq_true q266
                      have p267 : 0 ≤ (x9_2 : Int) := of_decide_eq_true (by first | (with_reducible assumption) | assumption)
                      have q267 : x9_2 < (t256.length : Int) := of_decide_eq_true (by first | (with_reducible assumption) | assumption)
                      obtain ⟨ad267, e267, hx267_0, hx267_1, hx267_2⟩ := at_T39 (Kd.R_reads' HO_262000.out).2.2 x9_2 p267 q267
                      obtain rfl : ad262 = ad267 := (by injection e267)
                      replace p267 := eq_true p267
                      replace q267 := eq_true q267
                      have p269 : 0 ≤ (x9_2 : Int) := of_decide_eq_true (by first | (with_reducible assumption) | assumption)
                      have q269 : x9_2 < (t256.length : Int) := of_decide_eq_true (by first | (with_reducible assumption) | assumption)
                      obtain ⟨ad269, e269, hx269_0, hx269_1, hx269_2⟩ := at_T39 (Kd.R_reads' HO_262000.out).2.2 x9_2 p269 q269
                      obtain rfl : ad262 = ad269 := (by injection e269)
                      replace p269 := eq_true p269
                      replace q269 := eq_true q269
                      have p270 : 0 ≤ (x9_2 : Int) := of_decide_eq_true (by first | (with_reducible assumption) | assumption)
                      have q270 : x9_2 < (t256.length : Int) := of_decide_eq_true (by first | (with_reducible assumption) | assumption)
                      obtain ⟨ad270, e270, hx270_0, hx270_1, hx270_2⟩ := at_T39 (Kd.R_reads' HO_262000.out).2.2 x9_2 p270 q270
                      obtain rfl : ad262 = ad270 := (by injection e270)
                      replace p270 := eq_true p270
                      replace q270 := eq_true q270
                      refine start_ (n := 78) (S := fun w' => w'.cell? ⟨gb261, 0, none⟩ = some (.slice (some ad262) t256.length co15) ∧ w'.cell? ⟨gb261, 1, none⟩ = some (.int .i64 t259) ∧ w'.cell? ⟨gb261, 2, none⟩ = some (.int .i64 t260) ∧ w'.cell? (ad262.add ((x9_2).toNat * 3)) = some (.int .i64 ((rd_T39 t256 x9_2).f0)) ∧ w'.cell? ⟨(ad262.add ((x9_2).toNat * 3)).block, (ad262.add ((x9_2).toNat * 3)).off + 1, none⟩ = some (.string ((rd_T39 t256 x9_2).f1)) ∧ w'.cell? ⟨(ad262.add ((x9_2).toNat * 3)).block, (ad262.add ((x9_2).toNat * 3)).off + 2, none⟩ = some (.int .i64 ((rd_T39 t256 x9_2).f2)) ∧ w'.cell? (ad262.add ((x9_2).toNat * 3)) = some (.int .i64 ((rd_T39 t256 x9_2).f0)) ∧ w'.cell? ⟨(ad262.add ((x9_2).toNat * 3)).block, (ad262.add ((x9_2).toNat * 3)).off + 1, none⟩ = some (.string ((rd_T39 t256 x9_2).f1)) ∧ w'.cell? ⟨(ad262.add ((x9_2).toNat * 3)).block, (ad262.add ((x9_2).toNat * 3)).off + 2, none⟩ = some (.int .i64 ((rd_T39 t256 x9_2).f2)) ∧ w'.cell? (ad262.add ((x9_2).toNat * 3)) = some (.int .i64 ((rd_T39 t256 x9_2).f0)) ∧ w'.cell? ⟨(ad262.add ((x9_2).toNat * 3)).block, (ad262.add ((x9_2).toNat * 3)).off + 1, none⟩ = some (.string ((rd_T39 t256 x9_2).f1)) ∧ w'.cell? ⟨(ad262.add ((x9_2).toNat * 3)).block, (ad262.add ((x9_2).toNat * 3)).off + 2, none⟩ = some (.int .i64 ((rd_T39 t256 x9_2).f2)) ∧ w'.cell? (ad262.add ((x9_2).toNat * 3)) = some (.int .i64 ((rd_T39 t256 x9_2).f0)) ∧ w'.cell? ⟨(ad262.add ((x9_2).toNat * 3)).block, (ad262.add ((x9_2).toNat * 3)).off + 1, none⟩ = some (.string ((rd_T39 t256 x9_2).f1)) ∧ w'.cell? ⟨(ad262.add ((x9_2).toNat * 3)).block, (ad262.add ((x9_2).toNat * 3)).off + 2, none⟩ = some (.int .i64 ((rd_T39 t256 x9_2).f2)) ∧ w'.cell? (ad262.add ((x9_2).toNat * 3)) = some (.int .i64 ((rd_T39 t256 x9_2).f0)) ∧ w'.cell? ⟨(ad262.add ((x9_2).toNat * 3)).block, (ad262.add ((x9_2).toNat * 3)).off + 1, none⟩ = some (.string ((rd_T39 t256 x9_2).f1)) ∧ w'.cell? ⟨(ad262.add ((x9_2).toNat * 3)).block, (ad262.add ((x9_2).toNat * 3)).off + 2, none⟩ = some (.int .i64 ((rd_T39 t256 x9_2).f2)) ∧ w'.cell? (ad262.add ((x9_2).toNat * 3)) = some (.int .i64 ((rd_T39 t256 x9_2).f0)) ∧ w'.cell? ⟨(ad262.add ((x9_2).toNat * 3)).block, (ad262.add ((x9_2).toNat * 3)).off + 1, none⟩ = some (.string ((rd_T39 t256 x9_2).f1)) ∧ w'.cell? ⟨(ad262.add ((x9_2).toNat * 3)).block, (ad262.add ((x9_2).toNat * 3)).off + 2, none⟩ = some (.int .i64 ((rd_T39 t256 x9_2).f2))) (ds := []) #[F_,F_,F_,F_,F_,F_,F_,F_,F_,F_,F_,F_,F_,F_,F_,F_,F_,F_,F_,F_,F_,F_,F_,F_,F_,F_,F_,F_,F_,F_,F_,F_,F_,F_,F_,F_,F_,F_,F_,F_,F_,F_,F_,F_,F_,F_,F_,F_,F_,F_,F_,F_,F_,F_,F_,F_,F_,F_,F_,F_,F_,F_,F_,F_,F_,F_,F_,F_,F_,F_,F_,F_,F_,F_,F_,F_,F_,F_] (by kernel_rfl) rfl rfl ⟨(blk_cell BK261.out 0).trans rfl, (blk_cell BK261.out 1).trans rfl, (blk_cell BK261.out 2).trans rfl, hx264_0, hx264_1, hx264_2, hx265_0, hx265_1, hx265_2, hx266_0, hx266_1, hx266_2, hx267_0, hx267_1, hx267_2, hx269_0, hx269_1, hx269_2, hx270_0, hx270_1, hx270_2⟩ (fun hHeld => ?_); refine with_tabW wireloomlaw08_LexerCovers.tab13 wireloomlaw08_LexerCovers.bits13 (fun HT_ HW_ => ?_)
                      generalize w21.drew = w34 at HO_262000 BK261 HB hx264_0 hx264_1 hx264_2 hx265_0 hx265_1 hx265_2 hx266_0 hx266_1 hx266_2 hx267_0 hx267_1 hx267_2 hx269_0 hx269_1 hx269_2 hx270_0 hx270_1 hx270_2 hHeld ⊢
                      refine pz_ 0 71 78 1 HT_ rfl rfl (by kernel_rfl) ?_ (fun _ _ _ h => h) (by rfl) (fun w' => ?_) ?_ ?_ ?_;rotate_left;go_simp;with_reducible rfl;rotate_left;simp only [P_,A_,B_,C_,i64_w,i32_w];rfl
                      refine pz_ 2 73 78 5 HT_ rfl rfl (by kernel_rfl) ?_ (fun _ _ _ h => h) (by rfl) (fun w' => ?_) ?_ ?_ ?_;rotate_left;go_simp;with_reducible rfl;rotate_left;simp only [P_,A_,B_,C_,i64_w,i32_w];rfl
                      refine pz_ 6 77 78 69 HT_ rfl rfl (by kernel_rfl) ?_ (fun _ _ _ h => h) (by rfl) (fun w' => ?_) ?_ ?_ ?_;rotate_left;go_simp;with_reducible rfl;rotate_left;simp only [P_,A_,B_,C_,i64_w,i32_w];rfl
                      refine tz_ 1 72 78 71 HT_ HW_ rfl rfl (by kernel_rfl) hHeld ?_ (fun _ _ _ h => h) (by rfl) (fun w' ⟨s0, s1, s2, s3, s4, s5, s6, s7, s8, s9, s10, s11, s12, s13, s14, s15, s16, s17, s18, s19, s20⟩ => ?_) ?_ ?_ ?_;rotate_left;go_simp;with_reducible rfl;rotate_left;simp only [P_,A_,B_,C_,i64_w,i32_w];rfl
                      refine pz_ 3 74 78 79 HT_ rfl rfl (by kernel_rfl) ?_ (fun _ _ _ h => h) (by rfl) (fun w' => ?_) ?_ ?_ ?_;rotate_left;go_simp;with_reducible rfl;rotate_left;simp only [P_,A_,B_,C_,i64_w,i32_w];rfl
                      refine pz_ 4 75 78 95 HT_ rfl rfl (by kernel_rfl) ?_ (fun _ _ _ h => h) (by rfl) (fun w' => ?_) ?_ ?_ ?_;rotate_left;go_simp;with_reducible rfl;rotate_left;simp only [P_,A_,B_,C_,i64_w,i32_w];rfl
                      refine tz_ 5 76 78 127 HT_ HW_ rfl rfl (by kernel_rfl) hHeld ?_ (fun _ _ _ h => h) (by rfl) (fun w' ⟨s0, s1, s2, s3, s4, s5, s6, s7, s8, s9, s10, s11, s12, s13, s14, s15, s16, s17, s18, s19, s20⟩ => ?_) ?_ ?_ ?_;rotate_left;go_simp;with_reducible rfl;rotate_left;simp only [P_,A_,B_,C_,i64_w,i32_w];rfl
                      refine pz_ 7 78 78 255 HT_ rfl rfl (by kernel_rfl) ?_ (fun _ _ _ h => h) (by rfl) (fun w' => ?_) ?_ ?_ ?_;rotate_left;go_simp;with_reducible rfl;rotate_left;simp only [P_,A_,B_,C_,i64_w,i32_w];rfl
                      refine pz_ 8 79 78 511 HT_ rfl rfl (by kernel_rfl) ?_ (fun _ _ _ h => h) (by rfl) (fun w' => ?_) ?_ ?_ ?_;rotate_left;go_simp;with_reducible rfl;rotate_left;simp only [P_,A_,B_,C_,i64_w,i32_w];rfl
                      refine pz_ 9 80 78 1023 HT_ rfl rfl (by kernel_rfl) ?_ (fun _ _ _ h => h) (by rfl) (fun w' => ?_) ?_ ?_ ?_;rotate_left;go_simp;with_reducible rfl;rotate_left;simp only [P_,A_,B_,C_,i64_w,i32_w];rfl
                      refine pz_ 10 81 78 2047 HT_ rfl rfl (by kernel_rfl) ?_ (fun _ _ _ h => h) (by rfl) (fun w' => ?_) ?_ ?_ ?_;rotate_left;go_simp;with_reducible rfl;rotate_left;simp only [P_,A_,B_,C_,i64_w,i32_w];rfl
                      refine pz_ 11 82 78 4095 HT_ rfl rfl (by kernel_rfl) ?_ (fun _ _ _ h => h) (by rfl) (fun w' => ?_) ?_ ?_ ?_;rotate_left;go_simp;with_reducible rfl;rotate_left;simp only [P_,A_,B_,C_,i64_w,i32_w];rfl
                      refine pz_ 12 83 78 8191 HT_ rfl rfl (by kernel_rfl) ?_ (fun _ _ _ h => h) (by rfl) (fun w' => ?_) ?_ ?_ ?_;rotate_left;go_simp;with_reducible rfl;rotate_left;simp only [P_,A_,B_,C_,i64_w,i32_w];rfl
                      refine pz_ 13 84 78 16383 HT_ rfl rfl (by kernel_rfl) ?_ (fun _ _ _ h => h) (by rfl) (fun w' => ?_) ?_ ?_ ?_;rotate_left;go_simp;with_reducible rfl;rotate_left;simp only [P_,A_,B_,C_,i64_w,i32_w];rfl
                      refine pz_ 14 85 78 32767 HT_ rfl rfl (by kernel_rfl) ?_ (fun _ _ _ h => h) (by rfl) (fun w' => ?_) ?_ ?_ ?_;rotate_left;go_simp;with_reducible rfl;rotate_left;simp only [P_,A_,B_,C_,i64_w,i32_w];rfl
                      refine pz_ 15 86 78 65535 HT_ rfl rfl (by kernel_rfl) ?_ (fun _ _ _ h => h) (by rfl) (fun w' => ?_) ?_ ?_ ?_;rotate_left;go_simp;with_reducible rfl;rotate_left;simp only [P_,A_,B_,C_,i64_w,i32_w];rfl
                      refine pz_ 16 87 78 131071 HT_ rfl rfl (by kernel_rfl) ?_ (fun _ _ _ h => h) (by rfl) (fun w' => ?_) ?_ ?_ ?_;rotate_left;go_simp;with_reducible rfl;rotate_left;simp only [P_,A_,B_,C_,i64_w,i32_w];rfl
                      refine pz_ 18 89 78 393215 HT_ rfl rfl (by kernel_rfl) ?_ (fun _ _ _ h => h) (by rfl) (fun w' => ?_) ?_ ?_ ?_;rotate_left;go_simp;with_reducible rfl;rotate_left;simp only [P_,A_,B_,C_,i64_w,i32_w];rfl
                      refine pz_ 22 93 78 4587519 HT_ rfl rfl (by kernel_rfl) ?_ (fun _ _ _ h => h) (by rfl) (fun w' => ?_) ?_ ?_ ?_;rotate_left;go_simp;with_reducible rfl;rotate_left;simp only [P_,A_,B_,C_,i64_w,i32_w];rfl
                      refine pz_ 24 95 78 21364735 HT_ rfl rfl (by kernel_rfl) ?_ (fun _ _ _ h => h) (by rfl) (fun w' => ?_) ?_ ?_ ?_;rotate_left;go_simp;with_reducible rfl;rotate_left;simp only [P_,A_,B_,C_,i64_w,i32_w];rfl
                      refine pz_ 26 97 78 88473599 HT_ rfl rfl (by kernel_rfl) ?_ (fun _ _ _ h => h) (by rfl) (fun w' => ?_) ?_ ?_ ?_;rotate_left;go_simp;with_reducible rfl;rotate_left;simp only [P_,A_,B_,C_,i64_w,i32_w];rfl
                      refine tz_ 17 88 78 88604671 HT_ HW_ rfl rfl (by kernel_rfl) hHeld ?_ (fun _ _ _ h => h) (by rfl) (fun w' ⟨s0, s1, s2, s3, s4, s5, s6, s7, s8, s9, s10, s11, s12, s13, s14, s15, s16, s17, s18, s19, s20⟩ => ?_) ?_ ?_ ?_;rotate_left;go_simp;with_reducible rfl;rotate_left;simp only [P_,A_,B_,C_,i64_w,i32_w];rfl
                      refine pz_ 19 90 78 89128959 HT_ rfl rfl (by kernel_rfl) ?_ (fun _ _ _ h => h) (by rfl) (fun w' => ?_) ?_ ?_ ?_;rotate_left;go_simp;with_reducible rfl;rotate_left;simp only [P_,A_,B_,C_,i64_w,i32_w];rfl
                      have hs0_ : (0 ≤ wrap64 (((rd_T39 t256 x9_2).f2) + (((rd_T39 t256 x9_2).f1).size : Int))) = True := eq_true (Int.le_trans (of_eq_true c24b0) (of_eq_true c25b0))
                      refine pz_ 20 91 78 90177535 HT_ rfl rfl (by kernel_rfl) ?_ (fun _ _ _ h => h) (by rfl) (fun w' => ?_) ?_ ?_ ?_;rotate_left;go_simp;with_reducible rfl;rotate_left;simp only [P_,A_,B_,C_,i64_w,i32_w];rfl
                      refine tz_ 21 92 78 92274687 HT_ HW_ rfl rfl (by kernel_rfl) hHeld ?_ (fun _ _ _ h => h) (by rfl) (fun w' ⟨s0, s1, s2, s3, s4, s5, s6, s7, s8, s9, s10, s11, s12, s13, s14, s15, s16, s17, s18, s19, s20⟩ => ?_) ?_ ?_ ?_;rotate_left;go_simp;with_reducible rfl;rotate_left;simp only [P_,A_,B_,C_,i64_w,i32_w];rfl
                      refine pz_ 23 94 78 100663295 HT_ rfl rfl (by kernel_rfl) ?_ (fun _ _ _ h => h) (by rfl) (fun w' => ?_) ?_ ?_ ?_;rotate_left;go_simp;with_reducible rfl;rotate_left;simp only [P_,A_,B_,C_,i64_w,i32_w];rfl
                      refine tz_ 25 96 78 134217727 HT_ HW_ rfl rfl (by kernel_rfl) hHeld ?_ (fun _ _ _ h => h) (by rfl) (fun w' ⟨s0, s1, s2, s3, s4, s5, s6, s7, s8, s9, s10, s11, s12, s13, s14, s15, s16, s17, s18, s19, s20⟩ => ?_) ?_ ?_ ?_;rotate_left;go_simp;with_reducible rfl;rotate_left;simp only [P_,A_,B_,C_,i64_w,i32_w];rfl
                      refine pz_ 27 98 78 268435455 HT_ rfl rfl (by kernel_rfl) ?_ (fun _ _ _ h => h) (by rfl) (fun w' => ?_) ?_ ?_ ?_;rotate_left;go_simp;with_reducible rfl;rotate_left;simp only [P_,A_,B_,C_,i64_w,i32_w];rfl
                      refine pz_ 28 99 78 536870911 HT_ rfl rfl (by kernel_rfl) ?_ (fun _ _ _ h => h) (by rfl) (fun w' => ?_) ?_ ?_ ?_;rotate_left;go_simp;with_reducible rfl;rotate_left;simp only [P_,A_,B_,C_,i64_w,i32_w];rfl
                      refine tz_ 29 100 78 1073741823 HT_ HW_ rfl rfl (by kernel_rfl) hHeld ?_ (fun _ _ _ h => h) (by rfl) (fun w' ⟨s0, s1, s2, s3, s4, s5, s6, s7, s8, s9, s10, s11, s12, s13, s14, s15, s16, s17, s18, s19, s20⟩ => ?_) ?_ ?_ ?_;rotate_left;go_simp;with_reducible rfl;rotate_left;simp only [P_,A_,B_,C_,i64_w,i32_w];rfl
                      refine pz_ 30 101 78 2147483647 HT_ rfl rfl (by kernel_rfl) ?_ (fun _ _ _ h => h) (by rfl) (fun w' => ?_) ?_ ?_ ?_;rotate_left;go_simp;with_reducible rfl;rotate_left;simp only [P_,A_,B_,C_,i64_w,i32_w];rfl
                      refine pz_ 31 102 78 4294967295 HT_ rfl rfl (by kernel_rfl) ?_ (fun _ _ _ h => h) (by rfl) (fun w' => ?_) ?_ ?_ ?_;rotate_left;go_simp;with_reducible rfl;rotate_left;simp only [P_,A_,B_,C_,i64_w,i32_w];rfl
                      refine pz_ 32 103 78 8589934591 HT_ rfl rfl (by kernel_rfl) ?_ (fun _ _ _ h => h) (by rfl) (fun w' => ?_) ?_ ?_ ?_;rotate_left;go_simp;with_reducible rfl;rotate_left;simp only [P_,A_,B_,C_,i64_w,i32_w];rfl
                      refine pz_ 33 104 78 17179869183 HT_ rfl rfl (by kernel_rfl) ?_ (fun _ _ _ h => h) (by rfl) (fun w' => ?_) ?_ ?_ ?_;rotate_left;go_simp;with_reducible rfl;rotate_left;simp only [P_,A_,B_,C_,i64_w,i32_w];rfl
                      refine pz_ 34 105 78 34359738367 HT_ rfl rfl (by kernel_rfl) ?_ (fun _ _ _ h => h) (by rfl) (fun w' => ?_) ?_ ?_ ?_;rotate_left;go_simp;with_reducible rfl;rotate_left;simp only [P_,A_,B_,C_,i64_w,i32_w];rfl
                      refine pz_ 35 106 78 68719476735 HT_ rfl rfl (by kernel_rfl) ?_ (fun _ _ _ h => h) (by rfl) (fun w' => ?_) ?_ ?_ ?_;rotate_left;go_simp;with_reducible rfl;rotate_left;simp only [P_,A_,B_,C_,i64_w,i32_w];rfl
                      refine pz_ 37 108 78 206158430207 HT_ rfl rfl (by kernel_rfl) ?_ (fun _ _ _ h => h) (by rfl) (fun w' => ?_) ?_ ?_ ?_;rotate_left;go_simp;with_reducible rfl;rotate_left;simp only [P_,A_,B_,C_,i64_w,i32_w];rfl
                      refine tz_ 36 107 78 274877906943 HT_ HW_ rfl rfl (by kernel_rfl) hHeld ?_ (fun _ _ _ h => h) (by rfl) (fun w' ⟨s0, s1, s2, s3, s4, s5, s6, s7, s8, s9, s10, s11, s12, s13, s14, s15, s16, s17, s18, s19, s20⟩ => ?_) ?_ ?_ ?_;rotate_left;go_simp;with_reducible rfl;rotate_left;simp only [P_,A_,B_,C_,i64_w,i32_w];rfl
                      refine pz_ 38 109 78 549755813887 HT_ rfl rfl (by kernel_rfl) ?_ (fun _ _ _ h => h) (by rfl) (fun w' => ?_) ?_ ?_ ?_;rotate_left;go_simp;with_reducible rfl;rotate_left;simp only [P_,A_,B_,C_,i64_w,i32_w];rfl
                      refine pz_ 39 110 78 1099511627775 HT_ rfl rfl (by kernel_rfl) ?_ (fun _ _ _ h => h) (by rfl) (fun w' => ?_) ?_ ?_ ?_;rotate_left;go_simp;with_reducible rfl;rotate_left;simp only [P_,A_,B_,C_,i64_w,i32_w];rfl
                      refine tz_ 40 111 78 2199023255551 HT_ HW_ rfl rfl (by kernel_rfl) hHeld ?_ (fun _ _ _ h => h) (by rfl) (fun w' ⟨s0, s1, s2, s3, s4, s5, s6, s7, s8, s9, s10, s11, s12, s13, s14, s15, s16, s17, s18, s19, s20⟩ => ?_) ?_ ?_ ?_;rotate_left;go_simp;with_reducible rfl;rotate_left;simp only [P_,A_,B_,C_,i64_w,i32_w];rfl
                      refine pz_ 41 112 78 4398046511103 HT_ rfl rfl (by kernel_rfl) ?_ (fun _ _ _ h => h) (by rfl) (fun w' => ?_) ?_ ?_ ?_;rotate_left;go_simp;with_reducible rfl;rotate_left;simp only [P_,A_,B_,C_,i64_w,i32_w];rfl
                      refine one_ (i := 42) (N := some 113) #[T_,T_,T_,T_,T_,T_,T_,T_,T_,T_,T_,T_,T_,T_,T_,T_,T_,T_,T_,T_,T_,T_,T_,T_,T_,T_,T_,T_,T_,T_,T_,T_,T_,T_,T_,T_,T_,T_,T_,T_,T_,T_,T_,F_,F_,F_,F_,F_,F_,F_,F_,F_,F_,F_,F_,F_,F_,F_,F_,F_,F_,F_,F_,F_,F_,F_,F_,F_,F_,F_,F_,F_,F_,F_,F_,F_,F_,F_] rfl rfl (one_of HT_.out (by kernel_rfl)) (by decide) (fun K hK => ?_)
                      refine goes_ Tryd.func22 (by kernel_rfl) rfl #[.string ((t255 ++ a1).extract (x8_2 : Int).toNat (((rd_T39 t256 x9_2).f2) : Int).toNat)] (by rfl) rfl rfl (by (try simp only [List.map_toArray, List.map_cons, List.map_nil]); first | done | rfl | (simp only [List.length_drop, List.length_take]; rfl)) ?_
                      with_reducible refine (wireloomlaw08_white.calls k2 ((t255 ++ a1).extract (x8_2 : Int).toNat (((rd_T39 t256 x9_2).f2) : Int).toNat) true _ A31.out).mono ?_
                      rintro e w' ⟨rfl, ⟨nd, rfl⟩⟩
                      refine ⟨_, rfl, ?_⟩
                      refine hK.out _ _ ⟨(blk_cell BK261.out 0).trans rfl, (blk_cell BK261.out 1).trans rfl, (blk_cell BK261.out 2).trans rfl, hHeld.2.2.2.1, hHeld.2.2.2.2.1, hHeld.2.2.2.2.2.1, hHeld.2.2.2.2.2.2.1, hHeld.2.2.2.2.2.2.2.1, hHeld.2.2.2.2.2.2.2.2.1, hHeld.2.2.2.2.2.2.2.2.2.1, hHeld.2.2.2.2.2.2.2.2.2.2.1, hHeld.2.2.2.2.2.2.2.2.2.2.2.1, hHeld.2.2.2.2.2.2.2.2.2.2.2.2.1, hHeld.2.2.2.2.2.2.2.2.2.2.2.2.2.1, hHeld.2.2.2.2.2.2.2.2.2.2.2.2.2.2.1, hHeld.2.2.2.2.2.2.2.2.2.2.2.2.2.2.2.1, hHeld.2.2.2.2.2.2.2.2.2.2.2.2.2.2.2.2.1, hHeld.2.2.2.2.2.2.2.2.2.2.2.2.2.2.2.2.2.1, hHeld.2.2.2.2.2.2.2.2.2.2.2.2.2.2.2.2.2.2.1, hHeld.2.2.2.2.2.2.2.2.2.2.2.2.2.2.2.2.2.2.2.1, hHeld.2.2.2.2.2.2.2.2.2.2.2.2.2.2.2.2.2.2.2.2⟩ (fun hHeld => ?_)
                      clear hK K
                      refine norm_ (a' := ?_) ?_ ?_
                      rotate_left
                      ·show Act.put _ (some 113) _ = _
                       simp only [Act.put, List.setIfInBounds_toArray, List.set_cons_zero, List.set_cons_succ, i64_w, i32_w]
                       rfl
                      refine pz_ 43 114 78 17592186044415 HT_ rfl rfl (by kernel_rfl) ?_ (fun _ _ _ h => h) (by rfl) (fun w' => ?_) ?_ ?_ ?_;rotate_left;go_simp;with_reducible rfl;rotate_left;simp only [P_,A_,B_,C_,i64_w,i32_w];rfl
                      refine pz_ 44 115 78 35184372088831 HT_ rfl rfl (by kernel_rfl) ?_ (fun _ _ _ h => h) (by rfl) (fun w' => ?_) ?_ ?_ ?_;rotate_left;go_simp;with_reducible rfl;rotate_left;simp only [P_,A_,B_,C_,i64_w,i32_w];rfl
                      refine pz_ 45 116 78 70368744177663 HT_ rfl rfl (by kernel_rfl) ?_ (fun _ _ _ h => h) (by rfl) (fun w' => ?_) ?_ ?_ ?_;rotate_left;go_simp;with_reducible rfl;rotate_left;simp only [P_,A_,B_,C_,i64_w,i32_w];rfl
                      refine pz_ 46 117 78 140737488355327 HT_ rfl rfl (by kernel_rfl) ?_ (fun _ _ _ h => h) (by rfl) (fun w' => ?_) ?_ ?_ ?_;rotate_left;go_simp;with_reducible rfl;rotate_left;simp only [P_,A_,B_,C_,i64_w,i32_w];rfl
                      refine pz_ 48 119 78 422212465065983 HT_ rfl rfl (by kernel_rfl) ?_ (fun _ _ _ h => h) (by rfl) (fun w' => ?_) ?_ ?_ ?_;rotate_left;go_simp;with_reducible rfl;rotate_left;simp only [P_,A_,B_,C_,i64_w,i32_w];rfl
                      refine pz_ 53 124 78 9429411719806975 HT_ rfl rfl (by kernel_rfl) ?_ (fun _ _ _ h => h) (by rfl) (fun w' => ?_) ?_ ?_ ?_;rotate_left;go_simp;with_reducible rfl;rotate_left;simp only [P_,A_,B_,C_,i64_w,i32_w];rfl
                      refine pz_ 54 125 78 27443810229288959 HT_ rfl rfl (by kernel_rfl) ?_ (fun _ _ _ h => h) (by rfl) (fun w' => ?_) ?_ ?_ ?_;rotate_left;go_simp;with_reducible rfl;rotate_left;simp only [P_,A_,B_,C_,i64_w,i32_w];rfl
                      refine tz_ 47 118 78 27584547717644287 HT_ HW_ rfl rfl (by kernel_rfl) hHeld ?_ (fun _ _ _ h => h) (by rfl) (fun w' ⟨s0, s1, s2, s3, s4, s5, s6, s7, s8, s9, s10, s11, s12, s13, s14, s15, s16, s17, s18, s19, s20⟩ => ?_) ?_ ?_ ?_;rotate_left;go_simp;with_reducible rfl;rotate_left;simp only [P_,A_,B_,C_,i64_w,i32_w];rfl
                      refine pz_ 49 120 78 28147497671065599 HT_ rfl rfl (by kernel_rfl) ?_ (fun _ _ _ h => h) (by rfl) (fun w' => ?_) ?_ ?_ ?_;rotate_left;go_simp;with_reducible rfl;rotate_left;simp only [P_,A_,B_,C_,i64_w,i32_w];rfl
                      refine pz_ 50 121 78 29273397577908223 HT_ rfl rfl (by kernel_rfl) ?_ (fun _ _ _ h => h) (by rfl) (fun w' => ?_) ?_ ?_ ?_;rotate_left;go_simp;with_reducible rfl;rotate_left;simp only [P_,A_,B_,C_,i64_w,i32_w];rfl
                      refine tz_ 51 122 78 31525197391593471 HT_ HW_ rfl rfl (by kernel_rfl) hHeld ?_ (fun _ _ _ h => h) (by rfl) (fun w' ⟨s0, s1, s2, s3, s4, s5, s6, s7, s8, s9, s10, s11, s12, s13, s14, s15, s16, s17, s18, s19, s20⟩ => ?_) ?_ ?_ ?_;rotate_left;go_simp;with_reducible rfl;rotate_left;simp only [P_,A_,B_,C_,i64_w,i32_w];rfl
                      refine pz_ 52 123 78 36028797018963967 HT_ rfl rfl (by kernel_rfl) ?_ (fun _ _ _ h => h) (by rfl) (fun w' => ?_) ?_ ?_ ?_;rotate_left;go_simp;with_reducible rfl;rotate_left;simp only [P_,A_,B_,C_,i64_w,i32_w];rfl
                      refine tz_ 55 126 78 72057594037927935 HT_ HW_ rfl rfl (by kernel_rfl) hHeld ?_ (fun _ _ _ h => h) (by rfl) (fun w' ⟨s0, s1, s2, s3, s4, s5, s6, s7, s8, s9, s10, s11, s12, s13, s14, s15, s16, s17, s18, s19, s20⟩ => ?_) ?_ ?_ ?_;rotate_left;go_simp;with_reducible rfl;rotate_left;simp only [P_,A_,B_,C_,i64_w,i32_w];rfl
                      refine pz_ 56 127 78 144115188075855871 HT_ rfl rfl (by kernel_rfl) ?_ (fun _ _ _ h => h) (by rfl) (fun w' => ?_) ?_ ?_ ?_;rotate_left;go_simp;with_reducible rfl;rotate_left;simp only [P_,A_,B_,C_,i64_w,i32_w];rfl
                      refine pz_ 57 128 78 288230376151711743 HT_ rfl rfl (by kernel_rfl) ?_ (fun _ _ _ h => h) (by rfl) (fun w' => ?_) ?_ ?_ ?_;rotate_left;go_simp;with_reducible rfl;rotate_left;simp only [P_,A_,B_,C_,i64_w,i32_w];rfl
                      refine pz_ 58 129 78 576460752303423487 HT_ rfl rfl (by kernel_rfl) ?_ (fun _ _ _ h => h) (by rfl) (fun w' => ?_) ?_ ?_ ?_;rotate_left;go_simp;with_reducible rfl;rotate_left;simp only [P_,A_,B_,C_,i64_w,i32_w];rfl
                      refine pz_ 59 130 78 1152921504606846975 HT_ rfl rfl (by kernel_rfl) ?_ (fun _ _ _ h => h) (by rfl) (fun w' => ?_) ?_ ?_ ?_;rotate_left;go_simp;with_reducible rfl;rotate_left;simp only [P_,A_,B_,C_,i64_w,i32_w];rfl
                      refine pz_ 60 131 78 2305843009213693951 HT_ rfl rfl (by kernel_rfl) ?_ (fun _ _ _ h => h) (by rfl) (fun w' => ?_) ?_ ?_ ?_;rotate_left;go_simp;with_reducible rfl;rotate_left;simp only [P_,A_,B_,C_,i64_w,i32_w];rfl
                      refine pz_ 61 132 78 4611686018427387903 HT_ rfl rfl (by kernel_rfl) ?_ (fun _ _ _ h => h) (by rfl) (fun w' => ?_) ?_ ?_ ?_;rotate_left;go_simp;with_reducible rfl;rotate_left;simp only [P_,A_,B_,C_,i64_w,i32_w];rfl
                      refine pz_ 62 133 78 9223372036854775807 HT_ rfl rfl (by kernel_rfl) ?_ (fun _ _ _ h => h) (by rfl) (fun w' => ?_) ?_ ?_ ?_;rotate_left;go_simp;with_reducible rfl;rotate_left;simp only [P_,A_,B_,C_,i64_w,i32_w];rfl
                      refine pz_ 63 134 78 18446744073709551615 HT_ rfl rfl (by kernel_rfl) ?_ (fun _ _ _ h => h) (by rfl) (fun w' => ?_) ?_ ?_ ?_;rotate_left;go_simp;with_reducible rfl;rotate_left;simp only [P_,A_,B_,C_,i64_w,i32_w];rfl
                      refine pz_ 65 136 78 55340232221128654847 HT_ rfl rfl (by kernel_rfl) ?_ (fun _ _ _ h => h) (by rfl) (fun w' => ?_) ?_ ?_ ?_;rotate_left;go_simp;with_reducible rfl;rotate_left;simp only [P_,A_,B_,C_,i64_w,i32_w];rfl
                      refine pz_ 70 141 78 1235931852938539958271 HT_ rfl rfl (by kernel_rfl) ?_ (fun _ _ _ h => h) (by rfl) (fun w' => ?_) ?_ ?_ ?_;rotate_left;go_simp;with_reducible rfl;rotate_left;simp only [P_,A_,B_,C_,i64_w,i32_w];rfl
                      refine pz_ 71 142 78 3597115094373362565119 HT_ rfl rfl (by kernel_rfl) ?_ (fun _ _ _ h => h) (by rfl) (fun w' => ?_) ?_ ?_ ?_;rotate_left;go_simp;with_reducible rfl;rotate_left;simp only [P_,A_,B_,C_,i64_w,i32_w];rfl
                      refine tz_ 64 135 78 3615561838447072116735 HT_ HW_ rfl rfl (by kernel_rfl) hHeld ?_ (fun _ _ _ h => h) (by rfl) (fun w' ⟨s0, s1, s2, s3, s4, s5, s6, s7, s8, s9, s10, s11, s12, s13, s14, s15, s16, s17, s18, s19, s20⟩ => ?_) ?_ ?_ ?_;rotate_left;go_simp;with_reducible rfl;rotate_left;simp only [P_,A_,B_,C_,i64_w,i32_w];rfl
                      refine pz_ 66 137 78 3689348814741910323199 HT_ rfl rfl (by kernel_rfl) ?_ (fun _ _ _ h => h) (by rfl) (fun w' => ?_) ?_ ?_ ?_;rotate_left;go_simp;with_reducible rfl;rotate_left;simp only [P_,A_,B_,C_,i64_w,i32_w];rfl
                      refine pz_ 67 138 78 3836922767331586736127 HT_ rfl rfl (by kernel_rfl) ?_ (fun _ _ _ h => h) (by rfl) (fun w' => ?_) ?_ ?_ ?_;rotate_left;go_simp;with_reducible rfl;rotate_left;simp only [P_,A_,B_,C_,i64_w,i32_w];rfl
                      refine tz_ 68 139 78 4132070672510939561983 HT_ HW_ rfl rfl (by kernel_rfl) hHeld ?_ (fun _ _ _ h => h) (by rfl) (fun w' ⟨s0, s1, s2, s3, s4, s5, s6, s7, s8, s9, s10, s11, s12, s13, s14, s15, s16, s17, s18, s19, s20⟩ => ?_) ?_ ?_ ?_;rotate_left;go_simp;with_reducible rfl;rotate_left;simp only [P_,A_,B_,C_,i64_w,i32_w];rfl
                      refine pz_ 69 140 78 4722366482869645213695 HT_ rfl rfl (by kernel_rfl) ?_ (fun _ _ _ h => h) (by rfl) (fun w' => ?_) ?_ ?_ ?_;rotate_left;go_simp;with_reducible rfl;rotate_left;simp only [P_,A_,B_,C_,i64_w,i32_w];rfl
                      refine tz_ 72 143 78 9444732965739290427391 HT_ HW_ rfl rfl (by kernel_rfl) hHeld ?_ (fun _ _ _ h => h) (by rfl) (fun w' ⟨s0, s1, s2, s3, s4, s5, s6, s7, s8, s9, s10, s11, s12, s13, s14, s15, s16, s17, s18, s19, s20⟩ => ?_) ?_ ?_ ?_;rotate_left;go_simp;with_reducible rfl;rotate_left;simp only [P_,A_,B_,C_,i64_w,i32_w];rfl
                      refine pz_ 73 144 78 18889465931478580854783 HT_ rfl rfl (by kernel_rfl) ?_ (fun _ _ _ h => h) (by rfl) (fun w' => ?_) ?_ ?_ ?_;rotate_left;go_simp;with_reducible rfl;rotate_left;simp only [P_,A_,B_,C_,i64_w,i32_w];rfl
                      refine pz_ 74 145 78 37778931862957161709567 HT_ rfl rfl (by kernel_rfl) ?_ (fun _ _ _ h => h) (by rfl) (fun w' => ?_) ?_ ?_ ?_;rotate_left;go_simp;with_reducible rfl;rotate_left;simp only [P_,A_,B_,C_,i64_w,i32_w];rfl
                      refine pz_ 75 146 78 75557863725914323419135 HT_ rfl rfl (by kernel_rfl) ?_ (fun _ _ _ h => h) (by rfl) (fun w' => ?_) ?_ ?_ ?_;rotate_left;go_simp;with_reducible rfl;rotate_left;simp only [P_,A_,B_,C_,i64_w,i32_w];rfl
                      refine pz_ 76 147 78 151115727451828646838271 HT_ rfl rfl (by kernel_rfl) ?_ (fun _ _ _ h => h) (by rfl) (fun w' => ?_) ?_ ?_ ?_;rotate_left;go_simp;with_reducible rfl;rotate_left;simp only [P_,A_,B_,C_,i64_w,i32_w];rfl
                      refine pz_ 77 148 78 302231454903657293676543 HT_ rfl rfl (by kernel_rfl) ?_ (fun _ _ _ h => h) (by rfl) (fun w' => ?_) ?_ ?_ ?_;rotate_left;go_simp;with_reducible rfl;rotate_left;simp only [P_,A_,B_,C_,i64_w,i32_w];rfl
                      refine done_ (done_of HT_.out (by kernel_rfl)) ?_
                      try go_wp2
                      go_meet
                      case rel => exact ⟨_, ((((wrap64 (((rd_T39 t256 x9_2).f2) + (((rd_T39 t256 x9_2).f1).size : Int))) == ((rd_T39 t256 x9_2).f2)) != (x9_2 == (wrap64 ((t256.length : Int) - 1))))), (by first | rfl | (simp; done) | (simp [*]; done)), H', ⟨by have := HJ3.out; have := HK2.out; first | omega | exact Nat.le_refl _⟩, ⟨by (with_reducible repeat (first | apply Kd.R_alloc | apply Kd.R_drewN | apply Kd.R_drew)); exact HO_262000.out⟩, ⟨by (with_reducible repeat (first | refine blk_drewN ?_ _ | refine blk_drew ?_ | refine blk_alloc ?_ _)); exact BK261.out⟩, ⟨by repeat (first | (with_reducible first | exact HB.out | apply below_alloc | apply pw_below_drewN | apply below_drew1 | refine below_set ?_ GE261.out) | exact HB.out)⟩⟩
                    ·replace c32 := Bool.eq_false_iff.mpr c32
                     subst c32
                     have H1 : (wireloomlaw08_LexerCovers.j2 k2 t254 (t255 ++ a1) x9_2 (wrap64 (((rd_T39 t256 x9_2).f2) + (((rd_T39 t256 x9_2).f1).size : Int))) true t256 t259 t260) = some true := by rw [if_neg (show ¬ (false = true) by decide)] at H; exact H
                     clear H
                     have H := H1
                     clear H1
                     exact absurd H (wireloomlaw08_LexerCovers.dead_j2_true _ _ _ _ _ _ _ _)
                   ·rw [if_neg c30] at H
                    exact absurd H (by simp)
                  ·rw [if_neg c29] at H
                   exact absurd H (by simp)
                 ·rw [if_neg c28] at H
                  exact absurd H (by simp)
                ·rw [if_neg c27] at H
                 have c27b0 : (((t255 ++ a1).extract (((rd_T39 t256 x9_2).f2) : Int).toNat ((wrap64 (((rd_T39 t256 x9_2).f2) + (((rd_T39 t256 x9_2).f1).size : Int))) : Int).toNat).toList == ((rd_T39 t256 x9_2).f1).toList) = false := beq_eq_false_iff_ne.mpr c27
                 have c27b0s := c27b0
                 (try simp only [ByteArray.size_append, Int.natCast_add] at c27b0s)
                 (try have c27b0t := eq_true (of_decide_eq_true c27b0s))
                 have c27b1 : (((t255 ++ a1).extract (((rd_T39 t256 x9_2).f2) : Int).toNat ((wrap64 (((rd_T39 t256 x9_2).f2) + (((rd_T39 t256 x9_2).f1).size : Int))) : Int).toNat).toList != ((rd_T39 t256 x9_2).f1).toList) = true := bne_iff_ne.mpr c27
                 have c27b1s := c27b1
                 (try simp only [ByteArray.size_append, Int.natCast_add] at c27b1s)
                 (try have c27b1t := eq_true (of_decide_eq_true c27b1s))
                 exact absurd H (wireloomlaw08_LexerCovers.dead_j2_true _ _ _ _ _ _ _ _)
               ·rw [if_neg c26] at H
                exact absurd H (by simp)
              ·rw [if_neg c25] at H
               exact absurd H (by simp)
             ·rw [if_neg c24] at H
              exact absurd H (by simp)
          case rest =>
           clear HC19
           try clear c2
           try clear p2
           try clear c3
           try clear p6
           try clear c22
           try clear c24
           try clear c25
           try clear c26
           try clear c27
           try clear c27b0
           try clear c27b1
           try clear c28
           try clear c29
           try clear c30
           try clear c32
           obtain ⟨kq, x148_18, rfl, HA, HJ18, HO_262000, BK261, HB⟩ := hcut
           cases kq with
           | zero => exact absurd HA.out (by simp [wireloomlaw08_LexerCovers.j2])
           | succ kj18 =>
            have H := HA.out
            clear HA
            simp only [wireloomlaw08_LexerCovers.j2] at H
            by_cases c35 : x148_18 = true
            ·subst c35
             have H1 : (some false) = some true := by rw [if_pos rfl] at H; exact H
             clear H
             have H := H1
             clear H1
             exact absurd H (by decide)
            ·replace c35 := Bool.eq_false_iff.mpr c35
             subst c35
             have H1 : (wireloomlaw08_LexerCovers.l0 kj18 t254 (t255 ++ a1) (wrap64 (((rd_T39 t256 x9_2).f2) + (((rd_T39 t256 x9_2).f1).size : Int))) (wrap64 (x9_2 + 1)) t256 t259 t260) = some true := by rw [if_neg (show ¬ (false = true) by decide)] at H; exact H
             clear H
             have H := H1
             clear H1
             have H' := Aside0.mk H
             clear H
             go_wp2
             go_roundg kj18
             case measure => have := HJ3.out; have := HK2.out; have := HJ18.out; omega
             case rel => exact ⟨((wrap64 (((rd_T39 t256 x9_2).f2) + (((rd_T39 t256 x9_2).f1).size : Int)))), (wrap64 (x9_2 + 1)), (by first | rfl | (simp; done) | (simp [*]; done)), (by first | rfl | (simp; done) | (simp [*]; done)), H', ⟨by have := HJ3.out; have := HK2.out; have := HJ18.out; omega⟩, ⟨by (with_reducible repeat (first | apply Kd.R_alloc | apply Kd.R_drewN | apply Kd.R_drew)); exact HO_262000.out⟩, ⟨by (with_reducible repeat (first | refine blk_drewN ?_ _ | refine blk_drew ?_ | refine blk_alloc ?_ _)); exact BK261.out⟩, ⟨by repeat (first | (with_reducible first | exact HB.out | apply below_alloc | apply pw_below_drewN | apply below_drew1 | refine below_set ?_ GE261.out) | exact HB.out)⟩⟩
         ·rw [if_neg c18] at H
          exact absurd H (by simp)
        ·rw [if_neg c17] at H
         have c17b0 : decide (x9_2 < (t256.length : Int)) = false := decide_eq_false c17
         clear c17
         by_cases c36 : x8_2 = ((t255 ++ a1).size : Int)
         ·rw [if_pos c36] at H
          have c36b0 : (x8_2 == ((t255 ++ a1).size : Int)) = true := beq_iff_eq.mpr c36
          have c36b0s := c36b0
          (try simp only [ByteArray.size_append, Int.natCast_add] at c36b0s)
          (try have c36b0t := eq_true (of_decide_eq_true c36b0s))
          have c36b1 : (x8_2 != ((t255 ++ a1).size : Int)) = false := bne_eq_false_iff_eq.mpr c36
          have c36b1s := c36b1
          (try simp only [ByteArray.size_append, Int.natCast_add] at c36b1s)
          (try have c36b1t := eq_true (of_decide_eq_true c36b1s))
          clear c36
          by_cases c37 : (t256.length : Int) > 0
          ·rw [if_pos c37] at H
           have c37b0 : decide (0 < (t256.length : Int)) = true := decide_eq_true c37
           have c37b1 : decide (0 < t256.length) = true := decide_eq_true (by omega)
           clear c37
           have Hr_ := Option.some.inj H
           (try subst Hr_)
           have hcz38_0 : wr.cell? ⟨gb261, 0, none⟩ = some (.slice Ao15 t256.length co15) := (blk_cell BK261.out 0).trans rfl
           have hcz38_1 : wr.cell? ⟨gb261, 1, none⟩ = some (.int .i64 t259) := (blk_cell BK261.out 1).trans rfl
           have hcz38_2 : wr.cell? ⟨gb261, 2, none⟩ = some (.int .i64 t260) := (blk_cell BK261.out 2).trans rfl
           have hfz38_0 := blk_frozen BK261.out 0
           have hfz38_1 := blk_frozen BK261.out 1
           have hfz38_2 := blk_frozen BK261.out 2
           go_wp2
           go_ret
           exact ⟨by first | rfl | (simp [errW_none, errW_some] <;> rfl) | (simp [*, errW_none, errW_some] <;> rfl), by repeat (first | (with_reducible first | exact HB.out | apply below_alloc | apply pw_below_drewN | apply below_drew1 | refine below_set ?_ GE261.out) | exact HB.out)⟩
          ·rw [if_neg c37] at H
           exact absurd H (by decide)
         ·rw [if_neg c36] at H
          exact absurd H (by decide)
     ·rw [if_neg c11] at H
      have c11b0 : (t260 == 0) = false := beq_eq_false_iff_ne.mpr c11
      have c11b1 : (t260 != 0) = true := bne_iff_ne.mpr c11
      by_cases c39 : t260 = 5
      ·rw [if_pos c39] at H
       have c39b0 : (t260 == 5) = true := beq_iff_eq.mpr c39
       have c39b1 : (t260 != 5) = false := bne_eq_false_iff_eq.mpr c39
       clear c39
       by_cases c40 : t259 ≥ 0
       ·rw [if_pos c40] at H
        have c40b0 : decide (0 ≤ t259) = true := decide_eq_true c40
        clear c40
        by_cases c41 : t259 < ((t255 ++ a1).size : Int)
        ·rw [if_pos c41] at H
         have c41b0 : decide (t259 < ((t255 ++ a1).size : Int)) = true := decide_eq_true c41
         have c41b0s := c41b0
         (try simp only [ByteArray.size_append, Int.natCast_add] at c41b0s)
         (try have c41b0t := eq_true (of_decide_eq_true c41b0s))
         clear c41
         have Hr_ := Option.some.inj H
         (try subst Hr_)
         go_wp2_with (first | ((with_reducible refine gate_callee (f := 11) rfl ?_); refine goesL_ (some 21) rfl rfl Tryd.func11 (by kernel_rfl) rfl #[.slice A0 l0.length c0] rfl (by (try simp only [List.map_toArray, List.map_cons, List.map_nil]); first | done | rfl | (simp only [List.length_drop, List.length_take]; rfl)) ?_; (with_reducible refine (wireloomref08_Made.calls kj3 _ _ l0 t255 _ ?side1 ?side2 A8.out).mono ?_); (case side1 => repeat (first | exact (Kd.C_below HR0.out HB.out) | (with_reducible refine Kd.C_alloc ?_ _) | (with_reducible refine Kd.C_drewN ?_ _) | (with_reducible refine Kd.C_drew ?_))); (case side2 => exact HC0.out); rintro e w42 ⟨rfl, hb⟩; refine ⟨_, rfl, ?_⟩; have n0_ := Aside0.mk (below_step (by repeat (first | (with_reducible first | exact HB.out | apply below_alloc | apply pw_below_drewN | apply below_drew1) | exact HB.out)) hb); clear HB; have HB := n0_; clear n0_; (try clear hb); (try clear hb2); (try clear hk); (try clear hi); (try clear A8)) | ((with_reducible refine gate_callee (f := 13) rfl ?_); refine goesL_ (some 25) rfl rfl Tryd.func13 (by kernel_rfl) rfl #[.string (t255 ++ a1)] rfl (by (try simp only [List.map_toArray, List.map_cons, List.map_nil]); first | done | rfl | (simp only [List.length_drop, List.length_take]; rfl)) ?_; (with_reducible refine (wireloomlaw08_lexed.calls (t255 ++ a1) t256 t259 t260 _ ?side1 A10.out).mono ?_); (case side1 => exact GL.below hGL (by repeat (first | (with_reducible first | exact HB.out | apply below_alloc | apply pw_below_drewN | apply below_drew1) | exact HB.out))); rintro e w43 ⟨v257, rfl, ho0, hb⟩; refine ⟨_, rfl, ?_⟩; have n0_ := Aside0.mk (Kd.R_lower ho0 (below_size (by repeat (first | (with_reducible first | exact HB.out | apply below_alloc | apply pw_below_drewN | apply below_drew1) | exact HB.out)))); have n1_ := Aside0.mk (below_step (by repeat (first | (with_reducible first | exact HB.out | apply below_alloc | apply pw_below_drewN | apply below_drew1) | exact HB.out)) hb); clear HB; have HO258 := n0_; have HB := n1_; clear n0_ n1_; (try clear hb); (try clear hb2); (try clear hk); (try clear hi); (try clear ho0); (try clear A10)) | ((with_reducible refine gate_dst (N := 7) rfl ?_); (try (refine gate_guard (by rfl) ?_; dsimp only)); refine box_event ?hg (N := 7) ?hd (cs := #[.slice none 0 0, .int .i64 0, .int .i64 0]) (t := 29) ?hr ?_; (case hd => rfl); (case hg => rfl); (case hr => first | (go_simp; done) | (go_simp; rfl)); intro gb261 hg w44 hbox hb; have n0_ := Aside0.mk (Kd.R_below (by (with_reducible repeat (first | apply Kd.R_alloc | apply Kd.R_drewN | apply Kd.R_drew)); exact HO258.out) hb); have n1_ := Aside0.mk (below_step (by repeat (first | (with_reducible first | exact HB.out | apply below_alloc | apply pw_below_drewN | apply below_drew1) | exact HB.out)) hb); have n2_ := Aside0.mk (hbox); have n3_ := Aside0.mk ((by rw [hg]; exact (below_size (by repeat (first | (with_reducible first | exact HB.out | apply below_alloc | apply pw_below_drewN | apply below_drew1) | exact HB.out))) : w.heap.size ≤ gb261)); have n4_ := Aside0.mk ((by rw [hg]; exact (below_size (by repeat (first | (with_reducible first | exact HB.out | apply below_alloc | apply pw_below_drewN | apply below_drew1) | exact HB.out))) : w.heap.size ≤ gb261)); clear HO258; clear HB; have HO258 := n0_; have HB := n1_; have BK261 := n2_; have GW261 := n3_; have GE261 := n4_; clear n0_ n1_ n2_ n3_ n4_; clear hb hbox hg; obtain ⟨Ao45, co45, eo45⟩ := Kd.R_slice HO258.out; subst eo45; have hcz46_0 : w44.cell? ⟨gb261, 0, none⟩ = some (.slice none 0 0) := (blk_cell BK261.out 0).trans rfl; have hcz46_1 : w44.cell? ⟨gb261, 1, none⟩ = some (.int .i64 0) := (blk_cell BK261.out 1).trans rfl; have hcz46_2 : w44.cell? ⟨gb261, 2, none⟩ = some (.int .i64 0) := (blk_cell BK261.out 2).trans rfl; have hfz46_0 := blk_frozen BK261.out 0; have hfz46_1 := blk_frozen BK261.out 1; have hfz46_2 := blk_frozen BK261.out 2))
         go_ret
         exact ⟨by first | rfl | (simp [errW_none, errW_some] <;> rfl) | (simp [*, errW_none, errW_some] <;> rfl), by repeat (first | (with_reducible first | exact HB.out | apply below_alloc | apply pw_below_drewN | apply below_drew1 | refine below_set ?_ GE261.out) | exact HB.out)⟩
        ·rw [if_neg c41] at H
         exact absurd H (by decide)
       ·rw [if_neg c40] at H
        exact absurd H (by decide)
      ·rw [if_neg c39] at H
       exact absurd H (by decide)
    ·rw [if_neg c9] at H
     exact absurd H (by simp)

/-- THE ONE PURE STATEMENT of wireloomlaw08_LexerCovers: yours. -/
def wireloomlaw08_LexerCovers.Pure : Prop := ∀ (l0 : List Int) (a1 : ByteArray), l0.length ≤ maxLen → l0.length * 1 ≤ 140737488351232 → (∀ x ∈ l0, (Lit.int .u8 x).wf = true) → a1.size ≤ 140737488351232 → ∃ k, wireloomlaw08_LexerCovers.f k l0 a1 = some true
theorem wireloomlaw08_LexerCovers.walk (P : wireloomlaw08_LexerCovers.Pure) (a0 : Option Addr) (len0 cap0 : Nat) (z0 : List Int) (a1 : ByteArray) (w : World) (hGL : GL w) (w0 : (a0 = none ∧ len0 = 0 ∧ cap0 = 0 ∧ z0 = []) ∨ ∃ x, a0 = some x ∧ len0 ≤ cap0 ∧ cap0 ≤ maxLen ∧ z0.length = cap0 ∧ (∀ i, i < z0.length → w.cell? (x.add i) = some (.int .u8 (z0.getD i 0))) ∧ ∀ n ∈ z0, (Lit.int .u8 n).wf = true) (y0 : len0 * 1 ≤ 140737488351232) (w1 : a1.size ≤ 140737488351232) :
  Calls Tryd.prog 4 #[.slice a0 len0 cap0, .string a1] w fun e w' => e = .returned (.bool true) ∧ Below w.heap.size w w' := by
 obtain ⟨l0, rfl, hr0, hm0, hw0, hc0⟩ := ReadsInt.ofRowC w0
 obtain ⟨k, h⟩ := P l0 a1 hm0 y0 hw0 w1
 refine (wireloomlaw08_LexerCovers.calls k _ _ l0 a1 w (Kd.C_of_reads (d := (0 : Int)) (h1 := fun _ => rfl) hr0) hc0 hGL h).mono ?_
 rintro e w' ⟨rfl, hd⟩
 exact ⟨rfl, hd⟩

end Go.Proofs.YtoongglmgpilfaaDoor.L
