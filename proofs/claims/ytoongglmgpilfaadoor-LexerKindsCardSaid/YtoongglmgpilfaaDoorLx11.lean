-- made by a program of this claim (wip/myprint.sh); Lean checks it
import Derived.Test.YtoongglmgpilfaaDoorLx0
import Derived.Test.YtoongglmgpilfaaDoorLx2
import Derived.Test.YtoongglmgpilfaaDoorLx3
import Derived.Test.YtoongglmgpilfaaDoorLx4
import Derived.Test.YtoongglmgpilfaaDoorGiven
namespace Go.Proofs.YtoongglmgpilfaaDoor.L
open Go.RowKit Go.Proofs.YtoongglmgpilfaaDoorW.PrintWords Go.Proofs.YtoongglmgpilfaaDoorW.PrintLast Go.Proofs.YtoongglmgpilfaaDoorW.PrintMore
attribute [local go_sem] max2_int min2_int max_two min_two max_three min_three max_four min_four   -- for this text's walks alone
set_option linter.unusedVariables false
set_option linter.unusedSimpArgs false

/-! ### wireloomlaw08_LexerKinds: function 7 -/
mutual
def wireloomlaw08_LexerKinds.j0 : Nat → List Int → ByteArray → Bool → Bool → Option (Bool)
  | 0, _, _, _, _ => none
  | k + 1, x0, x1, x5, x18 => if x18 = true then (some x5) else ((wireloomlaw08_lexed.f x1).bind fun bt334 => (if bt334.2.2 = 0 then (if (bt334.1.length : Int) = 2 then (if 0 < (bt334.1.length : Int) then (wireloomlaw08_LexerKinds.j1 k x0 x1 x5 (((rd_T39 bt334.1 0).f1).toList == x1.toList) bt334.1 bt334.2.1 bt334.2.2) else (none)) else (wireloomlaw08_LexerKinds.j1 k x0 x1 x5 false bt334.1 bt334.2.1 bt334.2.2)) else (wireloomlaw08_LexerKinds.j1 k x0 x1 x5 false bt334.1 bt334.2.1 bt334.2.2)))
def wireloomlaw08_LexerKinds.j1 : Nat → List Int → ByteArray → Bool → Bool → List (S39) → Int → Int → Option (Bool)
  | 0, _, _, _, _, _, _, _ => none
  | k + 1, x0, x1, x5, x7, x340000, x340001, x340002 => (lexer_Kind.f x1).bind fun t341 => (if ((t341 != 0) != x7) = true then (wireloomlaw08_LexerKinds.j2 k x0 x5 true) else (if x7 = true then (if 0 < (x340000.length : Int) then ((lexer_Kind.f x1).bind fun t343 => (wireloomlaw08_LexerKinds.j2 k x0 x5 (((rd_T39 x340000 0).f0) != t343))) else (none)) else (wireloomlaw08_LexerKinds.j2 k x0 x5 false)))
def wireloomlaw08_LexerKinds.j2 : Nat → List Int → Bool → Bool → Option (Bool)
  | 0, _, _, _ => none
  | k + 1, x0, x5, x57 => if x57 = true then (some false) else ((wireloomref08_Clean.f k x0).bind fun t344 => ((wireloomlaw08_lexed.f t344).bind fun bt345 => (wireloomlaw08_LexerKinds.l0 k x5 0 bt345.1 bt345.2.1 bt345.2.2)))
def wireloomlaw08_LexerKinds.l0 : Nat → Bool → Int → List (S39) → Int → Int → Option (Bool)
  | 0, _, _, _, _, _ => none
  | k + 1, x5, x9, x351000, x351001, x351002 => if (wrap64 (x9 + 1)) < (x351000.length : Int) then (if 0 ≤ x9 then (if x9 < (x351000.length : Int) then ((lexer_Kind.f ((rd_T39 x351000 x9).f1)).bind fun t352 => (if t352 = ((rd_T39 x351000 x9).f0) then (if t352 = 1 then (wireloomlaw08_LexerKinds.l0 k x5 (wrap64 (x9 + 1)) x351000 x351001 x351002) else (if t352 = 2 then (wireloomlaw08_LexerKinds.l0 k x5 (wrap64 (x9 + 1)) x351000 x351001 x351002) else (if t352 = 3 then (wireloomlaw08_LexerKinds.l0 k x5 (wrap64 (x9 + 1)) x351000 x351001 x351002) else (some false)))) else (some false))) else (none)) else (none)) else (if x351002 = 0 then (some x5) else (some false))
end
def wireloomlaw08_LexerKinds.f (k : Nat) (l0 : List Int) (a1 : ByteArray) : Option (Bool) := (wireloomlaw08_examples.f k).bind fun t333 => (if t333 = true then (wireloomlaw08_LexerKinds.j0 k l0 a1 t333 (decide ((a1.size : Int) > 300))) else (wireloomlaw08_LexerKinds.j0 k l0 a1 t333 true))
theorem wireloomlaw08_LexerKinds.mono_l : ∀ k, (∀ y0 y1 y2 y3, LeO (wireloomlaw08_LexerKinds.j0 k y0 y1 y2 y3) (wireloomlaw08_LexerKinds.j0 (k + 1) y0 y1 y2 y3)) ∧ (∀ y0 y1 y2 y3 y4 y5 y6, LeO (wireloomlaw08_LexerKinds.j1 k y0 y1 y2 y3 y4 y5 y6) (wireloomlaw08_LexerKinds.j1 (k + 1) y0 y1 y2 y3 y4 y5 y6)) ∧ (∀ y0 y1 y2, LeO (wireloomlaw08_LexerKinds.j2 k y0 y1 y2) (wireloomlaw08_LexerKinds.j2 (k + 1) y0 y1 y2)) ∧ (∀ y0 y1 y2 y3 y4, LeO (wireloomlaw08_LexerKinds.l0 k y0 y1 y2 y3 y4) (wireloomlaw08_LexerKinds.l0 (k + 1) y0 y1 y2 y3 y4))
  | 0 => ⟨fun _ _ _ _ r h => by simp [wireloomlaw08_LexerKinds.j0] at h, fun _ _ _ _ _ _ _ r h => by simp [wireloomlaw08_LexerKinds.j1] at h, fun _ _ _ r h => by simp [wireloomlaw08_LexerKinds.j2] at h, fun _ _ _ _ _ r h => by simp [wireloomlaw08_LexerKinds.l0] at h⟩
  | k + 1 => by
    obtain ⟨ih0, ih1, ih2, ih3⟩ := wireloomlaw08_LexerKinds.mono_l k
    refine ⟨?_, ?_, ?_, ?_⟩
    · intro y0 y1 y2 y3
      unfold wireloomlaw08_LexerKinds.j0
      repeat' first
      | (with_reducible exact ih0 _ _ _ _)
      | (with_reducible exact ih1 _ _ _ _ _ _ _)
      | (with_reducible exact ih2 _ _ _)
      | (with_reducible exact ih3 _ _ _ _ _)
      | (with_reducible exact wireloomlaw08_examples.mono _)
      | (with_reducible exact wireloomref08_Clean.mono _ _)
      | (with_reducible exact LeO.refl _)
      | (with_reducible exact LeO.none _)
      | (with_reducible refine LeO.ite ?_ ?_)
      | (with_reducible refine LeO.bind ?_ (fun _ => ?_))
      | exact ih0 _ _ _ _
      | exact ih1 _ _ _ _ _ _ _
      | exact ih2 _ _ _
      | exact ih3 _ _ _ _ _
      | exact wireloomlaw08_examples.mono _
      | exact wireloomref08_Clean.mono _ _
      | exact LeO.none _
      | refine LeO.ite ?_ ?_
      | refine LeO.bind ?_ (fun _ => ?_)
    · intro y0 y1 y2 y3 y4 y5 y6
      unfold wireloomlaw08_LexerKinds.j1
      repeat' first
      | (with_reducible exact ih0 _ _ _ _)
      | (with_reducible exact ih1 _ _ _ _ _ _ _)
      | (with_reducible exact ih2 _ _ _)
      | (with_reducible exact ih3 _ _ _ _ _)
      | (with_reducible exact wireloomlaw08_examples.mono _)
      | (with_reducible exact wireloomref08_Clean.mono _ _)
      | (with_reducible exact LeO.refl _)
      | (with_reducible exact LeO.none _)
      | (with_reducible refine LeO.ite ?_ ?_)
      | (with_reducible refine LeO.bind ?_ (fun _ => ?_))
      | exact ih0 _ _ _ _
      | exact ih1 _ _ _ _ _ _ _
      | exact ih2 _ _ _
      | exact ih3 _ _ _ _ _
      | exact wireloomlaw08_examples.mono _
      | exact wireloomref08_Clean.mono _ _
      | exact LeO.none _
      | refine LeO.ite ?_ ?_
      | refine LeO.bind ?_ (fun _ => ?_)
    · intro y0 y1 y2
      unfold wireloomlaw08_LexerKinds.j2
      repeat' first
      | (with_reducible exact ih0 _ _ _ _)
      | (with_reducible exact ih1 _ _ _ _ _ _ _)
      | (with_reducible exact ih2 _ _ _)
      | (with_reducible exact ih3 _ _ _ _ _)
      | (with_reducible exact wireloomlaw08_examples.mono _)
      | (with_reducible exact wireloomref08_Clean.mono _ _)
      | (with_reducible exact LeO.refl _)
      | (with_reducible exact LeO.none _)
      | (with_reducible refine LeO.ite ?_ ?_)
      | (with_reducible refine LeO.bind ?_ (fun _ => ?_))
      | exact ih0 _ _ _ _
      | exact ih1 _ _ _ _ _ _ _
      | exact ih2 _ _ _
      | exact ih3 _ _ _ _ _
      | exact wireloomlaw08_examples.mono _
      | exact wireloomref08_Clean.mono _ _
      | exact LeO.none _
      | refine LeO.ite ?_ ?_
      | refine LeO.bind ?_ (fun _ => ?_)
    · intro y0 y1 y2 y3 y4
      unfold wireloomlaw08_LexerKinds.l0
      repeat' first
      | (with_reducible exact ih0 _ _ _ _)
      | (with_reducible exact ih1 _ _ _ _ _ _ _)
      | (with_reducible exact ih2 _ _ _)
      | (with_reducible exact ih3 _ _ _ _ _)
      | (with_reducible exact wireloomlaw08_examples.mono _)
      | (with_reducible exact wireloomref08_Clean.mono _ _)
      | (with_reducible exact LeO.refl _)
      | (with_reducible exact LeO.none _)
      | (with_reducible refine LeO.ite ?_ ?_)
      | (with_reducible refine LeO.bind ?_ (fun _ => ?_))
      | exact ih0 _ _ _ _
      | exact ih1 _ _ _ _ _ _ _
      | exact ih2 _ _ _
      | exact ih3 _ _ _ _ _
      | exact wireloomlaw08_examples.mono _
      | exact wireloomref08_Clean.mono _ _
      | exact LeO.none _
      | refine LeO.ite ?_ ?_
      | refine LeO.bind ?_ (fun _ => ?_)
theorem wireloomlaw08_LexerKinds.mono : ∀ a0 a1 k, LeO (wireloomlaw08_LexerKinds.f k a0 a1) (wireloomlaw08_LexerKinds.f (k + 1) a0 a1) := by
  intro a0 a1 k
  obtain ⟨ih0, ih1, ih2, ih3⟩ := wireloomlaw08_LexerKinds.mono_l k
  unfold wireloomlaw08_LexerKinds.f
  repeat' first
      | (with_reducible exact ih0 _ _ _ _)
      | (with_reducible exact ih1 _ _ _ _ _ _ _)
      | (with_reducible exact ih2 _ _ _)
      | (with_reducible exact ih3 _ _ _ _ _)
      | (with_reducible exact wireloomlaw08_examples.mono _)
      | (with_reducible exact wireloomref08_Clean.mono _ _)
      | (with_reducible exact LeO.refl _)
      | (with_reducible exact LeO.none _)
      | (with_reducible refine LeO.ite ?_ ?_)
      | (with_reducible refine LeO.bind ?_ (fun _ => ?_))
      | exact ih0 _ _ _ _
      | exact ih1 _ _ _ _ _ _ _
      | exact ih2 _ _ _
      | exact ih3 _ _ _ _ _
      | exact wireloomlaw08_examples.mono _
      | exact wireloomref08_Clean.mono _ _
      | exact LeO.none _
      | refine LeO.ite ?_ ?_
      | refine LeO.bind ?_ (fun _ => ?_)
def wireloomlaw08_LexerKinds.T6 : Bool × List (List Nat × List Nat) := (true, [([], []), ([0], [0]), ([1], [1]), ([], []), ([2, 3], [2, 3]), ([4, 1], [4]), ([5], [5]), ([6, 5, 5], [5, 6]), ([7], [7]), ([8, 7], [7, 8]), ([9, 7], [7, 9]), ([10, 7], [7, 10]), ([11, 7], [7, 11]), ([7], [7]), ([13, 7, 7], [7, 13]), ([12, 14, 7], [7, 12, 14]), ([7, 15, 5], [5, 7, 15]), ([5, 16], [5, 16])])
def wireloomlaw08_LexerKinds.B6 : List Nat := [0, 1, 3, 0, 15, 31, 63, 127, 255, 511, 1023, 2047, 4095, 255, 8447, 32767, 65535, 131071]
theorem wireloomlaw08_LexerKinds.tab6 : rtab .any (opsOf Tryd.f7 6) = wireloomlaw08_LexerKinds.T6 := by kernel_rfl
theorem wireloomlaw08_LexerKinds.bits6 : waitsOk wireloomlaw08_LexerKinds.T6.2 wireloomlaw08_LexerKinds.B6 = true := by kernel_rfl
set_option maxHeartbeats 8000000 in
set_option maxRecDepth 100000 in
theorem wireloomlaw08_LexerKinds.calls (k : Nat) (A0 : Option Addr) (c0 : Nat) (l0 : List Int) (a1 : ByteArray) (r : Bool) (w : World) (hr0 : Kd.C (Kd.int .u8) w A0 l0.length l0) (hc0 : l0.length ≤ c0) (hGL : GL w) (h : wireloomlaw08_LexerKinds.f k l0 a1 = some r) :
    Calls Tryd.prog 7 #[.slice A0 l0.length c0, .string a1] w fun e w' => e = .returned (.bool r) ∧ Below w.heap.size w w' := by
  have hu29 := Tryd.underlying29
  have HR0 := Aside0.mk hr0
  have HC0 := Aside0.mk hc0
  clear hr0 hc0
  have HB := Aside0.mk (Below.refl w.heap.size w)
  have H : ((wireloomlaw08_examples.f k).bind fun t333 => (if t333 = true then (wireloomlaw08_LexerKinds.j0 k l0 a1 t333 (decide ((a1.size : Int) > 300))) else (wireloomlaw08_LexerKinds.j0 k l0 a1 t333 true))) = some r := h
  clear h
  replace H := Option.bind_eq_some_iff.mp H
  obtain ⟨t333, A30, H⟩ := H
  replace H : (if t333 = true then (wireloomlaw08_LexerKinds.j0 k l0 a1 t333 (decide ((a1.size : Int) > 300))) else (wireloomlaw08_LexerKinds.j0 k l0 a1 t333 true)) = some r := H
  have A3 := Aside0.mk A30
  clear A30
  have HC4 := Aside0.mk H
  clear H
  go_enter Tryd.func7, Tryd.ntmps7
  go_upto_region 2 with (first | ((with_reducible refine gate_callee (f := 10) rfl ?_); refine goesL_ (some 11) rfl rfl Tryd.func10 (by kernel_rfl) rfl #[] rfl (by (try simp only [List.map_toArray, List.map_cons, List.map_nil]); first | done | rfl | (simp only [List.length_drop, List.length_take]; rfl)) ?_; (with_reducible refine (wireloomlaw08_examples.calls k  t333 _ ?side1 A3.out).mono ?_); (case side1 => exact GL.below hGL (by repeat (first | (with_reducible first | exact HB.out | apply below_alloc | apply pw_below_drewN | apply below_drew1) | exact HB.out))); rintro e w5 ⟨rfl, hb⟩; refine ⟨_, rfl, ?_⟩; have n0_ := Aside0.mk (below_step (by repeat (first | (with_reducible first | exact HB.out | apply below_alloc | apply pw_below_drewN | apply below_drew1) | exact HB.out)) hb); clear HB; have HB := n0_; clear n0_; (try clear hb); (try clear hb2); (try clear hk); (try clear hi); (try clear A3)))
  (try simp only [Act.put, List.setIfInBounds_toArray, List.set_cons_zero, List.set_cons_succ])
  go_cut [18] (fun v18 wc => ∃ (kq : Nat) (x18_3 : Bool), v18 = .bool x18_3 ∧ Aside0 (wireloomlaw08_LexerKinds.j0 kq l0 a1 t333 x18_3 = some r) ∧ Aside0 (kq ≤ k) ∧ Aside0 (Below w.heap.size w wc))
  case first =>
    have H := HC4.out
    clear HC4
    by_cases c6 : t333 = true
    · subst c6
      have H1 : (wireloomlaw08_LexerKinds.j0 k l0 a1 true (decide ((a1.size : Int) > 300))) = some r := by rw [if_pos rfl] at H; exact H
      clear H
      have H := H1
      clear H1
      have H' := Aside0.mk H
      clear H
      go_wp2
      go_meet
      case rel => exact ⟨_, (decide ((a1.size : Int) > 300)), (by first | rfl | (simp; done) | (simp [*]; done)), H', ⟨by first | omega | exact Nat.le_refl _⟩, ⟨by repeat (first | (with_reducible first | exact HB.out | apply below_alloc | apply pw_below_drewN | apply below_drew1) | exact HB.out)⟩⟩
    · replace c6 := Bool.eq_false_iff.mpr c6
      subst c6
      have H1 : (wireloomlaw08_LexerKinds.j0 k l0 a1 false true) = some r := by rw [if_neg (show ¬ (false = true) by decide)] at H; exact H
      clear H
      have H := H1
      clear H1
      have H' := Aside0.mk H
      clear H
      go_wp2
      go_meet
      case rel => exact ⟨_, (true), (by first | rfl | (simp; done) | (simp [*]; done)), H', ⟨by first | omega | exact Nat.le_refl _⟩, ⟨by repeat (first | (with_reducible first | exact HB.out | apply below_alloc | apply pw_below_drewN | apply below_drew1) | exact HB.out)⟩⟩
  case rest =>
    clear HC4
    try clear c1
    try clear p2
    try clear c6
    obtain ⟨kq, x18_3, rfl, HA, HJ3, HB⟩ := hcut
    cases kq with
    | zero => exact absurd HA.out (by simp [wireloomlaw08_LexerKinds.j0])
    | succ kj3 =>
      have H := HA.out
      clear HA
      simp only [wireloomlaw08_LexerKinds.j0] at H
      by_cases c7 : x18_3 = true
      · subst c7
        have H1 : (some t333) = some r := by rw [if_pos rfl] at H; exact H
        clear H
        have H := H1
        clear H1
        obtain rfl := Option.some.inj H
        go_wp2
        go_ret
        exact ⟨by first | rfl | (simp [errW_none, errW_some] <;> rfl) | (simp [*, errW_none, errW_some] <;> rfl), by repeat (first | (with_reducible first | exact HB.out | apply below_alloc | apply pw_below_drewN | apply below_drew1) | exact HB.out)⟩
      · replace c7 := Bool.eq_false_iff.mpr c7
        subst c7
        have H1 : ((wireloomlaw08_lexed.f a1).bind fun bt334 => (if bt334.2.2 = 0 then (if (bt334.1.length : Int) = 2 then (if 0 < (bt334.1.length : Int) then (wireloomlaw08_LexerKinds.j1 kj3 l0 a1 t333 (((rd_T39 bt334.1 0).f1).toList == a1.toList) bt334.1 bt334.2.1 bt334.2.2) else (none)) else (wireloomlaw08_LexerKinds.j1 kj3 l0 a1 t333 false bt334.1 bt334.2.1 bt334.2.2)) else (wireloomlaw08_LexerKinds.j1 kj3 l0 a1 t333 false bt334.1 bt334.2.1 bt334.2.2))) = some r := by rw [if_neg (show ¬ (false = true) by decide)] at H; exact H
        clear H
        have H := H1
        clear H1
        replace H := Option.bind_eq_some_iff.mp H
        obtain ⟨⟨t334, t337, t338⟩, A80, H⟩ := H
        replace H : (if t338 = 0 then (if (t334.length : Int) = 2 then (if 0 < (t334.length : Int) then (wireloomlaw08_LexerKinds.j1 kj3 l0 a1 t333 (((rd_T39 t334 0).f1).toList == a1.toList) t334 t337 t338) else (none)) else (wireloomlaw08_LexerKinds.j1 kj3 l0 a1 t333 false t334 t337 t338)) else (wireloomlaw08_LexerKinds.j1 kj3 l0 a1 t333 false t334 t337 t338)) = some r := H
        have A8 := Aside0.mk A80
        clear A80
        have HC9 := Aside0.mk H
        clear H
        go_upto_region 5 with (first | ((with_reducible refine gate_callee (f := 13) rfl ?_); refine goesL_ (some 21) rfl rfl Tryd.func13 (by kernel_rfl) rfl #[.string a1] rfl (by (try simp only [List.map_toArray, List.map_cons, List.map_nil]); first | done | rfl | (simp only [List.length_drop, List.length_take]; rfl)) ?_; (with_reducible refine (wireloomlaw08_lexed.calls a1 t334 t337 t338 _ ?side1 A8.out).mono ?_); (case side1 => exact GL.below hGL (by repeat (first | (with_reducible first | exact HB.out | apply below_alloc | apply pw_below_drewN | apply below_drew1) | exact HB.out))); rintro e w10 ⟨v335, rfl, ho0, hb⟩; refine ⟨_, rfl, ?_⟩; have n0_ := Aside0.mk (Kd.R_lower ho0 (below_size (by repeat (first | (with_reducible first | exact HB.out | apply below_alloc | apply pw_below_drewN | apply below_drew1) | exact HB.out)))); have n1_ := Aside0.mk (below_step (by repeat (first | (with_reducible first | exact HB.out | apply below_alloc | apply pw_below_drewN | apply below_drew1) | exact HB.out)) hb); clear HB; have HO336 := n0_; have HB := n1_; clear n0_ n1_; (try clear hb); (try clear hb2); (try clear hk); (try clear hi); (try clear ho0); (try clear A8)) | ((with_reducible refine gate_dst (N := 6) rfl ?_); (try (refine gate_guard (by rfl) ?_; dsimp only)); refine box_event ?hg (N := 6) ?hd (cs := #[.slice none 0 0, .int .i64 0, .int .i64 0]) (t := 29) ?hr ?_; (case hd => rfl); (case hg => rfl); (case hr => first | (go_simp; done) | (go_simp; rfl)); intro gb339 hg w11 hbox hb; have n0_ := Aside0.mk (Kd.R_below (by (with_reducible repeat (first | apply Kd.R_alloc | apply Kd.R_drewN | apply Kd.R_drew)); exact HO336.out) hb); have n1_ := Aside0.mk (below_step (by repeat (first | (with_reducible first | exact HB.out | apply below_alloc | apply pw_below_drewN | apply below_drew1) | exact HB.out)) hb); have n2_ := Aside0.mk (hbox); have n3_ := Aside0.mk ((by rw [hg]; exact (below_size (by repeat (first | (with_reducible first | exact HB.out | apply below_alloc | apply pw_below_drewN | apply below_drew1) | exact HB.out))) : w.heap.size ≤ gb339)); have n4_ := Aside0.mk ((by rw [hg]; exact (below_size (by repeat (first | (with_reducible first | exact HB.out | apply below_alloc | apply pw_below_drewN | apply below_drew1) | exact HB.out))) : w.heap.size ≤ gb339)); clear HO336; clear HB; have HO336 := n0_; have HB := n1_; have BK339 := n2_; have GW339 := n3_; have GE339 := n4_; clear n0_ n1_ n2_ n3_ n4_; clear hb hbox hg; obtain ⟨Ao12, co12, eo12⟩ := Kd.R_slice HO336.out; subst eo12; have hcz13_0 : w11.cell? ⟨gb339, 0, none⟩ = some (.slice none 0 0) := (blk_cell BK339.out 0).trans rfl; have hcz13_1 : w11.cell? ⟨gb339, 1, none⟩ = some (.int .i64 0) := (blk_cell BK339.out 1).trans rfl; have hcz13_2 : w11.cell? ⟨gb339, 2, none⟩ = some (.int .i64 0) := (blk_cell BK339.out 2).trans rfl; have hfz13_0 := blk_frozen BK339.out 0; have hfz13_1 := blk_frozen BK339.out 1; have hfz13_2 := blk_frozen BK339.out 2))
        (try simp only [Act.put, List.setIfInBounds_toArray, List.set_cons_zero, List.set_cons_succ])
        go_cut [7] (fun v7 wc => ∃ (kq : Nat) (x7_8 : Bool), v7 = .bool x7_8 ∧ Aside0 (wireloomlaw08_LexerKinds.j1 kq l0 a1 t333 x7_8 t334 t337 t338 = some r) ∧ Aside0 (kq ≤ kj3) ∧ Aside0 (Kd.R k39 39 wc w.heap.size (fun _ => True) (.slice Ao12 t334.length co12) t334) ∧ Aside0 (wc.heap[gb339]? = some (.cells #[(.slice Ao12 t334.length co12), .int .i64 t337, .int .i64 t338] 29 (0, 0))) ∧ Aside0 (Below w.heap.size w wc))
        case first =>
          have H := HC9.out
          clear HC9
          by_cases c14 : t338 = 0
          · rw [if_pos c14] at H
            have c14b0 : (t338 == 0) = true := beq_iff_eq.mpr c14
            have c14b1 : (t338 != 0) = false := bne_eq_false_iff_eq.mpr c14
            clear c14
            (first | rw [c14b0] | (simp only [i64_w, i32_w]; rw [c14b0]) | skip)
            by_cases c15 : (t334.length : Int) = 2
            · rw [if_pos c15] at H
              have c15b0 : ((t334.length : Int) == 2) = true := beq_iff_eq.mpr c15
              have c15b1 : ((t334.length : Int) != 2) = false := bne_eq_false_iff_eq.mpr c15
              clear c15
              by_cases c16 : 0 < (t334.length : Int)
              · rw [if_pos c16] at H
                have c16b0 : decide (0 < (t334.length : Int)) = true := decide_eq_true c16
                have c16b1 : decide (0 < t334.length) = true := decide_eq_true (by omega)
                clear c16
                have H' := Aside0.mk H
                clear H
                have hcz17_0 : w11.cell? ⟨gb339, 0, none⟩ = some (.slice none 0 0) := (blk_cell BK339.out 0).trans rfl
                have hcz17_1 : w11.cell? ⟨gb339, 1, none⟩ = some (.int .i64 0) := (blk_cell BK339.out 1).trans rfl
                have hcz17_2 : w11.cell? ⟨gb339, 2, none⟩ = some (.int .i64 0) := (blk_cell BK339.out 2).trans rfl
                have hfz17_0 := blk_frozen BK339.out 0
                have hfz17_1 := blk_frozen BK339.out 1
                have hfz17_2 := blk_frozen BK339.out 2
                have p340 : 0 ≤ (0 : Int) := (by omega)
                have q340 : 0 < (t334.length : Int) := of_decide_eq_true (by first | (with_reducible assumption) | assumption)
                obtain ⟨ad340, e340, hx340_0, hx340_1, hx340_2⟩ := at_T39 (Kd.R_reads' HO336.out).2.2 0 p340 q340
                cases e340
                have qi340 : (0 < t334.length) = True := eq_true (by omega)
                (try rw [show ((0 : Int)).toNat = 0 from rfl] at hx340_0)
                (try rw [show 0 * 3 = 0 from rfl] at hx340_0)
                (try rw [Addr.add_zero'] at hx340_0)
                (try rw [show ((0 : Int)).toNat = 0 from rfl] at hx340_1)
                (try rw [show 0 * 3 = 0 from rfl] at hx340_1)
                (try rw [Addr.add_zero'] at hx340_1)
                (try rw [show ((0 : Int)).toNat = 0 from rfl] at hx340_2)
                (try rw [show 0 * 3 = 0 from rfl] at hx340_2)
                (try rw [Addr.add_zero'] at hx340_2)
                have hn340_0 : ad340.block ≠ gb339 := Kd.own_blk (Kd.R_ne HO336.out BK339.out (by decide))
                have hn340_1 : ad340.block ≠ gb339 := Kd.own_blk (Kd.R_ne HO336.out BK339.out (by decide))
                have hn340_2 : ad340.block ≠ gb339 := Kd.own_blk (Kd.R_ne HO336.out BK339.out (by decide))
                replace hx340_0 := (cell_far (p := ⟨gb339, 0, none⟩) (by first | (rw [add_block]; exact hn340_0) | (show (Addr.add _ _).block ≠ _; rw [add_block]; exact hn340_0) | exact hn340_0) (.slice (some ad340) t334.length co12)).trans hx340_0
                replace hx340_1 := (cell_far (p := ⟨gb339, 0, none⟩) (by first | (rw [add_block]; exact hn340_0) | (show (Addr.add _ _).block ≠ _; rw [add_block]; exact hn340_0) | exact hn340_0) (.slice (some ad340) t334.length co12)).trans hx340_1
                replace hx340_2 := (cell_far (p := ⟨gb339, 0, none⟩) (by first | (rw [add_block]; exact hn340_0) | (show (Addr.add _ _).block ≠ _; rw [add_block]; exact hn340_0) | exact hn340_0) (.slice (some ad340) t334.length co12)).trans hx340_2
                replace hx340_0 := (cell_far (p := ⟨gb339, 1, none⟩) (by first | (rw [add_block]; exact hn340_1) | (show (Addr.add _ _).block ≠ _; rw [add_block]; exact hn340_1) | exact hn340_1) (.int .i64 t337)).trans hx340_0
                replace hx340_1 := (cell_far (p := ⟨gb339, 1, none⟩) (by first | (rw [add_block]; exact hn340_1) | (show (Addr.add _ _).block ≠ _; rw [add_block]; exact hn340_1) | exact hn340_1) (.int .i64 t337)).trans hx340_1
                replace hx340_2 := (cell_far (p := ⟨gb339, 1, none⟩) (by first | (rw [add_block]; exact hn340_1) | (show (Addr.add _ _).block ≠ _; rw [add_block]; exact hn340_1) | exact hn340_1) (.int .i64 t337)).trans hx340_2
                replace hx340_0 := (cell_far (p := ⟨gb339, 2, none⟩) (by first | (rw [add_block]; exact hn340_2) | (show (Addr.add _ _).block ≠ _; rw [add_block]; exact hn340_2) | exact hn340_2) (.int .i64 t338)).trans hx340_0
                replace hx340_1 := (cell_far (p := ⟨gb339, 2, none⟩) (by first | (rw [add_block]; exact hn340_2) | (show (Addr.add _ _).block ≠ _; rw [add_block]; exact hn340_2) | exact hn340_2) (.int .i64 t338)).trans hx340_1
                replace hx340_2 := (cell_far (p := ⟨gb339, 2, none⟩) (by first | (rw [add_block]; exact hn340_2) | (show (Addr.add _ _).block ≠ _; rw [add_block]; exact hn340_2) | exact hn340_2) (.int .i64 t338)).trans hx340_2
                clear hn340_0
                clear hn340_1
                clear hn340_2
                replace p340 := eq_true p340
                replace q340 := eq_true q340
                go_wp2
                go_meet
                case rel => exact ⟨_, ((((rd_T39 t334 0).f1).toList == a1.toList)), (by first | rfl | (simp; done) | (simp [*]; done)), H', ⟨by have := HJ3.out; first | omega | exact Nat.le_refl _⟩, ⟨by (with_reducible repeat (first | apply Kd.R_alloc | apply Kd.R_drewN | apply Kd.R_drew)); exact Kd.R_mono (Kd.R_far (p := ⟨gb339, 2, none⟩) (Kd.R_far (p := ⟨gb339, 1, none⟩) (Kd.R_far (p := ⟨gb339, 0, none⟩) (Kd.R_types HO336.out BK339.out (by decide)) (fun _ hk => hk.2) (.slice (some ad340) t334.length co12)) (fun _ hk => hk.2) (.int .i64 t337)) (fun _ hk => hk.2) (.int .i64 t338)) (fun _ hk => trivial)⟩, ⟨by (with_reducible repeat (first | refine blk_drewN ?_ _ | refine blk_drew ?_ | refine blk_alloc ?_ _)); refine blk_put (cs := #[.slice (some ad340) t334.length co12, .int .i64 t337, .int .i64 0]) ?_ 2 _ rfl; (with_reducible repeat (first | refine blk_drewN ?_ _ | refine blk_drew ?_ | refine blk_alloc ?_ _)); refine blk_put (cs := #[.slice (some ad340) t334.length co12, .int .i64 0, .int .i64 0]) ?_ 1 _ rfl; (with_reducible repeat (first | refine blk_drewN ?_ _ | refine blk_drew ?_ | refine blk_alloc ?_ _)); refine blk_put (cs := #[.slice none 0 0, .int .i64 0, .int .i64 0]) ?_ 0 _ rfl; (with_reducible repeat (first | refine blk_drewN ?_ _ | refine blk_drew ?_ | refine blk_alloc ?_ _)); exact BK339.out⟩, ⟨by repeat (first | (with_reducible first | exact HB.out | apply below_alloc | apply pw_below_drewN | apply below_drew1 | refine below_set ?_ GE339.out) | exact HB.out)⟩⟩
              · rw [if_neg c16] at H
                exact absurd H (by simp)
            · rw [if_neg c15] at H
              have c15b0 : ((t334.length : Int) == 2) = false := beq_eq_false_iff_ne.mpr c15
              have c15b1 : ((t334.length : Int) != 2) = true := bne_iff_ne.mpr c15
              have H' := Aside0.mk H
              clear H
              have hcz18_0 : w11.cell? ⟨gb339, 0, none⟩ = some (.slice none 0 0) := (blk_cell BK339.out 0).trans rfl
              have hcz18_1 : w11.cell? ⟨gb339, 1, none⟩ = some (.int .i64 0) := (blk_cell BK339.out 1).trans rfl
              have hcz18_2 : w11.cell? ⟨gb339, 2, none⟩ = some (.int .i64 0) := (blk_cell BK339.out 2).trans rfl
              have hfz18_0 := blk_frozen BK339.out 0
              have hfz18_1 := blk_frozen BK339.out 1
              have hfz18_2 := blk_frozen BK339.out 2
              go_wp2
              go_meet
              case rel => exact ⟨_, (false), (by first | rfl | (simp; done) | (simp [*]; done)), H', ⟨by have := HJ3.out; first | omega | exact Nat.le_refl _⟩, ⟨by (with_reducible repeat (first | apply Kd.R_alloc | apply Kd.R_drewN | apply Kd.R_drew)); exact Kd.R_mono (Kd.R_far (p := ⟨gb339, 2, none⟩) (Kd.R_far (p := ⟨gb339, 1, none⟩) (Kd.R_far (p := ⟨gb339, 0, none⟩) (Kd.R_types HO336.out BK339.out (by decide)) (fun _ hk => hk.2) (.slice Ao12 t334.length co12)) (fun _ hk => hk.2) (.int .i64 t337)) (fun _ hk => hk.2) (.int .i64 t338)) (fun _ hk => trivial)⟩, ⟨by (with_reducible repeat (first | refine blk_drewN ?_ _ | refine blk_drew ?_ | refine blk_alloc ?_ _)); refine blk_put (cs := #[.slice Ao12 t334.length co12, .int .i64 t337, .int .i64 0]) ?_ 2 _ rfl; (with_reducible repeat (first | refine blk_drewN ?_ _ | refine blk_drew ?_ | refine blk_alloc ?_ _)); refine blk_put (cs := #[.slice Ao12 t334.length co12, .int .i64 0, .int .i64 0]) ?_ 1 _ rfl; (with_reducible repeat (first | refine blk_drewN ?_ _ | refine blk_drew ?_ | refine blk_alloc ?_ _)); refine blk_put (cs := #[.slice none 0 0, .int .i64 0, .int .i64 0]) ?_ 0 _ rfl; (with_reducible repeat (first | refine blk_drewN ?_ _ | refine blk_drew ?_ | refine blk_alloc ?_ _)); exact BK339.out⟩, ⟨by repeat (first | (with_reducible first | exact HB.out | apply below_alloc | apply pw_below_drewN | apply below_drew1 | refine below_set ?_ GE339.out) | exact HB.out)⟩⟩
          · rw [if_neg c14] at H
            have c14b0 : (t338 == 0) = false := beq_eq_false_iff_ne.mpr c14
            have c14b1 : (t338 != 0) = true := bne_iff_ne.mpr c14
            (first | rw [c14b0] | (simp only [i64_w, i32_w]; rw [c14b0]) | skip)
            have H' := Aside0.mk H
            clear H
            have hcz19_0 : w11.cell? ⟨gb339, 0, none⟩ = some (.slice none 0 0) := (blk_cell BK339.out 0).trans rfl
            have hcz19_1 : w11.cell? ⟨gb339, 1, none⟩ = some (.int .i64 0) := (blk_cell BK339.out 1).trans rfl
            have hcz19_2 : w11.cell? ⟨gb339, 2, none⟩ = some (.int .i64 0) := (blk_cell BK339.out 2).trans rfl
            have hfz19_0 := blk_frozen BK339.out 0
            have hfz19_1 := blk_frozen BK339.out 1
            have hfz19_2 := blk_frozen BK339.out 2
            go_wp2
            go_meet
            case rel => exact ⟨_, (false), (by first | rfl | (simp; done) | (simp [*]; done)), H', ⟨by have := HJ3.out; first | omega | exact Nat.le_refl _⟩, ⟨by (with_reducible repeat (first | apply Kd.R_alloc | apply Kd.R_drewN | apply Kd.R_drew)); exact Kd.R_mono (Kd.R_far (p := ⟨gb339, 2, none⟩) (Kd.R_far (p := ⟨gb339, 1, none⟩) (Kd.R_far (p := ⟨gb339, 0, none⟩) (Kd.R_types HO336.out BK339.out (by decide)) (fun _ hk => hk.2) (.slice Ao12 t334.length co12)) (fun _ hk => hk.2) (.int .i64 t337)) (fun _ hk => hk.2) (.int .i64 t338)) (fun _ hk => trivial)⟩, ⟨by (with_reducible repeat (first | refine blk_drewN ?_ _ | refine blk_drew ?_ | refine blk_alloc ?_ _)); refine blk_put (cs := #[.slice Ao12 t334.length co12, .int .i64 t337, .int .i64 0]) ?_ 2 _ rfl; (with_reducible repeat (first | refine blk_drewN ?_ _ | refine blk_drew ?_ | refine blk_alloc ?_ _)); refine blk_put (cs := #[.slice Ao12 t334.length co12, .int .i64 0, .int .i64 0]) ?_ 1 _ rfl; (with_reducible repeat (first | refine blk_drewN ?_ _ | refine blk_drew ?_ | refine blk_alloc ?_ _)); refine blk_put (cs := #[.slice none 0 0, .int .i64 0, .int .i64 0]) ?_ 0 _ rfl; (with_reducible repeat (first | refine blk_drewN ?_ _ | refine blk_drew ?_ | refine blk_alloc ?_ _)); exact BK339.out⟩, ⟨by repeat (first | (with_reducible first | exact HB.out | apply below_alloc | apply pw_below_drewN | apply below_drew1 | refine below_set ?_ GE339.out) | exact HB.out)⟩⟩
        case rest =>
          clear HC9
          try clear c1
          try clear p2
          try clear p3
          try clear q3
          try clear hx3
          try clear qi3
          try clear c6
          try clear c7
          try clear c10
          try clear c13
          try clear c14
          try clear c14b0
          try clear c14b1
          try clear c15
          try clear c15b0
          try clear c15b1
          try clear c16
          try clear c16b0
          try clear c16b1
          try clear hcz13_0
          try clear hcz13_1
          try clear hcz13_2
          try clear hcz17_0
          try clear hcz17_1
          try clear hcz17_2
          try clear hcz18_0
          try clear hcz18_1
          try clear hcz18_2
          try clear hcz19_0
          try clear hcz19_1
          try clear hcz19_2
          try clear hfz13_0
          try clear hfz13_1
          try clear hfz13_2
          try clear hfz17_0
          try clear hfz17_1
          try clear hfz17_2
          try clear hfz18_0
          try clear hfz18_1
          try clear hfz18_2
          try clear hfz19_0
          try clear hfz19_1
          try clear hfz19_2
          try clear hx340_0
          try clear hx340_1
          try clear hx340_2
          try clear p2
          try clear p340
          try clear q340
          obtain ⟨kq, x7_8, rfl, HA, HJ8, HO_340000, BK339, HB⟩ := hcut
          cases kq with
          | zero => exact absurd HA.out (by simp [wireloomlaw08_LexerKinds.j1])
          | succ kj8 =>
            have H := HA.out
            clear HA
            simp only [wireloomlaw08_LexerKinds.j1] at H
            have HC20 := Aside0.mk H
            clear H
            go_upto_region 6 with (fail)
            go_cut [57] (fun v57 wc => ∃ (kq : Nat) (x57_19 : Bool), v57 = .bool x57_19 ∧ Aside0 (wireloomlaw08_LexerKinds.j2 kq l0 t333 x57_19 = some r) ∧ Aside0 (kq ≤ kj8) ∧ Aside0 (Kd.R k39 39 wc w.heap.size (fun _ => True) (.slice Ao12 t334.length co12) t334) ∧ Aside0 (wc.heap[gb339]? = some (.cells #[(.slice Ao12 t334.length co12), .int .i64 t337, .int .i64 t338] 29 (0, 0))) ∧ Aside0 (Below w.heap.size w wc))
            case first =>
              have H := HC20.out
              clear HC20
              replace H := Option.bind_eq_some_iff.mp H
              obtain ⟨t341, A210, H⟩ := H
              replace H : (if ((t341 != 0) != x7_8) = true then (wireloomlaw08_LexerKinds.j2 kj8 l0 t333 true) else (if x7_8 = true then (if 0 < (t334.length : Int) then ((lexer_Kind.f a1).bind fun t343 => (wireloomlaw08_LexerKinds.j2 kj8 l0 t333 (((rd_T39 t334 0).f0) != t343))) else (none)) else (wireloomlaw08_LexerKinds.j2 kj8 l0 t333 false))) = some r := H
              have A21 := Aside0.mk A210
              clear A210
              by_cases c22 : ((t341 != 0) != x7_8) = true
              · rw [if_pos c22] at H
                have c22b0 : ((t341 != 0) != x7_8) = true := c22
                (try (have c22b1 : decide ((t341 != 0) = x7_8) = false := by simpa using c22))
                (try (have c22b2 : ((t341 != 0) == x7_8) = false := by simpa using c22))
                (try (have c22b3 : ¬ ((t341 != 0) = x7_8) := by simpa using c22))
                clear c22
                (first | rw [c22b0] | (simp only [i64_w, i32_w]; rw [c22b0]) | skip)
                have H' := Aside0.mk H
                clear H
                try go_wp2
                have n0_ := Aside0.mk (Kd.R_drew HO_340000.out)
                have n1_ := Aside0.mk (blk_drew BK339.out)
                have n2_ := Aside0.mk (below_drew1 HB.out)
                clear HO_340000
                clear BK339
                clear HB
                have HO_340000 := n0_
                have BK339 := n1_
                have HB := n2_
                clear n0_ n1_ n2_
                refine start_ (n := 18) (S := fun w' => True) (ds := []) #[false, false, false, false, false, false, false, false, false, false, false, false, false, false, false, false, false, false] (by kernel_rfl) rfl rfl trivial (fun hHeld => ?_); refine with_tabW wireloomlaw08_LexerKinds.tab6 wireloomlaw08_LexerKinds.bits6 (fun HT_ HW_ => ?_)
                generalize wc.drew = w23 at HO_340000 BK339 HB hHeld ⊢
                refine pure_ (i := 0) (N := some 40) (v := ?_) (a' := ?_) #[true, false, false, false, false, false, false, false, false, false, false, false, false, false, false, false, false, false] rfl rfl (any_of HT_.out (by kernel_rfl)) (fun _ _ _ h => h) (Or.inl ⟨by rfl, ?_⟩) ?_ ?_
                rotate_left
                · intro w'
                  go_simp
                  with_reducible rfl
                rotate_left
                · simp only [Act.put, List.setIfInBounds_toArray, List.set_cons_zero, List.set_cons_succ, i64_w, i32_w]
                  rfl
                refine pure_ (i := 3) (N := some 43) (v := ?_) (a' := ?_) #[true, false, false, true, false, false, false, false, false, false, false, false, false, false, false, false, false, false] rfl rfl (any_of HT_.out (by kernel_rfl)) (fun _ _ _ h => h) (Or.inl ⟨by rfl, ?_⟩) ?_ ?_
                rotate_left
                · intro w'
                  go_simp
                  with_reducible rfl
                rotate_left
                · simp only [Act.put, List.setIfInBounds_toArray, List.set_cons_zero, List.set_cons_succ, i64_w, i32_w]
                  rfl
                refine one_ (i := 1) (N := some 41) #[true, true, false, true, false, false, false, false, false, false, false, false, false, false, false, false, false, false] rfl rfl (one_of HT_.out (by kernel_rfl)) (by decide) (fun K hK => ?_)
                refine goes_ Tryd.func16 (by kernel_rfl) rfl #[.string a1] (by rfl) rfl rfl (by (try simp only [List.map_toArray, List.map_cons, List.map_nil]); first | done | rfl | (simp only [List.length_drop, List.length_take]; rfl)) ?_
                with_reducible refine (lexer_Kind.calls a1 t341 _ ?side1 A21.out).mono ?_
                (case side1 => exact GL.below hGL (by repeat (first | (with_reducible first | exact HB.out | apply below_alloc | apply pw_below_drewN | apply below_drew1 | refine below_set ?_ GE339.out) | exact HB.out)))
                rintro e w24 ⟨rfl, hb⟩
                refine ⟨_, rfl, ?_⟩
                have n0_ := Aside0.mk (Kd.R_below (by (with_reducible repeat (first | apply Kd.R_alloc | apply Kd.R_drewN | apply Kd.R_drew)); exact HO_340000.out) hb)
                have n1_ := Aside0.mk (blk_below (g := gb339) (o := .cells #[.slice Ao12 t334.length co12, .int .i64 t337, .int .i64 t338] 29 (0, 0)) (by (with_reducible repeat (first | refine blk_drewN ?_ _ | refine blk_drew ?_ | refine blk_alloc ?_ _)); exact BK339.out) hb)
                have n2_ := Aside0.mk (below_step (by repeat (first | (with_reducible first | exact HB.out | apply below_alloc | apply pw_below_drewN | apply below_drew1 | refine below_set ?_ GE339.out) | exact HB.out)) hb)
                clear HO_340000
                clear BK339
                clear HB
                have HO_340000 := n0_
                have BK339 := n1_
                have HB := n2_
                clear n0_ n1_ n2_
                (try clear hb)
                (try clear hb2)
                (try clear hk)
                (try clear hi)
                (try clear A21)
                refine hK.out _ _ trivial (fun hHeld => ?_)
                clear hK K
                refine norm_ (a' := ?_) ?_ ?_
                rotate_left
                · show Act.put _ (some 41) _ = _
                  simp only [Act.put, List.setIfInBounds_toArray, List.set_cons_zero, List.set_cons_succ, i64_w, i32_w]
                  rfl
                refine pure_ (i := 2) (N := some 42) (v := ?_) (a' := ?_) #[true, true, true, true, false, false, false, false, false, false, false, false, false, false, false, false, false, false] rfl rfl (any_of HT_.out (by kernel_rfl)) (fun _ _ _ h => h) (Or.inl ⟨by rfl, ?_⟩) ?_ ?_
                rotate_left
                · intro w'
                  go_simp
                  with_reducible rfl
                rotate_left
                · simp only [Act.put, List.setIfInBounds_toArray, List.set_cons_zero, List.set_cons_succ, i64_w, i32_w]
                  rfl
                refine pure_ (i := 4) (N := some 44) (v := ?_) (a' := ?_) #[true, true, true, true, true, false, false, false, false, false, false, false, false, false, false, false, false, false] rfl rfl (any_of HT_.out (by kernel_rfl)) (fun _ _ _ h => h) (Or.inl ⟨by rfl, ?_⟩) ?_ ?_
                rotate_left
                · intro w'
                  go_simp
                  with_reducible rfl
                rotate_left
                · simp only [Act.put, List.setIfInBounds_toArray, List.set_cons_zero, List.set_cons_succ, i64_w, i32_w]
                  rfl
                refine pure_ (i := 5) (N := some 45) (v := ?_) (a' := ?_) #[true, true, true, true, true, true, false, false, false, false, false, false, false, false, false, false, false, false] rfl rfl (any_of HT_.out (by kernel_rfl)) (fun _ _ _ h => h) (Or.inl ⟨by rfl, ?_⟩) ?_ ?_
                rotate_left
                · intro w'
                  go_simp
                  with_reducible rfl
                rotate_left
                · simp only [Act.put, List.setIfInBounds_toArray, List.set_cons_zero, List.set_cons_succ, i64_w, i32_w]
                  rfl
                refine pure_ (i := 6) (N := some 46) (v := undef) (a' := ?_) #[true, true, true, true, true, true, true, false, false, false, false, false, false, false, false, false, false, false] rfl rfl (any_of HT_.out (by kernel_rfl)) (fun _ _ _ h => h) (Or.inr ⟨by rfl, rfl⟩) ?_ ?_
                rotate_left
                · simp only [Act.put, List.setIfInBounds_toArray, List.set_cons_zero, List.set_cons_succ, i64_w, i32_w]
                  rfl
                refine pure_ (i := 7) (N := some 47) (v := undef) (a' := ?_) #[true, true, true, true, true, true, true, true, false, false, false, false, false, false, false, false, false, false] rfl rfl (any_of HT_.out (by kernel_rfl)) (fun _ _ _ h => h) (Or.inr ⟨by rfl, rfl⟩) ?_ ?_
                rotate_left
                · simp only [Act.put, List.setIfInBounds_toArray, List.set_cons_zero, List.set_cons_succ, i64_w, i32_w]
                  rfl
                refine pure_ (i := 8) (N := some 48) (v := undef) (a' := ?_) #[true, true, true, true, true, true, true, true, true, false, false, false, false, false, false, false, false, false] rfl rfl (any_of HT_.out (by kernel_rfl)) (fun _ _ _ h => h) (Or.inr ⟨by rfl, rfl⟩) ?_ ?_
                rotate_left
                · simp only [Act.put, List.setIfInBounds_toArray, List.set_cons_zero, List.set_cons_succ, i64_w, i32_w]
                  rfl
                refine pure_ (i := 9) (N := some 49) (v := undef) (a' := ?_) #[true, true, true, true, true, true, true, true, true, true, false, false, false, false, false, false, false, false] rfl rfl (any_of HT_.out (by kernel_rfl)) (fun _ _ _ h => h) (Or.inr ⟨by rfl, rfl⟩) ?_ ?_
                rotate_left
                · simp only [Act.put, List.setIfInBounds_toArray, List.set_cons_zero, List.set_cons_succ, i64_w, i32_w]
                  rfl
                refine pure_ (i := 10) (N := some 50) (v := undef) (a' := ?_) #[true, true, true, true, true, true, true, true, true, true, true, false, false, false, false, false, false, false] rfl rfl (any_of HT_.out (by kernel_rfl)) (fun _ _ _ h => h) (Or.inr ⟨by rfl, rfl⟩) ?_ ?_
                rotate_left
                · simp only [Act.put, List.setIfInBounds_toArray, List.set_cons_zero, List.set_cons_succ, i64_w, i32_w]
                  rfl
                refine pure_ (i := 11) (N := some 51) (v := undef) (a' := ?_) #[true, true, true, true, true, true, true, true, true, true, true, true, false, false, false, false, false, false] rfl rfl (any_of HT_.out (by kernel_rfl)) (fun _ _ _ h => h) (Or.inr ⟨by rfl, rfl⟩) ?_ ?_
                rotate_left
                · simp only [Act.put, List.setIfInBounds_toArray, List.set_cons_zero, List.set_cons_succ, i64_w, i32_w]
                  rfl
                refine pure_ (i := 12) (N := some 52) (v := undef) (a' := ?_) #[true, true, true, true, true, true, true, true, true, true, true, true, true, false, false, false, false, false] rfl rfl (any_of HT_.out (by kernel_rfl)) (fun _ _ _ h => h) (Or.inr ⟨by rfl, rfl⟩) ?_ ?_
                rotate_left
                · simp only [Act.put, List.setIfInBounds_toArray, List.set_cons_zero, List.set_cons_succ, i64_w, i32_w]
                  rfl
                refine pure_ (i := 13) (N := some 53) (v := undef) (a' := ?_) #[true, true, true, true, true, true, true, true, true, true, true, true, true, true, false, false, false, false] rfl rfl (any_of HT_.out (by kernel_rfl)) (fun _ _ _ h => h) (Or.inr ⟨by rfl, rfl⟩) ?_ ?_
                rotate_left
                · simp only [Act.put, List.setIfInBounds_toArray, List.set_cons_zero, List.set_cons_succ, i64_w, i32_w]
                  rfl
                refine pure_ (i := 14) (N := some 54) (v := undef) (a' := ?_) #[true, true, true, true, true, true, true, true, true, true, true, true, true, true, true, false, false, false] rfl rfl (any_of HT_.out (by kernel_rfl)) (fun _ _ _ h => h) (Or.inr ⟨by rfl, rfl⟩) ?_ ?_
                rotate_left
                · simp only [Act.put, List.setIfInBounds_toArray, List.set_cons_zero, List.set_cons_succ, i64_w, i32_w]
                  rfl
                refine pure_ (i := 15) (N := some 55) (v := undef) (a' := ?_) #[true, true, true, true, true, true, true, true, true, true, true, true, true, true, true, true, false, false] rfl rfl (any_of HT_.out (by kernel_rfl)) (fun _ _ _ h => h) (Or.inr ⟨by rfl, rfl⟩) ?_ ?_
                rotate_left
                · simp only [Act.put, List.setIfInBounds_toArray, List.set_cons_zero, List.set_cons_succ, i64_w, i32_w]
                  rfl
                refine pure_ (i := 16) (N := some 56) (v := undef) (a' := ?_) #[true, true, true, true, true, true, true, true, true, true, true, true, true, true, true, true, true, false] rfl rfl (any_of HT_.out (by kernel_rfl)) (fun _ _ _ h => h) (Or.inr ⟨by rfl, rfl⟩) ?_ ?_
                rotate_left
                · simp only [Act.put, List.setIfInBounds_toArray, List.set_cons_zero, List.set_cons_succ, i64_w, i32_w]
                  rfl
                refine pure_ (i := 17) (N := some 57) (v := ?_) (a' := ?_) #[true, true, true, true, true, true, true, true, true, true, true, true, true, true, true, true, true, true] rfl rfl (any_of HT_.out (by kernel_rfl)) (fun _ _ _ h => h) (Or.inl ⟨by rfl, ?_⟩) ?_ ?_
                rotate_left
                · intro w'
                  go_simp
                  with_reducible rfl
                rotate_left
                · simp only [Act.put, List.setIfInBounds_toArray, List.set_cons_zero, List.set_cons_succ, i64_w, i32_w]
                  rfl
                refine done_ (done_of HT_.out (by kernel_rfl)) ?_
                try go_wp2
                go_meet
                case rel => exact ⟨_, (true), (by first | rfl | (simp; done) | (simp [*]; done)), H', ⟨by have := HJ3.out; have := HJ8.out; first | omega | exact Nat.le_refl _⟩, ⟨by (with_reducible repeat (first | apply Kd.R_alloc | apply Kd.R_drewN | apply Kd.R_drew)); exact HO_340000.out⟩, ⟨by (with_reducible repeat (first | refine blk_drewN ?_ _ | refine blk_drew ?_ | refine blk_alloc ?_ _)); exact BK339.out⟩, ⟨by repeat (first | (with_reducible first | exact HB.out | apply below_alloc | apply pw_below_drewN | apply below_drew1 | refine below_set ?_ GE339.out) | exact HB.out)⟩⟩
              · rw [if_neg c22] at H
                have c22b0 : ((t341 != 0) != x7_8) = false := by simpa using c22
                (try (have c22b1 : decide ((t341 != 0) = x7_8) = true := by simpa using c22))
                (try (have c22b2 : ((t341 != 0) == x7_8) = true := by simpa using c22))
                clear c22
                (first | rw [c22b0] | (simp only [i64_w, i32_w]; rw [c22b0]) | skip)
                by_cases c25 : x7_8 = true
                · subst c25
                  have H1 : (if 0 < (t334.length : Int) then ((lexer_Kind.f a1).bind fun t343 => (wireloomlaw08_LexerKinds.j2 kj8 l0 t333 (((rd_T39 t334 0).f0) != t343))) else (none)) = some r := by rw [if_pos rfl] at H; exact H
                  clear H
                  have H := H1
                  clear H1
                  by_cases c26 : 0 < (t334.length : Int)
                  · rw [if_pos c26] at H
                    have c26b0 : decide (0 < (t334.length : Int)) = true := decide_eq_true c26
                    have c26b1 : decide (0 < t334.length) = true := decide_eq_true (by omega)
                    clear c26
                    replace H := Option.bind_eq_some_iff.mp H
                    obtain ⟨t343, A270, H⟩ := H
                    replace H : (wireloomlaw08_LexerKinds.j2 kj8 l0 t333 (((rd_T39 t334 0).f0) != t343)) = some r := H
                    have A27 := Aside0.mk A270
                    clear A270
                    have H' := Aside0.mk H
                    clear H
                    try go_wp2
                    have n0_ := Aside0.mk (Kd.R_drew HO_340000.out)
                    have n1_ := Aside0.mk (blk_drew BK339.out)
                    have n2_ := Aside0.mk (below_drew1 HB.out)
                    clear HO_340000
                    clear BK339
                    clear HB
                    have HO_340000 := n0_
                    have BK339 := n1_
                    have HB := n2_
                    clear n0_ n1_ n2_
                    have p342 : 0 ≤ (0 : Int) := (by omega)
                    have q342 : 0 < (t334.length : Int) := of_decide_eq_true (by first | (with_reducible assumption) | assumption)
                    obtain ⟨ad342, e342, hx342_0, hx342_1, hx342_2⟩ := at_T39 (Kd.R_reads' HO_340000.out).2.2 0 p342 q342
                    cases e342
                    have qi342 : (0 < t334.length) = True := eq_true (by omega)
                    (try rw [show ((0 : Int)).toNat = 0 from rfl] at hx342_0)
                    (try rw [show 0 * 3 = 0 from rfl] at hx342_0)
                    (try rw [Addr.add_zero'] at hx342_0)
                    (try rw [show ((0 : Int)).toNat = 0 from rfl] at hx342_1)
                    (try rw [show 0 * 3 = 0 from rfl] at hx342_1)
                    (try rw [Addr.add_zero'] at hx342_1)
                    (try rw [show ((0 : Int)).toNat = 0 from rfl] at hx342_2)
                    (try rw [show 0 * 3 = 0 from rfl] at hx342_2)
                    (try rw [Addr.add_zero'] at hx342_2)
                    replace p342 := eq_true p342
                    replace q342 := eq_true q342
                    refine start_ (n := 18) (S := fun w' => w'.cell? ⟨gb339, 0, none⟩ = some (.slice (some ad342) t334.length co12) ∧ w'.cell? ⟨gb339, 1, none⟩ = some (.int .i64 t337) ∧ w'.cell? ⟨gb339, 2, none⟩ = some (.int .i64 t338) ∧ w'.cell? ad342 = some (.int .i64 ((rd_T39 t334 0).f0)) ∧ w'.cell? ⟨ad342.block, ad342.off + 1, none⟩ = some (.string ((rd_T39 t334 0).f1)) ∧ w'.cell? ⟨ad342.block, ad342.off + 2, none⟩ = some (.int .i64 ((rd_T39 t334 0).f2))) (ds := []) #[false, false, false, false, false, false, false, false, false, false, false, false, false, false, false, false, false, false] (by kernel_rfl) rfl rfl ⟨(blk_cell BK339.out 0).trans rfl, (blk_cell BK339.out 1).trans rfl, (blk_cell BK339.out 2).trans rfl, hx342_0, hx342_1, hx342_2⟩ (fun hHeld => ?_); refine with_tabW wireloomlaw08_LexerKinds.tab6 wireloomlaw08_LexerKinds.bits6 (fun HT_ HW_ => ?_)
                    generalize wc.drew = w28 at HO_340000 BK339 HB hx342_0 hx342_1 hx342_2 hHeld ⊢
                    refine pure_ (i := 0) (N := some 40) (v := ?_) (a' := ?_) #[true, false, false, false, false, false, false, false, false, false, false, false, false, false, false, false, false, false] rfl rfl (any_of HT_.out (by kernel_rfl)) (fun _ _ _ h => h) (Or.inl ⟨by rfl, ?_⟩) ?_ ?_
                    rotate_left
                    · intro w'
                      go_simp
                      with_reducible rfl
                    rotate_left
                    · simp only [Act.put, List.setIfInBounds_toArray, List.set_cons_zero, List.set_cons_succ, i64_w, i32_w]
                      rfl
                    refine pure_ (i := 3) (N := some 43) (v := ?_) (a' := ?_) #[true, false, false, true, false, false, false, false, false, false, false, false, false, false, false, false, false, false] rfl rfl (any_of HT_.out (by kernel_rfl)) (fun _ _ _ h => h) (Or.inl ⟨by rfl, ?_⟩) ?_ ?_
                    rotate_left
                    · intro w'
                      go_simp
                      with_reducible rfl
                    rotate_left
                    · simp only [Act.put, List.setIfInBounds_toArray, List.set_cons_zero, List.set_cons_succ, i64_w, i32_w]
                      rfl
                    refine one_ (i := 1) (N := some 41) #[true, true, false, true, false, false, false, false, false, false, false, false, false, false, false, false, false, false] rfl rfl (one_of HT_.out (by kernel_rfl)) (by decide) (fun K hK => ?_)
                    refine goes_ Tryd.func16 (by kernel_rfl) rfl #[.string a1] (by rfl) rfl rfl (by (try simp only [List.map_toArray, List.map_cons, List.map_nil]); first | done | rfl | (simp only [List.length_drop, List.length_take]; rfl)) ?_
                    with_reducible refine (lexer_Kind.calls a1 t341 _ ?side1 A21.out).mono ?_
                    (case side1 => exact GL.below hGL (by repeat (first | (with_reducible first | exact HB.out | apply below_alloc | apply pw_below_drewN | apply below_drew1 | refine below_set ?_ GE339.out) | exact HB.out)))
                    rintro e w29 ⟨rfl, hb⟩
                    have HS3_ := (hb.cell (World.block_lt_of_cell? _ _ (hHeld.2.2.2.1))).trans (hHeld.2.2.2.1)
                    have HS4_ := (hb.cell (World.block_lt_of_cell? _ _ (hHeld.2.2.2.2.1))).trans (hHeld.2.2.2.2.1)
                    have HS5_ := (hb.cell (World.block_lt_of_cell? _ _ (hHeld.2.2.2.2.2))).trans (hHeld.2.2.2.2.2)
                    refine ⟨_, rfl, ?_⟩
                    have n0_ := Aside0.mk (Kd.R_below (by (with_reducible repeat (first | apply Kd.R_alloc | apply Kd.R_drewN | apply Kd.R_drew)); exact HO_340000.out) hb)
                    have n1_ := Aside0.mk (blk_below (g := gb339) (o := .cells #[.slice (some ad342) t334.length co12, .int .i64 t337, .int .i64 t338] 29 (0, 0)) (by (with_reducible repeat (first | refine blk_drewN ?_ _ | refine blk_drew ?_ | refine blk_alloc ?_ _)); exact BK339.out) hb)
                    have n2_ := Aside0.mk (below_step (by repeat (first | (with_reducible first | exact HB.out | apply below_alloc | apply pw_below_drewN | apply below_drew1 | refine below_set ?_ GE339.out) | exact HB.out)) hb)
                    clear HO_340000
                    clear BK339
                    clear HB
                    have HO_340000 := n0_
                    have BK339 := n1_
                    have HB := n2_
                    clear n0_ n1_ n2_
                    (try clear hb)
                    (try clear hb2)
                    (try clear hk)
                    (try clear hi)
                    (try clear A21)
                    refine hK.out _ _ ⟨(blk_cell BK339.out 0).trans rfl, (blk_cell BK339.out 1).trans rfl, (blk_cell BK339.out 2).trans rfl, HS3_, HS4_, HS5_⟩ (fun hHeld => ?_)
                    clear hK K
                    refine norm_ (a' := ?_) ?_ ?_
                    rotate_left
                    · show Act.put _ (some 41) _ = _
                      simp only [Act.put, List.setIfInBounds_toArray, List.set_cons_zero, List.set_cons_succ, i64_w, i32_w]
                      rfl
                    refine pure_ (i := 2) (N := some 42) (v := ?_) (a' := ?_) #[true, true, true, true, false, false, false, false, false, false, false, false, false, false, false, false, false, false] rfl rfl (any_of HT_.out (by kernel_rfl)) (fun _ _ _ h => h) (Or.inl ⟨by rfl, ?_⟩) ?_ ?_
                    rotate_left
                    · intro w'
                      go_simp
                      with_reducible rfl
                    rotate_left
                    · simp only [Act.put, List.setIfInBounds_toArray, List.set_cons_zero, List.set_cons_succ, i64_w, i32_w]
                      rfl
                    refine pure_ (i := 4) (N := some 44) (v := ?_) (a' := ?_) #[true, true, true, true, true, false, false, false, false, false, false, false, false, false, false, false, false, false] rfl rfl (any_of HT_.out (by kernel_rfl)) (fun _ _ _ h => h) (Or.inl ⟨by rfl, ?_⟩) ?_ ?_
                    rotate_left
                    · intro w'
                      go_simp
                      with_reducible rfl
                    rotate_left
                    · simp only [Act.put, List.setIfInBounds_toArray, List.set_cons_zero, List.set_cons_succ, i64_w, i32_w]
                      rfl
                    refine pure_ (i := 5) (N := some 45) (v := ?_) (a' := ?_) #[true, true, true, true, true, true, false, false, false, false, false, false, false, false, false, false, false, false] rfl rfl (any_of HT_.out (by kernel_rfl)) (fun _ _ _ h => h) (Or.inl ⟨by rfl, ?_⟩) ?_ ?_
                    rotate_left
                    · intro w'
                      go_simp
                      with_reducible rfl
                    rotate_left
                    · simp only [Act.put, List.setIfInBounds_toArray, List.set_cons_zero, List.set_cons_succ, i64_w, i32_w]
                      rfl
                    refine pure_ (i := 6) (N := some 46) (v := ?_) (a' := ?_) #[true, true, true, true, true, true, true, false, false, false, false, false, false, false, false, false, false, false] rfl rfl (any_of HT_.out (by kernel_rfl)) (fun _ _ _ h => h) (Or.inl ⟨by rfl, ?_⟩) ?_ ?_
                    rotate_left
                    · intro w'
                      go_simp
                      with_reducible rfl
                    rotate_left
                    · simp only [Act.put, List.setIfInBounds_toArray, List.set_cons_zero, List.set_cons_succ, i64_w, i32_w]
                      rfl
                    refine pure_ (i := 7) (N := some 47) (v := ?_) (a' := ?_) #[true, true, true, true, true, true, true, true, false, false, false, false, false, false, false, false, false, false] rfl rfl (any_of HT_.out (by kernel_rfl)) (fun _ _ _ h => h) (Or.inl ⟨by rfl, ?_⟩) ?_ ?_
                    rotate_left
                    · intro w'
                      go_simp
                      with_reducible rfl
                    rotate_left
                    · simp only [Act.put, List.setIfInBounds_toArray, List.set_cons_zero, List.set_cons_succ, i64_w, i32_w]
                      rfl
                    refine pure_ (i := 8) (N := some 48) (v := ?_) (a' := ?_) #[true, true, true, true, true, true, true, true, true, false, false, false, false, false, false, false, false, false] rfl rfl (any_of HT_.out (by kernel_rfl)) (fun _ _ _ h => h) (Or.inl ⟨by rfl, ?_⟩) ?_ ?_
                    rotate_left
                    · intro w'
                      go_simp
                      with_reducible rfl
                    rotate_left
                    · simp only [Act.put, List.setIfInBounds_toArray, List.set_cons_zero, List.set_cons_succ, i64_w, i32_w]
                      rfl
                    refine pure_ (i := 13) (N := some 53) (v := ?_) (a' := ?_) #[true, true, true, true, true, true, true, true, true, false, false, false, false, true, false, false, false, false] rfl rfl (any_of HT_.out (by kernel_rfl)) (fun _ _ _ h => h) (Or.inl ⟨by rfl, ?_⟩) ?_ ?_
                    rotate_left
                    · intro w'
                      go_simp
                      with_reducible rfl
                    rotate_left
                    · simp only [Act.put, List.setIfInBounds_toArray, List.set_cons_zero, List.set_cons_succ, i64_w, i32_w]
                      rfl
                    refine take_ (i := 9) (N := some 49) (v := ?_) (a' := ?_) #[true, true, true, true, true, true, true, true, true, true, false, false, false, true, false, false, false, false] rfl rfl (take_ofW HT_.out HW_.out (by kernel_rfl)) (fun _ _ _ h => h) (Or.inl ⟨by rfl, ?_⟩) hHeld ?_ ?_
                    rotate_left
                    · rintro w' ⟨s0, s1, s2, s3, s4, s5⟩
                      go_simp
                      with_reducible rfl
                    rotate_left
                    · simp only [Act.put, List.setIfInBounds_toArray, List.set_cons_zero, List.set_cons_succ, i64_w, i32_w]
                      rfl
                    refine pure_ (i := 10) (N := some 50) (v := ?_) (a' := ?_) #[true, true, true, true, true, true, true, true, true, true, true, false, false, true, false, false, false, false] rfl rfl (any_of HT_.out (by kernel_rfl)) (fun _ _ _ h => h) (Or.inl ⟨by rfl, ?_⟩) ?_ ?_
                    rotate_left
                    · intro w'
                      go_simp
                      with_reducible rfl
                    rotate_left
                    · simp only [Act.put, List.setIfInBounds_toArray, List.set_cons_zero, List.set_cons_succ, i64_w, i32_w]
                      rfl
                    refine pure_ (i := 11) (N := some 51) (v := ?_) (a' := ?_) #[true, true, true, true, true, true, true, true, true, true, true, true, false, true, false, false, false, false] rfl rfl (any_of HT_.out (by kernel_rfl)) (fun _ _ _ h => h) (Or.inl ⟨by rfl, ?_⟩) ?_ ?_
                    rotate_left
                    · intro w'
                      go_simp
                      with_reducible rfl
                    rotate_left
                    · simp only [Act.put, List.setIfInBounds_toArray, List.set_cons_zero, List.set_cons_succ, i64_w, i32_w]
                      rfl
                    refine take_ (i := 12) (N := some 52) (v := ?_) (a' := ?_) #[true, true, true, true, true, true, true, true, true, true, true, true, true, true, false, false, false, false] rfl rfl (take_ofW HT_.out HW_.out (by kernel_rfl)) (fun _ _ _ h => h) (Or.inl ⟨by rfl, ?_⟩) hHeld ?_ ?_
                    rotate_left
                    · rintro w' ⟨s0, s1, s2, s3, s4, s5⟩
                      go_simp
                      with_reducible rfl
                    rotate_left
                    · simp only [Act.put, List.setIfInBounds_toArray, List.set_cons_zero, List.set_cons_succ, i64_w, i32_w]
                      rfl
                    refine one_ (i := 14) (N := some 54) #[true, true, true, true, true, true, true, true, true, true, true, true, true, true, true, false, false, false] rfl rfl (one_of HT_.out (by kernel_rfl)) (by decide) (fun K hK => ?_)
                    refine goes_ Tryd.func16 (by kernel_rfl) rfl #[.string a1] (by rfl) rfl rfl (by (try simp only [List.map_toArray, List.map_cons, List.map_nil]); first | done | rfl | (simp only [List.length_drop, List.length_take]; rfl)) ?_
                    with_reducible refine (lexer_Kind.calls a1 t343 _ ?side1 A27.out).mono ?_
                    (case side1 => exact GL.below hGL (by repeat (first | (with_reducible first | exact HB.out | apply below_alloc | apply pw_below_drewN | apply below_drew1 | refine below_set ?_ GE339.out) | exact HB.out)))
                    rintro e w30 ⟨rfl, hb⟩
                    have HS3_ := (hb.cell (World.block_lt_of_cell? _ _ (hHeld.2.2.2.1))).trans (hHeld.2.2.2.1)
                    have HS4_ := (hb.cell (World.block_lt_of_cell? _ _ (hHeld.2.2.2.2.1))).trans (hHeld.2.2.2.2.1)
                    have HS5_ := (hb.cell (World.block_lt_of_cell? _ _ (hHeld.2.2.2.2.2))).trans (hHeld.2.2.2.2.2)
                    refine ⟨_, rfl, ?_⟩
                    have n0_ := Aside0.mk (Kd.R_below (by (with_reducible repeat (first | apply Kd.R_alloc | apply Kd.R_drewN | apply Kd.R_drew)); exact HO_340000.out) hb)
                    have n1_ := Aside0.mk (blk_below (g := gb339) (o := .cells #[.slice (some ad342) t334.length co12, .int .i64 t337, .int .i64 t338] 29 (0, 0)) (by (with_reducible repeat (first | refine blk_drewN ?_ _ | refine blk_drew ?_ | refine blk_alloc ?_ _)); exact BK339.out) hb)
                    have n2_ := Aside0.mk (below_step (by repeat (first | (with_reducible first | exact HB.out | apply below_alloc | apply pw_below_drewN | apply below_drew1 | refine below_set ?_ GE339.out) | exact HB.out)) hb)
                    clear HO_340000
                    clear BK339
                    clear HB
                    have HO_340000 := n0_
                    have BK339 := n1_
                    have HB := n2_
                    clear n0_ n1_ n2_
                    (try clear hb)
                    (try clear hb2)
                    (try clear hk)
                    (try clear hi)
                    (try clear A27)
                    refine hK.out _ _ ⟨(blk_cell BK339.out 0).trans rfl, (blk_cell BK339.out 1).trans rfl, (blk_cell BK339.out 2).trans rfl, HS3_, HS4_, HS5_⟩ (fun hHeld => ?_)
                    clear hK K
                    refine norm_ (a' := ?_) ?_ ?_
                    rotate_left
                    · show Act.put _ (some 54) _ = _
                      simp only [Act.put, List.setIfInBounds_toArray, List.set_cons_zero, List.set_cons_succ, i64_w, i32_w]
                      rfl
                    refine pure_ (i := 15) (N := some 55) (v := ?_) (a' := ?_) #[true, true, true, true, true, true, true, true, true, true, true, true, true, true, true, true, false, false] rfl rfl (any_of HT_.out (by kernel_rfl)) (fun _ _ _ h => h) (Or.inl ⟨by rfl, ?_⟩) ?_ ?_
                    rotate_left
                    · intro w'
                      go_simp
                      with_reducible rfl
                    rotate_left
                    · simp only [Act.put, List.setIfInBounds_toArray, List.set_cons_zero, List.set_cons_succ, i64_w, i32_w]
                      rfl
                    refine pure_ (i := 16) (N := some 56) (v := ?_) (a' := ?_) #[true, true, true, true, true, true, true, true, true, true, true, true, true, true, true, true, true, false] rfl rfl (any_of HT_.out (by kernel_rfl)) (fun _ _ _ h => h) (Or.inl ⟨by rfl, ?_⟩) ?_ ?_
                    rotate_left
                    · intro w'
                      go_simp
                      with_reducible rfl
                    rotate_left
                    · simp only [Act.put, List.setIfInBounds_toArray, List.set_cons_zero, List.set_cons_succ, i64_w, i32_w]
                      rfl
                    refine pure_ (i := 17) (N := some 57) (v := ?_) (a' := ?_) #[true, true, true, true, true, true, true, true, true, true, true, true, true, true, true, true, true, true] rfl rfl (any_of HT_.out (by kernel_rfl)) (fun _ _ _ h => h) (Or.inl ⟨by rfl, ?_⟩) ?_ ?_
                    rotate_left
                    · intro w'
                      go_simp
                      with_reducible rfl
                    rotate_left
                    · simp only [Act.put, List.setIfInBounds_toArray, List.set_cons_zero, List.set_cons_succ, i64_w, i32_w]
                      rfl
                    refine done_ (done_of HT_.out (by kernel_rfl)) ?_
                    try go_wp2
                    go_meet
                    case rel => exact ⟨_, ((((rd_T39 t334 0).f0) != t343)), (by first | rfl | (simp; done) | (simp [*]; done)), H', ⟨by have := HJ3.out; have := HJ8.out; first | omega | exact Nat.le_refl _⟩, ⟨by (with_reducible repeat (first | apply Kd.R_alloc | apply Kd.R_drewN | apply Kd.R_drew)); exact HO_340000.out⟩, ⟨by (with_reducible repeat (first | refine blk_drewN ?_ _ | refine blk_drew ?_ | refine blk_alloc ?_ _)); exact BK339.out⟩, ⟨by repeat (first | (with_reducible first | exact HB.out | apply below_alloc | apply pw_below_drewN | apply below_drew1 | refine below_set ?_ GE339.out) | exact HB.out)⟩⟩
                  · rw [if_neg c26] at H
                    exact absurd H (by simp)
                · replace c25 := Bool.eq_false_iff.mpr c25
                  subst c25
                  have H1 : (wireloomlaw08_LexerKinds.j2 kj8 l0 t333 false) = some r := by rw [if_neg (show ¬ (false = true) by decide)] at H; exact H
                  clear H
                  have H := H1
                  clear H1
                  have H' := Aside0.mk H
                  clear H
                  try go_wp2
                  have n0_ := Aside0.mk (Kd.R_drew HO_340000.out)
                  have n1_ := Aside0.mk (blk_drew BK339.out)
                  have n2_ := Aside0.mk (below_drew1 HB.out)
                  clear HO_340000
                  clear BK339
                  clear HB
                  have HO_340000 := n0_
                  have BK339 := n1_
                  have HB := n2_
                  clear n0_ n1_ n2_
                  refine start_ (n := 18) (S := fun w' => True) (ds := []) #[false, false, false, false, false, false, false, false, false, false, false, false, false, false, false, false, false, false] (by kernel_rfl) rfl rfl trivial (fun hHeld => ?_); refine with_tabW wireloomlaw08_LexerKinds.tab6 wireloomlaw08_LexerKinds.bits6 (fun HT_ HW_ => ?_)
                  generalize wc.drew = w31 at HO_340000 BK339 HB hHeld ⊢
                  refine pure_ (i := 0) (N := some 40) (v := ?_) (a' := ?_) #[true, false, false, false, false, false, false, false, false, false, false, false, false, false, false, false, false, false] rfl rfl (any_of HT_.out (by kernel_rfl)) (fun _ _ _ h => h) (Or.inl ⟨by rfl, ?_⟩) ?_ ?_
                  rotate_left
                  · intro w'
                    go_simp
                    with_reducible rfl
                  rotate_left
                  · simp only [Act.put, List.setIfInBounds_toArray, List.set_cons_zero, List.set_cons_succ, i64_w, i32_w]
                    rfl
                  refine pure_ (i := 3) (N := some 43) (v := ?_) (a' := ?_) #[true, false, false, true, false, false, false, false, false, false, false, false, false, false, false, false, false, false] rfl rfl (any_of HT_.out (by kernel_rfl)) (fun _ _ _ h => h) (Or.inl ⟨by rfl, ?_⟩) ?_ ?_
                  rotate_left
                  · intro w'
                    go_simp
                    with_reducible rfl
                  rotate_left
                  · simp only [Act.put, List.setIfInBounds_toArray, List.set_cons_zero, List.set_cons_succ, i64_w, i32_w]
                    rfl
                  refine one_ (i := 1) (N := some 41) #[true, true, false, true, false, false, false, false, false, false, false, false, false, false, false, false, false, false] rfl rfl (one_of HT_.out (by kernel_rfl)) (by decide) (fun K hK => ?_)
                  refine goes_ Tryd.func16 (by kernel_rfl) rfl #[.string a1] (by rfl) rfl rfl (by (try simp only [List.map_toArray, List.map_cons, List.map_nil]); first | done | rfl | (simp only [List.length_drop, List.length_take]; rfl)) ?_
                  with_reducible refine (lexer_Kind.calls a1 t341 _ ?side1 A21.out).mono ?_
                  (case side1 => exact GL.below hGL (by repeat (first | (with_reducible first | exact HB.out | apply below_alloc | apply pw_below_drewN | apply below_drew1 | refine below_set ?_ GE339.out) | exact HB.out)))
                  rintro e w32 ⟨rfl, hb⟩
                  refine ⟨_, rfl, ?_⟩
                  have n0_ := Aside0.mk (Kd.R_below (by (with_reducible repeat (first | apply Kd.R_alloc | apply Kd.R_drewN | apply Kd.R_drew)); exact HO_340000.out) hb)
                  have n1_ := Aside0.mk (blk_below (g := gb339) (o := .cells #[.slice Ao12 t334.length co12, .int .i64 t337, .int .i64 t338] 29 (0, 0)) (by (with_reducible repeat (first | refine blk_drewN ?_ _ | refine blk_drew ?_ | refine blk_alloc ?_ _)); exact BK339.out) hb)
                  have n2_ := Aside0.mk (below_step (by repeat (first | (with_reducible first | exact HB.out | apply below_alloc | apply pw_below_drewN | apply below_drew1 | refine below_set ?_ GE339.out) | exact HB.out)) hb)
                  clear HO_340000
                  clear BK339
                  clear HB
                  have HO_340000 := n0_
                  have BK339 := n1_
                  have HB := n2_
                  clear n0_ n1_ n2_
                  (try clear hb)
                  (try clear hb2)
                  (try clear hk)
                  (try clear hi)
                  (try clear A21)
                  refine hK.out _ _ trivial (fun hHeld => ?_)
                  clear hK K
                  refine norm_ (a' := ?_) ?_ ?_
                  rotate_left
                  · show Act.put _ (some 41) _ = _
                    simp only [Act.put, List.setIfInBounds_toArray, List.set_cons_zero, List.set_cons_succ, i64_w, i32_w]
                    rfl
                  refine pure_ (i := 2) (N := some 42) (v := ?_) (a' := ?_) #[true, true, true, true, false, false, false, false, false, false, false, false, false, false, false, false, false, false] rfl rfl (any_of HT_.out (by kernel_rfl)) (fun _ _ _ h => h) (Or.inl ⟨by rfl, ?_⟩) ?_ ?_
                  rotate_left
                  · intro w'
                    go_simp
                    with_reducible rfl
                  rotate_left
                  · simp only [Act.put, List.setIfInBounds_toArray, List.set_cons_zero, List.set_cons_succ, i64_w, i32_w]
                    rfl
                  refine pure_ (i := 4) (N := some 44) (v := ?_) (a' := ?_) #[true, true, true, true, true, false, false, false, false, false, false, false, false, false, false, false, false, false] rfl rfl (any_of HT_.out (by kernel_rfl)) (fun _ _ _ h => h) (Or.inl ⟨by rfl, ?_⟩) ?_ ?_
                  rotate_left
                  · intro w'
                    go_simp
                    with_reducible rfl
                  rotate_left
                  · simp only [Act.put, List.setIfInBounds_toArray, List.set_cons_zero, List.set_cons_succ, i64_w, i32_w]
                    rfl
                  refine pure_ (i := 5) (N := some 45) (v := ?_) (a' := ?_) #[true, true, true, true, true, true, false, false, false, false, false, false, false, false, false, false, false, false] rfl rfl (any_of HT_.out (by kernel_rfl)) (fun _ _ _ h => h) (Or.inl ⟨by rfl, ?_⟩) ?_ ?_
                  rotate_left
                  · intro w'
                    go_simp
                    with_reducible rfl
                  rotate_left
                  · simp only [Act.put, List.setIfInBounds_toArray, List.set_cons_zero, List.set_cons_succ, i64_w, i32_w]
                    rfl
                  refine pure_ (i := 6) (N := some 46) (v := ?_) (a' := ?_) #[true, true, true, true, true, true, true, false, false, false, false, false, false, false, false, false, false, false] rfl rfl (any_of HT_.out (by kernel_rfl)) (fun _ _ _ h => h) (Or.inl ⟨by rfl, ?_⟩) ?_ ?_
                  rotate_left
                  · intro w'
                    go_simp
                    with_reducible rfl
                  rotate_left
                  · simp only [Act.put, List.setIfInBounds_toArray, List.set_cons_zero, List.set_cons_succ, i64_w, i32_w]
                    rfl
                  refine pure_ (i := 7) (N := some 47) (v := ?_) (a' := ?_) #[true, true, true, true, true, true, true, true, false, false, false, false, false, false, false, false, false, false] rfl rfl (any_of HT_.out (by kernel_rfl)) (fun _ _ _ h => h) (Or.inl ⟨by rfl, ?_⟩) ?_ ?_
                  rotate_left
                  · intro w'
                    go_simp
                    with_reducible rfl
                  rotate_left
                  · simp only [Act.put, List.setIfInBounds_toArray, List.set_cons_zero, List.set_cons_succ, i64_w, i32_w]
                    rfl
                  refine pure_ (i := 8) (N := some 48) (v := undef) (a' := ?_) #[true, true, true, true, true, true, true, true, true, false, false, false, false, false, false, false, false, false] rfl rfl (any_of HT_.out (by kernel_rfl)) (fun _ _ _ h => h) (Or.inr ⟨by rfl, rfl⟩) ?_ ?_
                  rotate_left
                  · simp only [Act.put, List.setIfInBounds_toArray, List.set_cons_zero, List.set_cons_succ, i64_w, i32_w]
                    rfl
                  refine pure_ (i := 9) (N := some 49) (v := undef) (a' := ?_) #[true, true, true, true, true, true, true, true, true, true, false, false, false, false, false, false, false, false] rfl rfl (any_of HT_.out (by kernel_rfl)) (fun _ _ _ h => h) (Or.inr ⟨by rfl, rfl⟩) ?_ ?_
                  rotate_left
                  · simp only [Act.put, List.setIfInBounds_toArray, List.set_cons_zero, List.set_cons_succ, i64_w, i32_w]
                    rfl
                  refine pure_ (i := 10) (N := some 50) (v := undef) (a' := ?_) #[true, true, true, true, true, true, true, true, true, true, true, false, false, false, false, false, false, false] rfl rfl (any_of HT_.out (by kernel_rfl)) (fun _ _ _ h => h) (Or.inr ⟨by rfl, rfl⟩) ?_ ?_
                  rotate_left
                  · simp only [Act.put, List.setIfInBounds_toArray, List.set_cons_zero, List.set_cons_succ, i64_w, i32_w]
                    rfl
                  refine pure_ (i := 11) (N := some 51) (v := undef) (a' := ?_) #[true, true, true, true, true, true, true, true, true, true, true, true, false, false, false, false, false, false] rfl rfl (any_of HT_.out (by kernel_rfl)) (fun _ _ _ h => h) (Or.inr ⟨by rfl, rfl⟩) ?_ ?_
                  rotate_left
                  · simp only [Act.put, List.setIfInBounds_toArray, List.set_cons_zero, List.set_cons_succ, i64_w, i32_w]
                    rfl
                  refine pure_ (i := 12) (N := some 52) (v := undef) (a' := ?_) #[true, true, true, true, true, true, true, true, true, true, true, true, true, false, false, false, false, false] rfl rfl (any_of HT_.out (by kernel_rfl)) (fun _ _ _ h => h) (Or.inr ⟨by rfl, rfl⟩) ?_ ?_
                  rotate_left
                  · simp only [Act.put, List.setIfInBounds_toArray, List.set_cons_zero, List.set_cons_succ, i64_w, i32_w]
                    rfl
                  refine pure_ (i := 13) (N := some 53) (v := undef) (a' := ?_) #[true, true, true, true, true, true, true, true, true, true, true, true, true, true, false, false, false, false] rfl rfl (any_of HT_.out (by kernel_rfl)) (fun _ _ _ h => h) (Or.inr ⟨by rfl, rfl⟩) ?_ ?_
                  rotate_left
                  · simp only [Act.put, List.setIfInBounds_toArray, List.set_cons_zero, List.set_cons_succ, i64_w, i32_w]
                    rfl
                  refine pure_ (i := 14) (N := some 54) (v := undef) (a' := ?_) #[true, true, true, true, true, true, true, true, true, true, true, true, true, true, true, false, false, false] rfl rfl (any_of HT_.out (by kernel_rfl)) (fun _ _ _ h => h) (Or.inr ⟨by rfl, rfl⟩) ?_ ?_
                  rotate_left
                  · simp only [Act.put, List.setIfInBounds_toArray, List.set_cons_zero, List.set_cons_succ, i64_w, i32_w]
                    rfl
                  refine pure_ (i := 15) (N := some 55) (v := undef) (a' := ?_) #[true, true, true, true, true, true, true, true, true, true, true, true, true, true, true, true, false, false] rfl rfl (any_of HT_.out (by kernel_rfl)) (fun _ _ _ h => h) (Or.inr ⟨by rfl, rfl⟩) ?_ ?_
                  rotate_left
                  · simp only [Act.put, List.setIfInBounds_toArray, List.set_cons_zero, List.set_cons_succ, i64_w, i32_w]
                    rfl
                  refine pure_ (i := 16) (N := some 56) (v := ?_) (a' := ?_) #[true, true, true, true, true, true, true, true, true, true, true, true, true, true, true, true, true, false] rfl rfl (any_of HT_.out (by kernel_rfl)) (fun _ _ _ h => h) (Or.inl ⟨by rfl, ?_⟩) ?_ ?_
                  rotate_left
                  · intro w'
                    go_simp
                    with_reducible rfl
                  rotate_left
                  · simp only [Act.put, List.setIfInBounds_toArray, List.set_cons_zero, List.set_cons_succ, i64_w, i32_w]
                    rfl
                  refine pure_ (i := 17) (N := some 57) (v := ?_) (a' := ?_) #[true, true, true, true, true, true, true, true, true, true, true, true, true, true, true, true, true, true] rfl rfl (any_of HT_.out (by kernel_rfl)) (fun _ _ _ h => h) (Or.inl ⟨by rfl, ?_⟩) ?_ ?_
                  rotate_left
                  · intro w'
                    go_simp
                    with_reducible rfl
                  rotate_left
                  · simp only [Act.put, List.setIfInBounds_toArray, List.set_cons_zero, List.set_cons_succ, i64_w, i32_w]
                    rfl
                  refine done_ (done_of HT_.out (by kernel_rfl)) ?_
                  try go_wp2
                  go_meet
                  case rel => exact ⟨_, (false), (by first | rfl | (simp; done) | (simp [*]; done)), H', ⟨by have := HJ3.out; have := HJ8.out; first | omega | exact Nat.le_refl _⟩, ⟨by (with_reducible repeat (first | apply Kd.R_alloc | apply Kd.R_drewN | apply Kd.R_drew)); exact HO_340000.out⟩, ⟨by (with_reducible repeat (first | refine blk_drewN ?_ _ | refine blk_drew ?_ | refine blk_alloc ?_ _)); exact BK339.out⟩, ⟨by repeat (first | (with_reducible first | exact HB.out | apply below_alloc | apply pw_below_drewN | apply below_drew1 | refine below_set ?_ GE339.out) | exact HB.out)⟩⟩
            case rest =>
              clear HC20
              try clear c1
              try clear c2
              try clear p2
              try clear p3
              try clear q3
              try clear hx3
              try clear qi3
              try clear c16
              try clear c22
              try clear c22b0
              try clear c22b1
              try clear c22b2
              try clear c25
              try clear c26
              try clear c26b0
              try clear c26b1
              try clear hcz17_1
              try clear hcz17_2
              try clear hcz18_0
              try clear hcz18_1
              try clear hcz18_2
              try clear hcz19_0
              try clear hcz19_1
              try clear hcz19_2
              try clear hfz13_0
              try clear hfz13_1
              try clear hfz13_2
              try clear hfz17_0
              try clear hfz17_1
              try clear hfz17_2
              try clear hfz18_0
              try clear hfz18_1
              try clear hfz18_2
              try clear hfz19_0
              try clear hfz19_1
              try clear hfz19_2
              try clear hx340_0
              try clear hx340_1
              try clear hx340_2
              try clear hx342_0
              try clear hx342_1
              try clear hx342_2
              try clear p2
              try clear p340
              try clear p342
              try clear q340
              try clear q342
              obtain ⟨kq, x57_19, rfl, HA, HJ19, HO_340000, BK339, HB⟩ := hcut
              cases kq with
              | zero => exact absurd HA.out (by simp [wireloomlaw08_LexerKinds.j2])
              | succ kj19 =>
                have H := HA.out
                clear HA
                simp only [wireloomlaw08_LexerKinds.j2] at H
                by_cases c33 : x57_19 = true
                · subst c33
                  have H1 : (some false) = some r := by rw [if_pos rfl] at H; exact H
                  clear H
                  have H := H1
                  clear H1
                  obtain rfl := Option.some.inj H
                  go_wp2
                  go_ret
                  exact ⟨by first | rfl | (simp [errW_none, errW_some] <;> rfl) | (simp [*, errW_none, errW_some] <;> rfl), by repeat (first | (with_reducible first | exact HB.out | apply below_alloc | apply pw_below_drewN | apply below_drew1 | refine below_set ?_ GE339.out) | exact HB.out)⟩
                · replace c33 := Bool.eq_false_iff.mpr c33
                  subst c33
                  have H1 : ((wireloomref08_Clean.f kj19 l0).bind fun t344 => ((wireloomlaw08_lexed.f t344).bind fun bt345 => (wireloomlaw08_LexerKinds.l0 kj19 t333 0 bt345.1 bt345.2.1 bt345.2.2))) = some r := by rw [if_neg (show ¬ (false = true) by decide)] at H; exact H
                  clear H
                  have H := H1
                  clear H1
                  replace H := Option.bind_eq_some_iff.mp H
                  obtain ⟨t344, A340, H⟩ := H
                  replace H : ((wireloomlaw08_lexed.f t344).bind fun bt345 => (wireloomlaw08_LexerKinds.l0 kj19 t333 0 bt345.1 bt345.2.1 bt345.2.2)) = some r := H
                  have A34 := Aside0.mk A340
                  clear A340
                  replace H := Option.bind_eq_some_iff.mp H
                  obtain ⟨⟨t345, t348, t349⟩, A350, H⟩ := H
                  replace H : (wireloomlaw08_LexerKinds.l0 kj19 t333 0 t345 t348 t349) = some r := H
                  have A35 := Aside0.mk A350
                  clear A350
                  have H' := Aside0.mk H
                  clear H
                  go_wp2_with (first | ((with_reducible refine gate_callee (f := 12) rfl ?_); refine goesL_ (some 59) rfl rfl Tryd.func12 (by kernel_rfl) rfl #[.slice A0 l0.length c0] rfl (by (try simp only [List.map_toArray, List.map_cons, List.map_nil]); first | done | rfl | (simp only [List.length_drop, List.length_take]; rfl)) ?_; (with_reducible refine (wireloomref08_Clean.calls kj19 _ _ l0 t344 _ ?side1 ?side2 A34.out).mono ?_); (case side1 => repeat (first | exact (Kd.C_below HR0.out HB.out) | (with_reducible refine Kd.C_alloc ?_ _) | (with_reducible refine Kd.C_drewN ?_ _) | (with_reducible refine Kd.C_drew ?_))); (case side2 => exact HC0.out); rintro e w36 ⟨rfl, hb⟩; refine ⟨_, rfl, ?_⟩; have n0_ := Aside0.mk (Kd.R_below (by (with_reducible repeat (first | apply Kd.R_alloc | apply Kd.R_drewN | apply Kd.R_drew)); exact HO_340000.out) hb); have n1_ := Aside0.mk (blk_below (g := gb339) (o := .cells #[.slice Ao12 t334.length co12, .int .i64 t337, .int .i64 t338] 29 (0, 0)) (by (with_reducible repeat (first | refine blk_drewN ?_ _ | refine blk_drew ?_ | refine blk_alloc ?_ _)); exact BK339.out) hb); have n2_ := Aside0.mk (below_step (by repeat (first | (with_reducible first | exact HB.out | apply below_alloc | apply pw_below_drewN | apply below_drew1 | refine below_set ?_ GE339.out) | exact HB.out)) hb); clear HO_340000; clear BK339; clear HB; have HO_340000 := n0_; have BK339 := n1_; have HB := n2_; clear n0_ n1_ n2_; (try clear hb); (try clear hb2); (try clear hk); (try clear hi); (try clear A34)) | ((with_reducible refine gate_callee (f := 13) rfl ?_); refine goesL_ (some 60) rfl rfl Tryd.func13 (by kernel_rfl) rfl #[.string t344] rfl (by (try simp only [List.map_toArray, List.map_cons, List.map_nil]); first | done | rfl | (simp only [List.length_drop, List.length_take]; rfl)) ?_; (with_reducible refine (wireloomlaw08_lexed.calls t344 t345 t348 t349 _ ?side1 A35.out).mono ?_); (case side1 => exact GL.below hGL (by repeat (first | (with_reducible first | exact HB.out | apply below_alloc | apply pw_below_drewN | apply below_drew1 | refine below_set ?_ GE339.out) | exact HB.out))); rintro e w37 ⟨v346, rfl, ho0, hb⟩; refine ⟨_, rfl, ?_⟩; have n0_ := Aside0.mk (Kd.R_elder' (by (with_reducible repeat (first | apply Kd.R_alloc | apply Kd.R_drewN | apply Kd.R_drew)); exact HO_340000.out) (Kd.R_base ho0) hb); have n1_ := Aside0.mk (Kd.R_lower (Kd.R_new' ho0 (Kd.R_lt (by (with_reducible repeat (first | apply Kd.R_alloc | apply Kd.R_drewN | apply Kd.R_drew)); exact HO_340000.out))) (below_size (by repeat (first | (with_reducible first | exact HB.out | apply below_alloc | apply pw_below_drewN | apply below_drew1 | refine below_set ?_ GE339.out) | exact HB.out)))); have n2_ := Aside0.mk (blk_below (g := gb339) (o := .cells #[.slice Ao12 t334.length co12, .int .i64 t337, .int .i64 t338] 29 (0, 0)) (by (with_reducible repeat (first | refine blk_drewN ?_ _ | refine blk_drew ?_ | refine blk_alloc ?_ _)); exact BK339.out) hb); have n3_ := Aside0.mk (below_step (by repeat (first | (with_reducible first | exact HB.out | apply below_alloc | apply pw_below_drewN | apply below_drew1 | refine below_set ?_ GE339.out) | exact HB.out)) hb); clear HO_340000; clear BK339; clear HB; have HO_340000 := n0_; have HO347 := n1_; have BK339 := n2_; have HB := n3_; clear n0_ n1_ n2_ n3_; (try clear hb); (try clear hb2); (try clear hk); (try clear hi); (try clear ho0); (try clear A35)) | ((with_reducible refine gate_dst (N := 8) rfl ?_); (try (refine gate_guard (by rfl) ?_; dsimp only)); refine box_event ?hg (N := 8) ?hd (cs := #[.slice none 0 0, .int .i64 0, .int .i64 0]) (t := 29) ?hr ?_; (case hd => rfl); (case hg => rfl); (case hr => first | (go_simp; done) | (go_simp; rfl)); intro gb350 hg w38 hbox hb; have n0_ := Aside0.mk (Kd.R_below (by (with_reducible repeat (first | apply Kd.R_alloc | apply Kd.R_drewN | apply Kd.R_drew)); exact HO_340000.out) hb); have n1_ := Aside0.mk (Kd.R_below (by (with_reducible repeat (first | apply Kd.R_alloc | apply Kd.R_drewN | apply Kd.R_drew)); exact HO347.out) hb); have n2_ := Aside0.mk (blk_below (g := gb339) (o := .cells #[.slice Ao12 t334.length co12, .int .i64 t337, .int .i64 t338] 29 (0, 0)) (by (with_reducible repeat (first | refine blk_drewN ?_ _ | refine blk_drew ?_ | refine blk_alloc ?_ _)); exact BK339.out) hb); have n3_ := Aside0.mk (below_step (by repeat (first | (with_reducible first | exact HB.out | apply below_alloc | apply pw_below_drewN | apply below_drew1 | refine below_set ?_ GE339.out) | exact HB.out)) hb); have n4_ := Aside0.mk (hbox); have n5_ := Aside0.mk ((by rw [hg]; exact (below_size (by repeat (first | (with_reducible first | exact HB.out | apply below_alloc | apply pw_below_drewN | apply below_drew1 | refine below_set ?_ GE339.out) | exact HB.out))) : w.heap.size ≤ gb350)); have n6_ := Aside0.mk ((by rw [hg]; exact (below_size (by repeat (first | (with_reducible first | exact HB.out | apply below_alloc | apply pw_below_drewN | apply below_drew1 | refine below_set ?_ GE339.out) | exact HB.out))) : w.heap.size ≤ gb350)); have n7_ := Aside0.mk ((by rw [hg]; exact Nat.ne_of_lt (blk_lt (g := gb339) (o := .cells #[.slice Ao12 t334.length co12, .int .i64 t337, .int .i64 t338] 29 (0, 0)) (by (with_reducible repeat (first | refine blk_drewN ?_ _ | refine blk_drew ?_ | refine blk_alloc ?_ _)); exact BK339.out)) : gb339 ≠ gb350)); have n8_ := Aside0.mk ((by rw [hg]; exact Nat.ne_of_gt (blk_lt (g := gb339) (o := .cells #[.slice Ao12 t334.length co12, .int .i64 t337, .int .i64 t338] 29 (0, 0)) (by (with_reducible repeat (first | refine blk_drewN ?_ _ | refine blk_drew ?_ | refine blk_alloc ?_ _)); exact BK339.out)) : gb350 ≠ gb339)); clear HO_340000; clear HO347; clear BK339; clear HB; have HO_340000 := n0_; have HO347 := n1_; have BK339 := n2_; have HB := n3_; have BK350 := n4_; have GW350 := n5_; have GE350 := n6_; have NB339_350 := n7_; have NB350_339 := n8_; clear n0_ n1_ n2_ n3_ n4_ n5_ n6_ n7_ n8_; clear hb hbox hg; obtain ⟨Ao39, co39, eo39⟩ := Kd.R_slice HO347.out; subst eo39; have hnb40 := NB350_339.out; have hnc40 := NB339_350.out; have hcz41_0 : w38.cell? ⟨gb350, 0, none⟩ = some (.slice none 0 0) := (blk_cell BK350.out 0).trans rfl; have hcz41_1 : w38.cell? ⟨gb350, 1, none⟩ = some (.int .i64 0) := (blk_cell BK350.out 1).trans rfl; have hcz41_2 : w38.cell? ⟨gb350, 2, none⟩ = some (.int .i64 0) := (blk_cell BK350.out 2).trans rfl; have hfz41_0 := blk_frozen BK350.out 0; have hfz41_1 := blk_frozen BK350.out 1; have hfz41_2 := blk_frozen BK350.out 2))
                  go_loopg [9] kj19 (fun kq v9 w' => ∃ (x9_4 : Int), v9 = .int .i64 x9_4 ∧ Aside0 (wireloomlaw08_LexerKinds.l0 kq t333 x9_4 t345 t348 t349 = some r) ∧ Aside0 (kq ≤ kj19) ∧ Aside0 (Kd.R k39 39 w' w.heap.size (fun k_ => some k_ ≠ ((.slice Ao39 t345.length co39) : Value).ownBlock) (.slice Ao12 t334.length co12) t334) ∧ Aside0 (Kd.R k39 39 w' w.heap.size (fun k_ => some k_ ≠ ((.slice Ao12 t334.length co12) : Value).ownBlock) (.slice Ao39 t345.length co39) t345) ∧ Aside0 (w'.heap[gb339]? = some (.cells #[(.slice Ao12 t334.length co12), .int .i64 t337, .int .i64 t338] 29 (0, 0))) ∧ Aside0 (w'.heap[gb350]? = some (.cells #[(.slice Ao39 t345.length co39), .int .i64 t348, .int .i64 t349] 29 (0, 0))) ∧ Aside0 (Below w.heap.size w w'))
                  case atStart => exact ⟨(0), (by first | rfl | (simp; done) | (simp [*]; done)), H', ⟨Nat.le_refl _⟩, ⟨by (with_reducible repeat (first | apply Kd.R_alloc | apply Kd.R_drewN | apply Kd.R_drew)); exact Kd.R_mono (Kd.R_far (p := ⟨gb350, 2, none⟩) (Kd.R_far (p := ⟨gb350, 1, none⟩) (Kd.R_far (p := ⟨gb350, 0, none⟩) (Kd.R_types HO_340000.out BK350.out (by decide)) (fun _ hk => hk.2) (.slice Ao39 t345.length co39)) (fun _ hk => hk.2) (.int .i64 t348)) (fun _ hk => hk.2) (.int .i64 t349)) (fun _ hk => hk.1.2)⟩, ⟨by (with_reducible repeat (first | apply Kd.R_alloc | apply Kd.R_drewN | apply Kd.R_drew)); exact Kd.R_mono (Kd.R_far (p := ⟨gb350, 2, none⟩) (Kd.R_far (p := ⟨gb350, 1, none⟩) (Kd.R_far (p := ⟨gb350, 0, none⟩) (Kd.R_types HO347.out BK350.out (by decide)) (fun _ hk => hk.2) (.slice Ao39 t345.length co39)) (fun _ hk => hk.2) (.int .i64 t348)) (fun _ hk => hk.2) (.int .i64 t349)) (fun _ hk => hk.1.2)⟩, ⟨by (with_reducible repeat (first | refine blk_drewN ?_ _ | refine blk_drew ?_ | refine blk_alloc ?_ _)); refine blk_far ?_ NB339_350.out _; (with_reducible repeat (first | refine blk_drewN ?_ _ | refine blk_drew ?_ | refine blk_alloc ?_ _)); refine blk_far ?_ NB339_350.out _; (with_reducible repeat (first | refine blk_drewN ?_ _ | refine blk_drew ?_ | refine blk_alloc ?_ _)); refine blk_far ?_ NB339_350.out _; (with_reducible repeat (first | refine blk_drewN ?_ _ | refine blk_drew ?_ | refine blk_alloc ?_ _)); exact BK339.out⟩, ⟨by (with_reducible repeat (first | refine blk_drewN ?_ _ | refine blk_drew ?_ | refine blk_alloc ?_ _)); refine blk_put (cs := #[.slice Ao39 t345.length co39, .int .i64 t348, .int .i64 0]) ?_ 2 _ rfl; (with_reducible repeat (first | refine blk_drewN ?_ _ | refine blk_drew ?_ | refine blk_alloc ?_ _)); refine blk_put (cs := #[.slice Ao39 t345.length co39, .int .i64 0, .int .i64 0]) ?_ 1 _ rfl; (with_reducible repeat (first | refine blk_drewN ?_ _ | refine blk_drew ?_ | refine blk_alloc ?_ _)); refine blk_put (cs := #[.slice none 0 0, .int .i64 0, .int .i64 0]) ?_ 0 _ rfl; (with_reducible repeat (first | refine blk_drewN ?_ _ | refine blk_drew ?_ | refine blk_alloc ?_ _)); exact BK350.out⟩, ⟨by repeat (first | (with_reducible first | exact HB.out | apply below_alloc | apply pw_below_drewN | apply below_drew1 | refine below_set ?_ GE339.out | refine below_set ?_ GE350.out) | exact HB.out)⟩⟩
                  case round =>
                    clear H'
                    try clear c1
                    try clear c2
                    try clear p2
                    try clear c3
                    try clear p3
                    try clear q3
                    try clear hx3
                    try clear qi3
                    try clear c4
                    try clear c12
                    try clear c13
                    try clear c16
                    try clear c22
                    try clear c22b0
                    try clear c22b1
                    try clear c22b2
                    try clear c25
                    try clear c26
                    try clear c26b0
                    try clear c26b1
                    try clear c33
                    try clear p34
                    try clear q34
                    try clear hx34
                    try clear qi34
                    try clear c40
                    try clear hcz17_1
                    try clear hcz17_2
                    try clear hcz18_0
                    try clear hcz18_1
                    try clear hcz18_2
                    try clear hcz19_0
                    try clear hcz19_1
                    try clear hcz19_2
                    try clear hcz41_0
                    try clear hcz41_1
                    try clear hcz41_2
                    try clear hfz13_0
                    try clear hfz13_1
                    try clear hfz13_2
                    try clear hfz17_0
                    try clear hfz17_1
                    try clear hfz17_2
                    try clear hfz18_0
                    try clear hfz18_1
                    try clear hfz18_2
                    try clear hfz19_0
                    try clear hfz19_1
                    try clear hfz19_2
                    try clear hfz41_0
                    try clear hfz41_1
                    try clear hfz41_2
                    try clear hx340_0
                    try clear hx340_1
                    try clear hx340_2
                    try clear hx342_0
                    try clear hx342_1
                    try clear hx342_2
                    try clear p2
                    try clear p3
                    try clear p340
                    try clear p342
                    try clear q3
                    try clear q340
                    try clear q342
                    obtain ⟨x9_4, rfl, HA, HK4, HO_340000, HO_351000, BK339, BK350, HB⟩ := hrel
                    cases gk with
                    | zero => exact absurd HA.out (by simp [wireloomlaw08_LexerKinds.l0])
                    | succ k4 =>
                      have H := HA.out
                      clear HA
                      simp only [wireloomlaw08_LexerKinds.l0] at H
                      by_cases c42 : (wrap64 (x9_4 + 1)) < (t345.length : Int)
                      · rw [if_pos c42] at H
                        have c42b0 : decide ((wrap64 (x9_4 + 1)) < (t345.length : Int)) = true := decide_eq_true c42
                        clear c42
                        by_cases c43 : 0 ≤ x9_4
                        · rw [if_pos c43] at H
                          have c43b0 : decide (0 ≤ x9_4) = true := decide_eq_true c43
                          clear c43
                          by_cases c44 : x9_4 < (t345.length : Int)
                          · rw [if_pos c44] at H
                            have c44b0 : decide (x9_4 < (t345.length : Int)) = true := decide_eq_true c44
                            clear c44
                            replace H := Option.bind_eq_some_iff.mp H
                            obtain ⟨t352, A450, H⟩ := H
                            replace H : (if t352 = ((rd_T39 t345 x9_4).f0) then (if t352 = 1 then (wireloomlaw08_LexerKinds.l0 k4 t333 (wrap64 (x9_4 + 1)) t345 t348 t349) else (if t352 = 2 then (wireloomlaw08_LexerKinds.l0 k4 t333 (wrap64 (x9_4 + 1)) t345 t348 t349) else (if t352 = 3 then (wireloomlaw08_LexerKinds.l0 k4 t333 (wrap64 (x9_4 + 1)) t345 t348 t349) else (some false)))) else (some false)) = some r := H
                            have A45 := Aside0.mk A450
                            clear A450
                            by_cases c46 : t352 = ((rd_T39 t345 x9_4).f0)
                            · rw [if_pos c46] at H
                              have c46b0 : (t352 == ((rd_T39 t345 x9_4).f0)) = true := beq_iff_eq.mpr c46
                              have c46b1 : (t352 != ((rd_T39 t345 x9_4).f0)) = false := bne_eq_false_iff_eq.mpr c46
                              clear c46
                              by_cases c47 : t352 = 1
                              · rw [if_pos c47] at H
                                have c47b0 : (t352 == 1) = true := beq_iff_eq.mpr c47
                                have c47b1 : (t352 != 1) = false := bne_eq_false_iff_eq.mpr c47
                                clear c47
                                have H' := Aside0.mk H
                                clear H
                                have hnb48 := NB350_339.out
                                have hnc48 := NB339_350.out
                                have hcz49_0 : wr.cell? ⟨gb350, 0, none⟩ = some (.slice Ao39 t345.length co39) := (blk_cell BK350.out 0).trans rfl
                                have hcz49_1 : wr.cell? ⟨gb350, 1, none⟩ = some (.int .i64 t348) := (blk_cell BK350.out 1).trans rfl
                                have hcz49_2 : wr.cell? ⟨gb350, 2, none⟩ = some (.int .i64 t349) := (blk_cell BK350.out 2).trans rfl
                                have hfz49_0 := blk_frozen BK350.out 0
                                have hfz49_1 := blk_frozen BK350.out 1
                                have hfz49_2 := blk_frozen BK350.out 2
                                have p351 : 0 ≤ (x9_4 : Int) := of_decide_eq_true (by first | (with_reducible assumption) | assumption)
                                have q351 : x9_4 < (t345.length : Int) := of_decide_eq_true (by first | (with_reducible assumption) | assumption)
                                obtain ⟨ad351, e351, hx351_0, hx351_1, hx351_2⟩ := at_T39 (Kd.R_reads' HO_351000.out).2.2 x9_4 p351 q351
                                cases e351
                                replace p351 := eq_true p351
                                replace q351 := eq_true q351
                                go_wp2_with (first | ((with_reducible refine gate_callee (f := 16) rfl ?_); refine goesL_ (some 75) rfl rfl Tryd.func16 (by kernel_rfl) rfl #[.string ((rd_T39 t345 x9_4).f1)] rfl (by (try simp only [List.map_toArray, List.map_cons, List.map_nil]); first | done | rfl | (simp only [List.length_drop, List.length_take]; rfl)) ?_; (with_reducible refine (lexer_Kind.calls ((rd_T39 t345 x9_4).f1) t352 _ ?side1 A45.out).mono ?_); (case side1 => exact GL.below hGL (by repeat (first | (with_reducible first | exact HB.out | apply below_alloc | apply pw_below_drewN | apply below_drew1 | refine below_set ?_ GE339.out | refine below_set ?_ GE350.out) | exact HB.out))); rintro e w50 ⟨rfl, hb⟩; refine ⟨_, rfl, ?_⟩; have n0_ := Aside0.mk (Kd.R_below (by (with_reducible repeat (first | apply Kd.R_alloc | apply Kd.R_drewN | apply Kd.R_drew)); exact HO_340000.out) hb); have n1_ := Aside0.mk (Kd.R_below (by (with_reducible repeat (first | apply Kd.R_alloc | apply Kd.R_drewN | apply Kd.R_drew)); exact HO_351000.out) hb); have n2_ := Aside0.mk (blk_below (g := gb339) (o := .cells #[.slice Ao12 t334.length co12, .int .i64 t337, .int .i64 t338] 29 (0, 0)) (by (with_reducible repeat (first | refine blk_drewN ?_ _ | refine blk_drew ?_ | refine blk_alloc ?_ _)); exact BK339.out) hb); have n3_ := Aside0.mk (blk_below (g := gb350) (o := .cells #[.slice (some ad351) t345.length co39, .int .i64 t348, .int .i64 t349] 29 (0, 0)) (by (with_reducible repeat (first | refine blk_drewN ?_ _ | refine blk_drew ?_ | refine blk_alloc ?_ _)); exact BK350.out) hb); have n4_ := Aside0.mk (below_step (by repeat (first | (with_reducible first | exact HB.out | apply below_alloc | apply pw_below_drewN | apply below_drew1 | refine below_set ?_ GE339.out | refine below_set ?_ GE350.out) | exact HB.out)) hb); clear HO_340000; clear HO_351000; clear BK339; clear BK350; clear HB; have HO_340000 := n0_; have HO_351000 := n1_; have BK339 := n2_; have BK350 := n3_; have HB := n4_; clear n0_ n1_ n2_ n3_ n4_; (try clear hb); (try clear hb2); (try clear hk); (try clear hi); (try clear A45); have hcz51_0 : w50.cell? ⟨gb350, 0, none⟩ = some (.slice (some ad351) t345.length co39) := (blk_cell BK350.out 0).trans rfl; have hcz51_1 : w50.cell? ⟨gb350, 1, none⟩ = some (.int .i64 t348) := (blk_cell BK350.out 1).trans rfl; have hcz51_2 : w50.cell? ⟨gb350, 2, none⟩ = some (.int .i64 t349) := (blk_cell BK350.out 2).trans rfl; have hfz51_0 := blk_frozen BK350.out 0; have hfz51_1 := blk_frozen BK350.out 1; have hfz51_2 := blk_frozen BK350.out 2; have p353 : 0 ≤ (x9_4 : Int) := of_decide_eq_true (by first | (with_reducible assumption) | assumption); have q353 : x9_4 < (t345.length : Int) := of_decide_eq_true (by first | (with_reducible assumption) | assumption); obtain ⟨ad353, e353, hx353_0, hx353_1, hx353_2⟩ := at_T39 (Kd.R_reads' HO_351000.out).2.2 x9_4 p353 q353; obtain rfl : ad351 = ad353 := (by injection e353); replace p353 := eq_true p353; replace q353 := eq_true q353))
                                go_roundg k4
                                case measure => have := HJ3.out; have := HJ8.out; have := HJ19.out; have := HK4.out; omega
                                case rel => exact ⟨(wrap64 (x9_4 + 1)), (by first | rfl | (simp; done) | (simp [*]; done)), H', ⟨by have := HJ3.out; have := HJ8.out; have := HJ19.out; have := HK4.out; omega⟩, ⟨by (with_reducible repeat (first | apply Kd.R_alloc | apply Kd.R_drewN | apply Kd.R_drew)); exact HO_340000.out⟩, ⟨by (with_reducible repeat (first | apply Kd.R_alloc | apply Kd.R_drewN | apply Kd.R_drew)); exact HO_351000.out⟩, ⟨by (with_reducible repeat (first | refine blk_drewN ?_ _ | refine blk_drew ?_ | refine blk_alloc ?_ _)); exact BK339.out⟩, ⟨by (with_reducible repeat (first | refine blk_drewN ?_ _ | refine blk_drew ?_ | refine blk_alloc ?_ _)); exact BK350.out⟩, ⟨by repeat (first | (with_reducible first | exact HB.out | apply below_alloc | apply pw_below_drewN | apply below_drew1 | refine below_set ?_ GE339.out | refine below_set ?_ GE350.out) | exact HB.out)⟩⟩
                              · rw [if_neg c47] at H
                                have c47b0 : (t352 == 1) = false := beq_eq_false_iff_ne.mpr c47
                                have c47b1 : (t352 != 1) = true := bne_iff_ne.mpr c47
                                by_cases c52 : t352 = 2
                                · rw [if_pos c52] at H
                                  have c52b0 : (t352 == 2) = true := beq_iff_eq.mpr c52
                                  have c52b1 : (t352 != 2) = false := bne_eq_false_iff_eq.mpr c52
                                  clear c52
                                  have H' := Aside0.mk H
                                  clear H
                                  have hnb53 := NB350_339.out
                                  have hnc53 := NB339_350.out
                                  have hcz54_0 : wr.cell? ⟨gb350, 0, none⟩ = some (.slice Ao39 t345.length co39) := (blk_cell BK350.out 0).trans rfl
                                  have hcz54_1 : wr.cell? ⟨gb350, 1, none⟩ = some (.int .i64 t348) := (blk_cell BK350.out 1).trans rfl
                                  have hcz54_2 : wr.cell? ⟨gb350, 2, none⟩ = some (.int .i64 t349) := (blk_cell BK350.out 2).trans rfl
                                  have hfz54_0 := blk_frozen BK350.out 0
                                  have hfz54_1 := blk_frozen BK350.out 1
                                  have hfz54_2 := blk_frozen BK350.out 2
                                  have p351 : 0 ≤ (x9_4 : Int) := of_decide_eq_true (by first | (with_reducible assumption) | assumption)
                                  have q351 : x9_4 < (t345.length : Int) := of_decide_eq_true (by first | (with_reducible assumption) | assumption)
                                  obtain ⟨ad351, e351, hx351_0, hx351_1, hx351_2⟩ := at_T39 (Kd.R_reads' HO_351000.out).2.2 x9_4 p351 q351
                                  cases e351
                                  replace p351 := eq_true p351
                                  replace q351 := eq_true q351
                                  go_wp2_with (first | ((with_reducible refine gate_callee (f := 16) rfl ?_); refine goesL_ (some 75) rfl rfl Tryd.func16 (by kernel_rfl) rfl #[.string ((rd_T39 t345 x9_4).f1)] rfl (by (try simp only [List.map_toArray, List.map_cons, List.map_nil]); first | done | rfl | (simp only [List.length_drop, List.length_take]; rfl)) ?_; (with_reducible refine (lexer_Kind.calls ((rd_T39 t345 x9_4).f1) t352 _ ?side1 A45.out).mono ?_); (case side1 => exact GL.below hGL (by repeat (first | (with_reducible first | exact HB.out | apply below_alloc | apply pw_below_drewN | apply below_drew1 | refine below_set ?_ GE339.out | refine below_set ?_ GE350.out) | exact HB.out))); rintro e w55 ⟨rfl, hb⟩; refine ⟨_, rfl, ?_⟩; have n0_ := Aside0.mk (Kd.R_below (by (with_reducible repeat (first | apply Kd.R_alloc | apply Kd.R_drewN | apply Kd.R_drew)); exact HO_340000.out) hb); have n1_ := Aside0.mk (Kd.R_below (by (with_reducible repeat (first | apply Kd.R_alloc | apply Kd.R_drewN | apply Kd.R_drew)); exact HO_351000.out) hb); have n2_ := Aside0.mk (blk_below (g := gb339) (o := .cells #[.slice Ao12 t334.length co12, .int .i64 t337, .int .i64 t338] 29 (0, 0)) (by (with_reducible repeat (first | refine blk_drewN ?_ _ | refine blk_drew ?_ | refine blk_alloc ?_ _)); exact BK339.out) hb); have n3_ := Aside0.mk (blk_below (g := gb350) (o := .cells #[.slice (some ad351) t345.length co39, .int .i64 t348, .int .i64 t349] 29 (0, 0)) (by (with_reducible repeat (first | refine blk_drewN ?_ _ | refine blk_drew ?_ | refine blk_alloc ?_ _)); exact BK350.out) hb); have n4_ := Aside0.mk (below_step (by repeat (first | (with_reducible first | exact HB.out | apply below_alloc | apply pw_below_drewN | apply below_drew1 | refine below_set ?_ GE339.out | refine below_set ?_ GE350.out) | exact HB.out)) hb); clear HO_340000; clear HO_351000; clear BK339; clear BK350; clear HB; have HO_340000 := n0_; have HO_351000 := n1_; have BK339 := n2_; have BK350 := n3_; have HB := n4_; clear n0_ n1_ n2_ n3_ n4_; (try clear hb); (try clear hb2); (try clear hk); (try clear hi); (try clear A45); have hcz56_0 : w55.cell? ⟨gb350, 0, none⟩ = some (.slice (some ad351) t345.length co39) := (blk_cell BK350.out 0).trans rfl; have hcz56_1 : w55.cell? ⟨gb350, 1, none⟩ = some (.int .i64 t348) := (blk_cell BK350.out 1).trans rfl; have hcz56_2 : w55.cell? ⟨gb350, 2, none⟩ = some (.int .i64 t349) := (blk_cell BK350.out 2).trans rfl; have hfz56_0 := blk_frozen BK350.out 0; have hfz56_1 := blk_frozen BK350.out 1; have hfz56_2 := blk_frozen BK350.out 2; have p353 : 0 ≤ (x9_4 : Int) := of_decide_eq_true (by first | (with_reducible assumption) | assumption); have q353 : x9_4 < (t345.length : Int) := of_decide_eq_true (by first | (with_reducible assumption) | assumption); obtain ⟨ad353, e353, hx353_0, hx353_1, hx353_2⟩ := at_T39 (Kd.R_reads' HO_351000.out).2.2 x9_4 p353 q353; obtain rfl : ad351 = ad353 := (by injection e353); replace p353 := eq_true p353; replace q353 := eq_true q353))
                                  go_roundg k4
                                  case measure => have := HJ3.out; have := HJ8.out; have := HJ19.out; have := HK4.out; omega
                                  case rel => exact ⟨(wrap64 (x9_4 + 1)), (by first | rfl | (simp; done) | (simp [*]; done)), H', ⟨by have := HJ3.out; have := HJ8.out; have := HJ19.out; have := HK4.out; omega⟩, ⟨by (with_reducible repeat (first | apply Kd.R_alloc | apply Kd.R_drewN | apply Kd.R_drew)); exact HO_340000.out⟩, ⟨by (with_reducible repeat (first | apply Kd.R_alloc | apply Kd.R_drewN | apply Kd.R_drew)); exact HO_351000.out⟩, ⟨by (with_reducible repeat (first | refine blk_drewN ?_ _ | refine blk_drew ?_ | refine blk_alloc ?_ _)); exact BK339.out⟩, ⟨by (with_reducible repeat (first | refine blk_drewN ?_ _ | refine blk_drew ?_ | refine blk_alloc ?_ _)); exact BK350.out⟩, ⟨by repeat (first | (with_reducible first | exact HB.out | apply below_alloc | apply pw_below_drewN | apply below_drew1 | refine below_set ?_ GE339.out | refine below_set ?_ GE350.out) | exact HB.out)⟩⟩
                                · rw [if_neg c52] at H
                                  have c52b0 : (t352 == 2) = false := beq_eq_false_iff_ne.mpr c52
                                  have c52b1 : (t352 != 2) = true := bne_iff_ne.mpr c52
                                  by_cases c57 : t352 = 3
                                  · rw [if_pos c57] at H
                                    have c57b0 : (t352 == 3) = true := beq_iff_eq.mpr c57
                                    have c57b1 : (t352 != 3) = false := bne_eq_false_iff_eq.mpr c57
                                    clear c57
                                    have H' := Aside0.mk H
                                    clear H
                                    have hnb58 := NB350_339.out
                                    have hnc58 := NB339_350.out
                                    have hcz59_0 : wr.cell? ⟨gb350, 0, none⟩ = some (.slice Ao39 t345.length co39) := (blk_cell BK350.out 0).trans rfl
                                    have hcz59_1 : wr.cell? ⟨gb350, 1, none⟩ = some (.int .i64 t348) := (blk_cell BK350.out 1).trans rfl
                                    have hcz59_2 : wr.cell? ⟨gb350, 2, none⟩ = some (.int .i64 t349) := (blk_cell BK350.out 2).trans rfl
                                    have hfz59_0 := blk_frozen BK350.out 0
                                    have hfz59_1 := blk_frozen BK350.out 1
                                    have hfz59_2 := blk_frozen BK350.out 2
                                    have p351 : 0 ≤ (x9_4 : Int) := of_decide_eq_true (by first | (with_reducible assumption) | assumption)
                                    have q351 : x9_4 < (t345.length : Int) := of_decide_eq_true (by first | (with_reducible assumption) | assumption)
                                    obtain ⟨ad351, e351, hx351_0, hx351_1, hx351_2⟩ := at_T39 (Kd.R_reads' HO_351000.out).2.2 x9_4 p351 q351
                                    cases e351
                                    replace p351 := eq_true p351
                                    replace q351 := eq_true q351
                                    go_wp2_with (first | ((with_reducible refine gate_callee (f := 16) rfl ?_); refine goesL_ (some 75) rfl rfl Tryd.func16 (by kernel_rfl) rfl #[.string ((rd_T39 t345 x9_4).f1)] rfl (by (try simp only [List.map_toArray, List.map_cons, List.map_nil]); first | done | rfl | (simp only [List.length_drop, List.length_take]; rfl)) ?_; (with_reducible refine (lexer_Kind.calls ((rd_T39 t345 x9_4).f1) t352 _ ?side1 A45.out).mono ?_); (case side1 => exact GL.below hGL (by repeat (first | (with_reducible first | exact HB.out | apply below_alloc | apply pw_below_drewN | apply below_drew1 | refine below_set ?_ GE339.out | refine below_set ?_ GE350.out) | exact HB.out))); rintro e w60 ⟨rfl, hb⟩; refine ⟨_, rfl, ?_⟩; have n0_ := Aside0.mk (Kd.R_below (by (with_reducible repeat (first | apply Kd.R_alloc | apply Kd.R_drewN | apply Kd.R_drew)); exact HO_340000.out) hb); have n1_ := Aside0.mk (Kd.R_below (by (with_reducible repeat (first | apply Kd.R_alloc | apply Kd.R_drewN | apply Kd.R_drew)); exact HO_351000.out) hb); have n2_ := Aside0.mk (blk_below (g := gb339) (o := .cells #[.slice Ao12 t334.length co12, .int .i64 t337, .int .i64 t338] 29 (0, 0)) (by (with_reducible repeat (first | refine blk_drewN ?_ _ | refine blk_drew ?_ | refine blk_alloc ?_ _)); exact BK339.out) hb); have n3_ := Aside0.mk (blk_below (g := gb350) (o := .cells #[.slice (some ad351) t345.length co39, .int .i64 t348, .int .i64 t349] 29 (0, 0)) (by (with_reducible repeat (first | refine blk_drewN ?_ _ | refine blk_drew ?_ | refine blk_alloc ?_ _)); exact BK350.out) hb); have n4_ := Aside0.mk (below_step (by repeat (first | (with_reducible first | exact HB.out | apply below_alloc | apply pw_below_drewN | apply below_drew1 | refine below_set ?_ GE339.out | refine below_set ?_ GE350.out) | exact HB.out)) hb); clear HO_340000; clear HO_351000; clear BK339; clear BK350; clear HB; have HO_340000 := n0_; have HO_351000 := n1_; have BK339 := n2_; have BK350 := n3_; have HB := n4_; clear n0_ n1_ n2_ n3_ n4_; (try clear hb); (try clear hb2); (try clear hk); (try clear hi); (try clear A45); have hcz61_0 : w60.cell? ⟨gb350, 0, none⟩ = some (.slice (some ad351) t345.length co39) := (blk_cell BK350.out 0).trans rfl; have hcz61_1 : w60.cell? ⟨gb350, 1, none⟩ = some (.int .i64 t348) := (blk_cell BK350.out 1).trans rfl; have hcz61_2 : w60.cell? ⟨gb350, 2, none⟩ = some (.int .i64 t349) := (blk_cell BK350.out 2).trans rfl; have hfz61_0 := blk_frozen BK350.out 0; have hfz61_1 := blk_frozen BK350.out 1; have hfz61_2 := blk_frozen BK350.out 2; have p353 : 0 ≤ (x9_4 : Int) := of_decide_eq_true (by first | (with_reducible assumption) | assumption); have q353 : x9_4 < (t345.length : Int) := of_decide_eq_true (by first | (with_reducible assumption) | assumption); obtain ⟨ad353, e353, hx353_0, hx353_1, hx353_2⟩ := at_T39 (Kd.R_reads' HO_351000.out).2.2 x9_4 p353 q353; obtain rfl : ad351 = ad353 := (by injection e353); replace p353 := eq_true p353; replace q353 := eq_true q353))
                                    go_roundg k4
                                    case measure => have := HJ3.out; have := HJ8.out; have := HJ19.out; have := HK4.out; omega
                                    case rel => exact ⟨(wrap64 (x9_4 + 1)), (by first | rfl | (simp; done) | (simp [*]; done)), H', ⟨by have := HJ3.out; have := HJ8.out; have := HJ19.out; have := HK4.out; omega⟩, ⟨by (with_reducible repeat (first | apply Kd.R_alloc | apply Kd.R_drewN | apply Kd.R_drew)); exact HO_340000.out⟩, ⟨by (with_reducible repeat (first | apply Kd.R_alloc | apply Kd.R_drewN | apply Kd.R_drew)); exact HO_351000.out⟩, ⟨by (with_reducible repeat (first | refine blk_drewN ?_ _ | refine blk_drew ?_ | refine blk_alloc ?_ _)); exact BK339.out⟩, ⟨by (with_reducible repeat (first | refine blk_drewN ?_ _ | refine blk_drew ?_ | refine blk_alloc ?_ _)); exact BK350.out⟩, ⟨by repeat (first | (with_reducible first | exact HB.out | apply below_alloc | apply pw_below_drewN | apply below_drew1 | refine below_set ?_ GE339.out | refine below_set ?_ GE350.out) | exact HB.out)⟩⟩
                                  · rw [if_neg c57] at H
                                    have c57b0 : (t352 == 3) = false := beq_eq_false_iff_ne.mpr c57
                                    have c57b1 : (t352 != 3) = true := bne_iff_ne.mpr c57
                                    obtain rfl := Option.some.inj H
                                    have hnb62 := NB350_339.out
                                    have hnc62 := NB339_350.out
                                    have hcz63_0 : wr.cell? ⟨gb350, 0, none⟩ = some (.slice Ao39 t345.length co39) := (blk_cell BK350.out 0).trans rfl
                                    have hcz63_1 : wr.cell? ⟨gb350, 1, none⟩ = some (.int .i64 t348) := (blk_cell BK350.out 1).trans rfl
                                    have hcz63_2 : wr.cell? ⟨gb350, 2, none⟩ = some (.int .i64 t349) := (blk_cell BK350.out 2).trans rfl
                                    have hfz63_0 := blk_frozen BK350.out 0
                                    have hfz63_1 := blk_frozen BK350.out 1
                                    have hfz63_2 := blk_frozen BK350.out 2
                                    have p351 : 0 ≤ (x9_4 : Int) := of_decide_eq_true (by first | (with_reducible assumption) | assumption)
                                    have q351 : x9_4 < (t345.length : Int) := of_decide_eq_true (by first | (with_reducible assumption) | assumption)
                                    obtain ⟨ad351, e351, hx351_0, hx351_1, hx351_2⟩ := at_T39 (Kd.R_reads' HO_351000.out).2.2 x9_4 p351 q351
                                    cases e351
                                    replace p351 := eq_true p351
                                    replace q351 := eq_true q351
                                    go_wp2_with (first | ((with_reducible refine gate_callee (f := 16) rfl ?_); refine goesL_ (some 75) rfl rfl Tryd.func16 (by kernel_rfl) rfl #[.string ((rd_T39 t345 x9_4).f1)] rfl (by (try simp only [List.map_toArray, List.map_cons, List.map_nil]); first | done | rfl | (simp only [List.length_drop, List.length_take]; rfl)) ?_; (with_reducible refine (lexer_Kind.calls ((rd_T39 t345 x9_4).f1) t352 _ ?side1 A45.out).mono ?_); (case side1 => exact GL.below hGL (by repeat (first | (with_reducible first | exact HB.out | apply below_alloc | apply pw_below_drewN | apply below_drew1 | refine below_set ?_ GE339.out | refine below_set ?_ GE350.out) | exact HB.out))); rintro e w64 ⟨rfl, hb⟩; refine ⟨_, rfl, ?_⟩; have n0_ := Aside0.mk (Kd.R_below (by (with_reducible repeat (first | apply Kd.R_alloc | apply Kd.R_drewN | apply Kd.R_drew)); exact HO_340000.out) hb); have n1_ := Aside0.mk (Kd.R_below (by (with_reducible repeat (first | apply Kd.R_alloc | apply Kd.R_drewN | apply Kd.R_drew)); exact HO_351000.out) hb); have n2_ := Aside0.mk (blk_below (g := gb339) (o := .cells #[.slice Ao12 t334.length co12, .int .i64 t337, .int .i64 t338] 29 (0, 0)) (by (with_reducible repeat (first | refine blk_drewN ?_ _ | refine blk_drew ?_ | refine blk_alloc ?_ _)); exact BK339.out) hb); have n3_ := Aside0.mk (blk_below (g := gb350) (o := .cells #[.slice (some ad351) t345.length co39, .int .i64 t348, .int .i64 t349] 29 (0, 0)) (by (with_reducible repeat (first | refine blk_drewN ?_ _ | refine blk_drew ?_ | refine blk_alloc ?_ _)); exact BK350.out) hb); have n4_ := Aside0.mk (below_step (by repeat (first | (with_reducible first | exact HB.out | apply below_alloc | apply pw_below_drewN | apply below_drew1 | refine below_set ?_ GE339.out | refine below_set ?_ GE350.out) | exact HB.out)) hb); clear HO_340000; clear HO_351000; clear BK339; clear BK350; clear HB; have HO_340000 := n0_; have HO_351000 := n1_; have BK339 := n2_; have BK350 := n3_; have HB := n4_; clear n0_ n1_ n2_ n3_ n4_; (try clear hb); (try clear hb2); (try clear hk); (try clear hi); (try clear A45); have hcz65_0 : w64.cell? ⟨gb350, 0, none⟩ = some (.slice (some ad351) t345.length co39) := (blk_cell BK350.out 0).trans rfl; have hcz65_1 : w64.cell? ⟨gb350, 1, none⟩ = some (.int .i64 t348) := (blk_cell BK350.out 1).trans rfl; have hcz65_2 : w64.cell? ⟨gb350, 2, none⟩ = some (.int .i64 t349) := (blk_cell BK350.out 2).trans rfl; have hfz65_0 := blk_frozen BK350.out 0; have hfz65_1 := blk_frozen BK350.out 1; have hfz65_2 := blk_frozen BK350.out 2; have p353 : 0 ≤ (x9_4 : Int) := of_decide_eq_true (by first | (with_reducible assumption) | assumption); have q353 : x9_4 < (t345.length : Int) := of_decide_eq_true (by first | (with_reducible assumption) | assumption); obtain ⟨ad353, e353, hx353_0, hx353_1, hx353_2⟩ := at_T39 (Kd.R_reads' HO_351000.out).2.2 x9_4 p353 q353; obtain rfl : ad351 = ad353 := (by injection e353); replace p353 := eq_true p353; replace q353 := eq_true q353))
                                    go_ret
                                    exact ⟨by first | rfl | (simp [errW_none, errW_some] <;> rfl) | (simp [*, errW_none, errW_some] <;> rfl), by repeat (first | (with_reducible first | exact HB.out | apply below_alloc | apply pw_below_drewN | apply below_drew1 | refine below_set ?_ GE339.out | refine below_set ?_ GE350.out) | exact HB.out)⟩
                            · rw [if_neg c46] at H
                              have c46b0 : (t352 == ((rd_T39 t345 x9_4).f0)) = false := beq_eq_false_iff_ne.mpr c46
                              have c46b1 : (t352 != ((rd_T39 t345 x9_4).f0)) = true := bne_iff_ne.mpr c46
                              obtain rfl := Option.some.inj H
                              have hnb66 := NB350_339.out
                              have hnc66 := NB339_350.out
                              have hcz67_0 : wr.cell? ⟨gb350, 0, none⟩ = some (.slice Ao39 t345.length co39) := (blk_cell BK350.out 0).trans rfl
                              have hcz67_1 : wr.cell? ⟨gb350, 1, none⟩ = some (.int .i64 t348) := (blk_cell BK350.out 1).trans rfl
                              have hcz67_2 : wr.cell? ⟨gb350, 2, none⟩ = some (.int .i64 t349) := (blk_cell BK350.out 2).trans rfl
                              have hfz67_0 := blk_frozen BK350.out 0
                              have hfz67_1 := blk_frozen BK350.out 1
                              have hfz67_2 := blk_frozen BK350.out 2
                              have p351 : 0 ≤ (x9_4 : Int) := of_decide_eq_true (by first | (with_reducible assumption) | assumption)
                              have q351 : x9_4 < (t345.length : Int) := of_decide_eq_true (by first | (with_reducible assumption) | assumption)
                              obtain ⟨ad351, e351, hx351_0, hx351_1, hx351_2⟩ := at_T39 (Kd.R_reads' HO_351000.out).2.2 x9_4 p351 q351
                              cases e351
                              replace p351 := eq_true p351
                              replace q351 := eq_true q351
                              go_wp2_with (first | ((with_reducible refine gate_callee (f := 16) rfl ?_); refine goesL_ (some 75) rfl rfl Tryd.func16 (by kernel_rfl) rfl #[.string ((rd_T39 t345 x9_4).f1)] rfl (by (try simp only [List.map_toArray, List.map_cons, List.map_nil]); first | done | rfl | (simp only [List.length_drop, List.length_take]; rfl)) ?_; (with_reducible refine (lexer_Kind.calls ((rd_T39 t345 x9_4).f1) t352 _ ?side1 A45.out).mono ?_); (case side1 => exact GL.below hGL (by repeat (first | (with_reducible first | exact HB.out | apply below_alloc | apply pw_below_drewN | apply below_drew1 | refine below_set ?_ GE339.out | refine below_set ?_ GE350.out) | exact HB.out))); rintro e w68 ⟨rfl, hb⟩; refine ⟨_, rfl, ?_⟩; have n0_ := Aside0.mk (Kd.R_below (by (with_reducible repeat (first | apply Kd.R_alloc | apply Kd.R_drewN | apply Kd.R_drew)); exact HO_340000.out) hb); have n1_ := Aside0.mk (Kd.R_below (by (with_reducible repeat (first | apply Kd.R_alloc | apply Kd.R_drewN | apply Kd.R_drew)); exact HO_351000.out) hb); have n2_ := Aside0.mk (blk_below (g := gb339) (o := .cells #[.slice Ao12 t334.length co12, .int .i64 t337, .int .i64 t338] 29 (0, 0)) (by (with_reducible repeat (first | refine blk_drewN ?_ _ | refine blk_drew ?_ | refine blk_alloc ?_ _)); exact BK339.out) hb); have n3_ := Aside0.mk (blk_below (g := gb350) (o := .cells #[.slice (some ad351) t345.length co39, .int .i64 t348, .int .i64 t349] 29 (0, 0)) (by (with_reducible repeat (first | refine blk_drewN ?_ _ | refine blk_drew ?_ | refine blk_alloc ?_ _)); exact BK350.out) hb); have n4_ := Aside0.mk (below_step (by repeat (first | (with_reducible first | exact HB.out | apply below_alloc | apply pw_below_drewN | apply below_drew1 | refine below_set ?_ GE339.out | refine below_set ?_ GE350.out) | exact HB.out)) hb); clear HO_340000; clear HO_351000; clear BK339; clear BK350; clear HB; have HO_340000 := n0_; have HO_351000 := n1_; have BK339 := n2_; have BK350 := n3_; have HB := n4_; clear n0_ n1_ n2_ n3_ n4_; (try clear hb); (try clear hb2); (try clear hk); (try clear hi); (try clear A45); have hcz69_0 : w68.cell? ⟨gb350, 0, none⟩ = some (.slice (some ad351) t345.length co39) := (blk_cell BK350.out 0).trans rfl; have hcz69_1 : w68.cell? ⟨gb350, 1, none⟩ = some (.int .i64 t348) := (blk_cell BK350.out 1).trans rfl; have hcz69_2 : w68.cell? ⟨gb350, 2, none⟩ = some (.int .i64 t349) := (blk_cell BK350.out 2).trans rfl; have hfz69_0 := blk_frozen BK350.out 0; have hfz69_1 := blk_frozen BK350.out 1; have hfz69_2 := blk_frozen BK350.out 2; have p353 : 0 ≤ (x9_4 : Int) := of_decide_eq_true (by first | (with_reducible assumption) | assumption); have q353 : x9_4 < (t345.length : Int) := of_decide_eq_true (by first | (with_reducible assumption) | assumption); obtain ⟨ad353, e353, hx353_0, hx353_1, hx353_2⟩ := at_T39 (Kd.R_reads' HO_351000.out).2.2 x9_4 p353 q353; obtain rfl : ad351 = ad353 := (by injection e353); replace p353 := eq_true p353; replace q353 := eq_true q353))
                              go_ret
                              exact ⟨by first | rfl | (simp [errW_none, errW_some] <;> rfl) | (simp [*, errW_none, errW_some] <;> rfl), by repeat (first | (with_reducible first | exact HB.out | apply below_alloc | apply pw_below_drewN | apply below_drew1 | refine below_set ?_ GE339.out | refine below_set ?_ GE350.out) | exact HB.out)⟩
                          · rw [if_neg c44] at H
                            exact absurd H (by simp)
                        · rw [if_neg c43] at H
                          exact absurd H (by simp)
                      · rw [if_neg c42] at H
                        have c42b0 : decide ((wrap64 (x9_4 + 1)) < (t345.length : Int)) = false := decide_eq_false c42
                        clear c42
                        by_cases c70 : t349 = 0
                        · rw [if_pos c70] at H
                          have c70b0 : (t349 == 0) = true := beq_iff_eq.mpr c70
                          have c70b1 : (t349 != 0) = false := bne_eq_false_iff_eq.mpr c70
                          clear c70
                          obtain rfl := Option.some.inj H
                          have hnb71 := NB350_339.out
                          have hnc71 := NB339_350.out
                          have hcz72_0 : wr.cell? ⟨gb350, 0, none⟩ = some (.slice Ao39 t345.length co39) := (blk_cell BK350.out 0).trans rfl
                          have hcz72_1 : wr.cell? ⟨gb350, 1, none⟩ = some (.int .i64 t348) := (blk_cell BK350.out 1).trans rfl
                          have hcz72_2 : wr.cell? ⟨gb350, 2, none⟩ = some (.int .i64 t349) := (blk_cell BK350.out 2).trans rfl
                          have hfz72_0 := blk_frozen BK350.out 0
                          have hfz72_1 := blk_frozen BK350.out 1
                          have hfz72_2 := blk_frozen BK350.out 2
                          go_wp2
                          go_ret
                          exact ⟨by first | rfl | (simp [errW_none, errW_some] <;> rfl) | (simp [*, errW_none, errW_some] <;> rfl), by repeat (first | (with_reducible first | exact HB.out | apply below_alloc | apply pw_below_drewN | apply below_drew1 | refine below_set ?_ GE339.out | refine below_set ?_ GE350.out) | exact HB.out)⟩
                        · rw [if_neg c70] at H
                          have c70b0 : (t349 == 0) = false := beq_eq_false_iff_ne.mpr c70
                          have c70b1 : (t349 != 0) = true := bne_iff_ne.mpr c70
                          obtain rfl := Option.some.inj H
                          have hnb73 := NB350_339.out
                          have hnc73 := NB339_350.out
                          have hcz74_0 : wr.cell? ⟨gb350, 0, none⟩ = some (.slice Ao39 t345.length co39) := (blk_cell BK350.out 0).trans rfl
                          have hcz74_1 : wr.cell? ⟨gb350, 1, none⟩ = some (.int .i64 t348) := (blk_cell BK350.out 1).trans rfl
                          have hcz74_2 : wr.cell? ⟨gb350, 2, none⟩ = some (.int .i64 t349) := (blk_cell BK350.out 2).trans rfl
                          have hfz74_0 := blk_frozen BK350.out 0
                          have hfz74_1 := blk_frozen BK350.out 1
                          have hfz74_2 := blk_frozen BK350.out 2
                          go_wp2
                          go_ret
                          exact ⟨by first | rfl | (simp [errW_none, errW_some] <;> rfl) | (simp [*, errW_none, errW_some] <;> rfl), by repeat (first | (with_reducible first | exact HB.out | apply below_alloc | apply pw_below_drewN | apply below_drew1 | refine below_set ?_ GE339.out | refine below_set ?_ GE350.out) | exact HB.out)⟩

/-- THE ONE PURE STATEMENT of wireloomlaw08_LexerKinds: yours. -/
def wireloomlaw08_LexerKinds.Pure : Prop := ∀ (l0 : List Int) (a1 : ByteArray), l0.length ≤ maxLen → l0.length * 1 ≤ 140737488351232 → (∀ x ∈ l0, (Lit.int .u8 x).wf = true) → a1.size ≤ 140737488351232 → ∃ k, wireloomlaw08_LexerKinds.f k l0 a1 = some true
theorem wireloomlaw08_LexerKinds.walk (P : wireloomlaw08_LexerKinds.Pure) (a0 : Option Addr) (len0 cap0 : Nat) (z0 : List Int) (a1 : ByteArray) (w : World) (hGL : GL w) (w0 : (a0 = none ∧ len0 = 0 ∧ cap0 = 0 ∧ z0 = []) ∨ ∃ x, a0 = some x ∧ len0 ≤ cap0 ∧ cap0 ≤ maxLen ∧ z0.length = cap0 ∧ (∀ i, i < z0.length → w.cell? (x.add i) = some (.int .u8 (z0.getD i 0))) ∧ ∀ n ∈ z0, (Lit.int .u8 n).wf = true) (y0 : len0 * 1 ≤ 140737488351232) (w1 : a1.size ≤ 140737488351232) :
    Calls Tryd.prog 7 #[.slice a0 len0 cap0, .string a1] w fun e w' => e = .returned (.bool true) ∧ Below w.heap.size w w' := by
  obtain ⟨l0, rfl, hr0, hm0, hw0, hc0⟩ := ReadsInt.ofRowC w0
  obtain ⟨k, h⟩ := P l0 a1 hm0 y0 hw0 w1
  refine (wireloomlaw08_LexerKinds.calls k _ _ l0 a1 true w (Kd.C_of_reads (d := (0 : Int)) (h1 := fun _ => rfl) hr0) hc0 hGL h).mono ?_
  rintro e w' ⟨rfl, hd⟩
  exact ⟨rfl, hd⟩

end Go.Proofs.YtoongglmgpilfaaDoor.L
