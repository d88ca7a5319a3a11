-- made by a program of this claim (wip/myprint.sh); Lean checks it
import Derived.Test.YtoongglmgpilfaaDoorLx0
import Derived.Test.YtoongglmgpilfaaDoorLx2
import Derived.Test.YtoongglmgpilfaaDoorLx3
import Derived.Test.YtoongglmgpilfaaDoorLx4
import Derived.Test.YtoongglmgpilfaaDoorGiven
namespace Go.Proofs.YtoongglmgpilfaaDoor.L
open Go.RowKit Go.Proofs.YtoongglmgpilfaaDoorW.PrintWords Go.Proofs.YtoongglmgpilfaaDoorW.PrintLast Go.Proofs.YtoongglmgpilfaaDoorW.PrintMore
attribute [local go_sem] max2_int min2_int max_two min_two max_three min_three max_four min_four   -- for this text's walks alone
set_option linter.unusedVariables false
set_option linter.unusedSimpArgs false

/-! ### wireloomlaw08_LexerErrors: function 8 -/
mutual
def wireloomlaw08_LexerErrors.j0 : Nat → List Int → ByteArray → Bool → Bool → Option (Bool)
  | 0, _, _, _, _ => none
  | k + 1, x0, x1, x5, x17 => if x17 = true then (some x5) else ((wireloomref08_Made.f k x0).bind fun t355 => ((wireloomlaw08_lexed.f t355).bind fun bt356 => (if bt356.2.2 = 0 then (if bt356.2.1 = 0 then (some x5) else (some false)) else (if bt356.2.1 < 0 then (wireloomlaw08_LexerErrors.j1 k x1 x5 t355 true bt356.1 bt356.2.1 bt356.2.2) else (if bt356.2.1 ≥ (t355.size : Int) then (wireloomlaw08_LexerErrors.j1 k x1 x5 t355 true bt356.1 bt356.2.1 bt356.2.2) else (if 0 ≤ bt356.2.1 then (if bt356.2.1 ≤ (t355.size : Int) then ((wireloomlaw08_lexed.f (t355.extract 0 (bt356.2.1 : Int).toNat)).bind fun bt362 => (wireloomlaw08_LexerErrors.j1 k x1 x5 t355 (bt362.2.2 != 0) bt356.1 bt356.2.1 bt356.2.2)) else (none)) else (none)))))))
def wireloomlaw08_LexerErrors.j1 : Nat → ByteArray → Bool → ByteArray → Bool → List (S39) → Int → Int → Option (Bool)
  | 0, _, _, _, _, _, _, _ => none
  | k + 1, x1, x5, x6, x50, x362000, x362001, x362002 => if x50 = true then (some false) else (if x6.size + 1 ≤ 9223372036854775807 then (if (x6 ++ (⟨#[32]⟩ : ByteArray)).size + x1.size ≤ 9223372036854775807 then ((wireloomlaw08_lexed.f ((x6 ++ (⟨#[32]⟩ : ByteArray)) ++ x1)).bind fun bt367 => (wireloomlaw08_LexerErrors.l0 k x5 (⟨#[]⟩ : ByteArray) x362000 x362001 x362002 bt367.1 bt367.2.1 bt367.2.2)) else (none)) else (none))
def wireloomlaw08_LexerErrors.l0 : Nat → Bool → ByteArray → List (S39) → Int → Int → List (S39) → Int → Int → Option (Bool)
  | 0, _, _, _, _, _, _, _, _ => none
  | k + 1, x5, x9, x362000, x362001, x362002, x373000, x373001, x373002 => if (x9.size : Int) ≤ 8000 then (if x9.size + 85 ≤ 9223372036854775807 then (wireloomlaw08_LexerErrors.l0 k x5 (x9 ++ (⟨#[109, 111, 100, 117, 108, 101, 32, 97, 32, 47, 47, 32, 97, 32, 99, 111, 109, 109, 101, 110, 116, 32, 116, 104, 97, 116, 32, 105, 115, 32, 114, 97, 116, 104, 101, 114, 32, 108, 111, 110, 103, 44, 32, 115, 111, 32, 116, 104, 97, 116, 32, 116, 104, 105, 115, 32, 102, 105, 108, 101, 32, 115, 111, 111, 110, 32, 104, 97, 115, 32, 116, 111, 111, 32, 109, 97, 110, 121, 32, 98, 121, 116, 101, 115, 10]⟩ : ByteArray)) x362000 x362001 x362002 x373000 x373001 x373002) else (none)) else (if x373002 = x362002 then (if x373001 = x362001 then ((wireloomlaw08_lexed.f x9).bind fun bt373 => (if bt373.2.2 = 2 then (some x5) else (some false))) else (some false)) else (some false))
end
def wireloomlaw08_LexerErrors.f (k : Nat) (l0 : List Int) (a1 : ByteArray) : Option (Bool) := (wireloomlaw08_examples.f k).bind fun t354 => (if t354 = true then (wireloomlaw08_LexerErrors.j0 k l0 a1 t354 (decide ((a1.size : Int) > 300))) else (wireloomlaw08_LexerErrors.j0 k l0 a1 t354 true))
theorem wireloomlaw08_LexerErrors.mono_l : ∀ k, (∀ y0 y1 y2 y3, LeO (wireloomlaw08_LexerErrors.j0 k y0 y1 y2 y3) (wireloomlaw08_LexerErrors.j0 (k + 1) y0 y1 y2 y3)) ∧ (∀ y0 y1 y2 y3 y4 y5 y6, LeO (wireloomlaw08_LexerErrors.j1 k y0 y1 y2 y3 y4 y5 y6) (wireloomlaw08_LexerErrors.j1 (k + 1) y0 y1 y2 y3 y4 y5 y6)) ∧ (∀ y0 y1 y2 y3 y4 y5 y6 y7, LeO (wireloomlaw08_LexerErrors.l0 k y0 y1 y2 y3 y4 y5 y6 y7) (wireloomlaw08_LexerErrors.l0 (k + 1) y0 y1 y2 y3 y4 y5 y6 y7))
  | 0 => ⟨fun _ _ _ _ r h => by simp [wireloomlaw08_LexerErrors.j0] at h, fun _ _ _ _ _ _ _ r h => by simp [wireloomlaw08_LexerErrors.j1] at h, fun _ _ _ _ _ _ _ _ r h => by simp [wireloomlaw08_LexerErrors.l0] at h⟩
  | k + 1 => by
    obtain ⟨ih0, ih1, ih2⟩ := wireloomlaw08_LexerErrors.mono_l k
    refine ⟨?_, ?_, ?_⟩
    · intro y0 y1 y2 y3
      unfold wireloomlaw08_LexerErrors.j0
      repeat' first
      | (with_reducible exact ih0 _ _ _ _)
      | (with_reducible exact ih1 _ _ _ _ _ _ _)
      | (with_reducible exact ih2 _ _ _ _ _ _ _ _)
      | (with_reducible exact wireloomlaw08_examples.mono _)
      | (with_reducible exact wireloomref08_Made.mono _ _)
      | (with_reducible exact LeO.refl _)
      | (with_reducible exact LeO.none _)
      | (with_reducible refine LeO.ite ?_ ?_)
      | (with_reducible refine LeO.bind ?_ (fun _ => ?_))
      | exact ih0 _ _ _ _
      | exact ih1 _ _ _ _ _ _ _
      | exact ih2 _ _ _ _ _ _ _ _
      | exact wireloomlaw08_examples.mono _
      | exact wireloomref08_Made.mono _ _
      | exact LeO.none _
      | refine LeO.ite ?_ ?_
      | refine LeO.bind ?_ (fun _ => ?_)
    · intro y0 y1 y2 y3 y4 y5 y6
      unfold wireloomlaw08_LexerErrors.j1
      repeat' first
      | (with_reducible exact ih0 _ _ _ _)
      | (with_reducible exact ih1 _ _ _ _ _ _ _)
      | (with_reducible exact ih2 _ _ _ _ _ _ _ _)
      | (with_reducible exact wireloomlaw08_examples.mono _)
      | (with_reducible exact wireloomref08_Made.mono _ _)
      | (with_reducible exact LeO.refl _)
      | (with_reducible exact LeO.none _)
      | (with_reducible refine LeO.ite ?_ ?_)
      | (with_reducible refine LeO.bind ?_ (fun _ => ?_))
      | exact ih0 _ _ _ _
      | exact ih1 _ _ _ _ _ _ _
      | exact ih2 _ _ _ _ _ _ _ _
      | exact wireloomlaw08_examples.mono _
      | exact wireloomref08_Made.mono _ _
      | exact LeO.none _
      | refine LeO.ite ?_ ?_
      | refine LeO.bind ?_ (fun _ => ?_)
    · intro y0 y1 y2 y3 y4 y5 y6 y7
      unfold wireloomlaw08_LexerErrors.l0
      repeat' first
      | (with_reducible exact ih0 _ _ _ _)
      | (with_reducible exact ih1 _ _ _ _ _ _ _)
      | (with_reducible exact ih2 _ _ _ _ _ _ _ _)
      | (with_reducible exact wireloomlaw08_examples.mono _)
      | (with_reducible exact wireloomref08_Made.mono _ _)
      | (with_reducible exact LeO.refl _)
      | (with_reducible exact LeO.none _)
      | (with_reducible refine LeO.ite ?_ ?_)
      | (with_reducible refine LeO.bind ?_ (fun _ => ?_))
      | exact ih0 _ _ _ _
      | exact ih1 _ _ _ _ _ _ _
      | exact ih2 _ _ _ _ _ _ _ _
      | exact wireloomlaw08_examples.mono _
      | exact wireloomref08_Made.mono _ _
      | exact LeO.none _
      | refine LeO.ite ?_ ?_
      | refine LeO.bind ?_ (fun _ => ?_)
theorem wireloomlaw08_LexerErrors.mono : ∀ a0 a1 k, LeO (wireloomlaw08_LexerErrors.f k a0 a1) (wireloomlaw08_LexerErrors.f (k + 1) a0 a1) := by
  intro a0 a1 k
  obtain ⟨ih0, ih1, ih2⟩ := wireloomlaw08_LexerErrors.mono_l k
  unfold wireloomlaw08_LexerErrors.f
  repeat' first
      | (with_reducible exact ih0 _ _ _ _)
      | (with_reducible exact ih1 _ _ _ _ _ _ _)
      | (with_reducible exact ih2 _ _ _ _ _ _ _ _)
      | (with_reducible exact wireloomlaw08_examples.mono _)
      | (with_reducible exact wireloomref08_Made.mono _ _)
      | (with_reducible exact LeO.refl _)
      | (with_reducible exact LeO.none _)
      | (with_reducible refine LeO.ite ?_ ?_)
      | (with_reducible refine LeO.bind ?_ (fun _ => ?_))
      | exact ih0 _ _ _ _
      | exact ih1 _ _ _ _ _ _ _
      | exact ih2 _ _ _ _ _ _ _ _
      | exact wireloomlaw08_examples.mono _
      | exact wireloomref08_Made.mono _ _
      | exact LeO.none _
      | refine LeO.ite ?_ ?_
      | refine LeO.bind ?_ (fun _ => ?_)
set_option maxHeartbeats 8000000 in
set_option maxRecDepth 100000 in
theorem wireloomlaw08_LexerErrors.calls (k : Nat) (A0 : Option Addr) (c0 : Nat) (l0 : List Int) (a1 : ByteArray) (r : Bool) (w : World) (hr0 : Kd.C (Kd.int .u8) w A0 l0.length l0) (hc0 : l0.length ≤ c0) (hGL : GL w) (h : wireloomlaw08_LexerErrors.f k l0 a1 = some r) :
    Calls Tryd.prog 8 #[.slice A0 l0.length c0, .string a1] w fun e w' => e = .returned (.bool r) ∧ Below w.heap.size w w' := by
  have hu29 := Tryd.underlying29
  have hfl29_2 : ∀ (v0 v1 v2 : Value) (W : World), (Instr.field 29 (.agg #[v0, v1, v2]) 2).run Tryd.prog W = .ok (v2) W := fun v0 v1 v2 W => by kernel_rfl
  have HR0 := Aside0.mk hr0
  have HC0 := Aside0.mk hc0
  clear hr0 hc0
  have HB := Aside0.mk (Below.refl w.heap.size w)
  have H : ((wireloomlaw08_examples.f k).bind fun t354 => (if t354 = true then (wireloomlaw08_LexerErrors.j0 k l0 a1 t354 (decide ((a1.size : Int) > 300))) else (wireloomlaw08_LexerErrors.j0 k l0 a1 t354 true))) = some r := h
  clear h
  replace H := Option.bind_eq_some_iff.mp H
  obtain ⟨t354, A30, H⟩ := H
  replace H : (if t354 = true then (wireloomlaw08_LexerErrors.j0 k l0 a1 t354 (decide ((a1.size : Int) > 300))) else (wireloomlaw08_LexerErrors.j0 k l0 a1 t354 true)) = some r := H
  have A3 := Aside0.mk A30
  clear A30
  have HC4 := Aside0.mk H
  clear H
  go_enter Tryd.func8, Tryd.ntmps8
  go_upto_region 2 with (first | ((with_reducible refine gate_callee (f := 10) rfl ?_); refine goesL_ (some 10) rfl rfl Tryd.func10 (by kernel_rfl) rfl #[] rfl (by (try simp only [List.map_toArray, List.map_cons, List.map_nil]); first | done | rfl | (simp only [List.length_drop, List.length_take]; rfl)) ?_; (with_reducible refine (wireloomlaw08_examples.calls k  t354 _ ?side1 A3.out).mono ?_); (case side1 => exact GL.below hGL (by repeat (first | (with_reducible first | exact HB.out | apply below_alloc | apply pw_below_drewN | apply below_drew1) | exact HB.out))); rintro e w5 ⟨rfl, hb⟩; refine ⟨_, rfl, ?_⟩; have n0_ := Aside0.mk (below_step (by repeat (first | (with_reducible first | exact HB.out | apply below_alloc | apply pw_below_drewN | apply below_drew1) | exact HB.out)) hb); clear HB; have HB := n0_; clear n0_; (try clear hb); (try clear hb2); (try clear hk); (try clear hi); (try clear A3)))
  (try simp only [Act.put, List.setIfInBounds_toArray, List.set_cons_zero, List.set_cons_succ])
  go_cut [17] (fun v17 wc => ∃ (kq : Nat) (x17_3 : Bool), v17 = .bool x17_3 ∧ Aside0 (wireloomlaw08_LexerErrors.j0 kq l0 a1 t354 x17_3 = some r) ∧ Aside0 (kq ≤ k) ∧ Aside0 (Below w.heap.size w wc))
  case first =>
    have H := HC4.out
    clear HC4
    by_cases c6 : t354 = true
    · subst c6
      have H1 : (wireloomlaw08_LexerErrors.j0 k l0 a1 true (decide ((a1.size : Int) > 300))) = some r := by rw [if_pos rfl] at H; exact H
      clear H
      have H := H1
      clear H1
      have H' := Aside0.mk H
      clear H
      go_wp2
      go_meet
      case rel => exact ⟨_, (decide ((a1.size : Int) > 300)), (by first | rfl | (simp; done) | (simp [*]; done)), H', ⟨by first | omega | exact Nat.le_refl _⟩, ⟨by repeat (first | (with_reducible first | exact HB.out | apply below_alloc | apply pw_below_drewN | apply below_drew1) | exact HB.out)⟩⟩
    · replace c6 := Bool.eq_false_iff.mpr c6
      subst c6
      have H1 : (wireloomlaw08_LexerErrors.j0 k l0 a1 false true) = some r := by rw [if_neg (show ¬ (false = true) by decide)] at H; exact H
      clear H
      have H := H1
      clear H1
      have H' := Aside0.mk H
      clear H
      go_wp2
      go_meet
      case rel => exact ⟨_, (true), (by first | rfl | (simp; done) | (simp [*]; done)), H', ⟨by first | omega | exact Nat.le_refl _⟩, ⟨by repeat (first | (with_reducible first | exact HB.out | apply below_alloc | apply pw_below_drewN | apply below_drew1) | exact HB.out)⟩⟩
  case rest =>
    clear HC4
    try clear c1
    try clear p2
    try clear c6
    obtain ⟨kq, x17_3, rfl, HA, HJ3, HB⟩ := hcut
    cases kq with
    | zero => exact absurd HA.out (by simp [wireloomlaw08_LexerErrors.j0])
    | succ kj3 =>
      have H := HA.out
      clear HA
      simp only [wireloomlaw08_LexerErrors.j0] at H
      by_cases c7 : x17_3 = true
      · subst c7
        have H1 : (some t354) = some r := by rw [if_pos rfl] at H; exact H
        clear H
        have H := H1
        clear H1
        obtain rfl := Option.some.inj H
        go_wp2
        go_ret
        exact ⟨by first | rfl | (simp [errW_none, errW_some] <;> rfl) | (simp [*, errW_none, errW_some] <;> rfl), by repeat (first | (with_reducible first | exact HB.out | apply below_alloc | apply pw_below_drewN | apply below_drew1) | exact HB.out)⟩
      · replace c7 := Bool.eq_false_iff.mpr c7
        subst c7
        have H1 : ((wireloomref08_Made.f kj3 l0).bind fun t355 => ((wireloomlaw08_lexed.f t355).bind fun bt356 => (if bt356.2.2 = 0 then (if bt356.2.1 = 0 then (some t354) else (some false)) else (if bt356.2.1 < 0 then (wireloomlaw08_LexerErrors.j1 kj3 a1 t354 t355 true bt356.1 bt356.2.1 bt356.2.2) else (if bt356.2.1 ≥ (t355.size : Int) then (wireloomlaw08_LexerErrors.j1 kj3 a1 t354 t355 true bt356.1 bt356.2.1 bt356.2.2) else (if 0 ≤ bt356.2.1 then (if bt356.2.1 ≤ (t355.size : Int) then ((wireloomlaw08_lexed.f (t355.extract 0 (bt356.2.1 : Int).toNat)).bind fun bt362 => (wireloomlaw08_LexerErrors.j1 kj3 a1 t354 t355 (bt362.2.2 != 0) bt356.1 bt356.2.1 bt356.2.2)) else (none)) else (none))))))) = some r := by rw [if_neg (show ¬ (false = true) by decide)] at H; exact H
        clear H
        have H := H1
        clear H1
        replace H := Option.bind_eq_some_iff.mp H
        obtain ⟨t355, A80, H⟩ := H
        replace H : ((wireloomlaw08_lexed.f t355).bind fun bt356 => (if bt356.2.2 = 0 then (if bt356.2.1 = 0 then (some t354) else (some false)) else (if bt356.2.1 < 0 then (wireloomlaw08_LexerErrors.j1 kj3 a1 t354 t355 true bt356.1 bt356.2.1 bt356.2.2) else (if bt356.2.1 ≥ (t355.size : Int) then (wireloomlaw08_LexerErrors.j1 kj3 a1 t354 t355 true bt356.1 bt356.2.1 bt356.2.2) else (if 0 ≤ bt356.2.1 then (if bt356.2.1 ≤ (t355.size : Int) then ((wireloomlaw08_lexed.f (t355.extract 0 (bt356.2.1 : Int).toNat)).bind fun bt362 => (wireloomlaw08_LexerErrors.j1 kj3 a1 t354 t355 (bt362.2.2 != 0) bt356.1 bt356.2.1 bt356.2.2)) else (none)) else (none)))))) = some r := H
        have A8 := Aside0.mk A80
        clear A80
        replace H := Option.bind_eq_some_iff.mp H
        obtain ⟨⟨t356, t359, t360⟩, A90, H⟩ := H
        replace H : (if t360 = 0 then (if t359 = 0 then (some t354) else (some false)) else (if t359 < 0 then (wireloomlaw08_LexerErrors.j1 kj3 a1 t354 t355 true t356 t359 t360) else (if t359 ≥ (t355.size : Int) then (wireloomlaw08_LexerErrors.j1 kj3 a1 t354 t355 true t356 t359 t360) else (if 0 ≤ t359 then (if t359 ≤ (t355.size : Int) then ((wireloomlaw08_lexed.f (t355.extract 0 (t359 : Int).toNat)).bind fun bt362 => (wireloomlaw08_LexerErrors.j1 kj3 a1 t354 t355 (bt362.2.2 != 0) t356 t359 t360)) else (none)) else (none))))) = some r := H
        have A9 := Aside0.mk A90
        clear A90
        by_cases c10 : t360 = 0
        · rw [if_pos c10] at H
          have c10b0 : (t360 == 0) = true := beq_iff_eq.mpr c10
          have c10b1 : (t360 != 0) = false := bne_eq_false_iff_eq.mpr c10
          clear c10
          by_cases c11 : t359 = 0
          · rw [if_pos c11] at H
            have c11b0 : (t359 == 0) = true := beq_iff_eq.mpr c11
            have c11b1 : (t359 != 0) = false := bne_eq_false_iff_eq.mpr c11
            clear c11
            obtain rfl := Option.some.inj H
            go_wp2_with (first | ((with_reducible refine gate_callee (f := 11) rfl ?_); refine goesL_ (some 20) rfl rfl Tryd.func11 (by kernel_rfl) rfl #[.slice A0 l0.length c0] rfl (by (try simp only [List.map_toArray, List.map_cons, List.map_nil]); first | done | rfl | (simp only [List.length_drop, List.length_take]; rfl)) ?_; (with_reducible refine (wireloomref08_Made.calls kj3 _ _ l0 t355 _ ?side1 ?side2 A8.out).mono ?_); (case side1 => repeat (first | exact (Kd.C_below HR0.out HB.out) | (with_reducible refine Kd.C_alloc ?_ _) | (with_reducible refine Kd.C_drewN ?_ _) | (with_reducible refine Kd.C_drew ?_))); (case side2 => exact HC0.out); rintro e w12 ⟨rfl, hb⟩; refine ⟨_, rfl, ?_⟩; have n0_ := Aside0.mk (below_step (by repeat (first | (with_reducible first | exact HB.out | apply below_alloc | apply pw_below_drewN | apply below_drew1) | exact HB.out)) hb); clear HB; have HB := n0_; clear n0_; (try clear hb); (try clear hb2); (try clear hk); (try clear hi); (try clear A8)) | ((with_reducible refine gate_callee (f := 13) rfl ?_); refine goesL_ (some 22) rfl rfl Tryd.func13 (by kernel_rfl) rfl #[.string t355] rfl (by (try simp only [List.map_toArray, List.map_cons, List.map_nil]); first | done | rfl | (simp only [List.length_drop, List.length_take]; rfl)) ?_; (with_reducible refine (wireloomlaw08_lexed.calls t355 t356 t359 t360 _ ?side1 A9.out).mono ?_); (case side1 => exact GL.below hGL (by repeat (first | (with_reducible first | exact HB.out | apply below_alloc | apply pw_below_drewN | apply below_drew1) | exact HB.out))); rintro e w13 ⟨v357, rfl, ho0, hb⟩; refine ⟨_, rfl, ?_⟩; have n0_ := Aside0.mk (Kd.R_lower ho0 (below_size (by repeat (first | (with_reducible first | exact HB.out | apply below_alloc | apply pw_below_drewN | apply below_drew1) | exact HB.out)))); have n1_ := Aside0.mk (below_step (by repeat (first | (with_reducible first | exact HB.out | apply below_alloc | apply pw_below_drewN | apply below_drew1) | exact HB.out)) hb); clear HB; have HO358 := n0_; have HB := n1_; clear n0_ n1_; (try clear hb); (try clear hb2); (try clear hk); (try clear hi); (try clear ho0); (try clear A9)) | ((with_reducible refine gate_dst (N := 7) rfl ?_); (try (refine gate_guard (by rfl) ?_; dsimp only)); refine box_event ?hg (N := 7) ?hd (cs := #[.slice none 0 0, .int .i64 0, .int .i64 0]) (t := 29) ?hr ?_; (case hd => rfl); (case hg => rfl); (case hr => first | (go_simp; done) | (go_simp; rfl)); intro gb361 hg w14 hbox hb; have n0_ := Aside0.mk (Kd.R_below (by (with_reducible repeat (first | apply Kd.R_alloc | apply Kd.R_drewN | apply Kd.R_drew)); exact HO358.out) hb); have n1_ := Aside0.mk (below_step (by repeat (first | (with_reducible first | exact HB.out | apply below_alloc | apply pw_below_drewN | apply below_drew1) | exact HB.out)) hb); have n2_ := Aside0.mk (hbox); have n3_ := Aside0.mk ((by rw [hg]; exact (below_size (by repeat (first | (with_reducible first | exact HB.out | apply below_alloc | apply pw_below_drewN | apply below_drew1) | exact HB.out))) : w.heap.size ≤ gb361)); have n4_ := Aside0.mk ((by rw [hg]; exact (below_size (by repeat (first | (with_reducible first | exact HB.out | apply below_alloc | apply pw_below_drewN | apply below_drew1) | exact HB.out))) : w.heap.size ≤ gb361)); clear HO358; clear HB; have HO358 := n0_; have HB := n1_; have BK361 := n2_; have GW361 := n3_; have GE361 := n4_; clear n0_ n1_ n2_ n3_ n4_; clear hb hbox hg; obtain ⟨Ao15, co15, eo15⟩ := Kd.R_slice HO358.out; subst eo15; have hcz16_0 : w14.cell? ⟨gb361, 0, none⟩ = some (.slice none 0 0) := (blk_cell BK361.out 0).trans rfl; have hcz16_1 : w14.cell? ⟨gb361, 1, none⟩ = some (.int .i64 0) := (blk_cell BK361.out 1).trans rfl; have hcz16_2 : w14.cell? ⟨gb361, 2, none⟩ = some (.int .i64 0) := (blk_cell BK361.out 2).trans rfl; have hfz16_0 := blk_frozen BK361.out 0; have hfz16_1 := blk_frozen BK361.out 1; have hfz16_2 := blk_frozen BK361.out 2))
            go_ret
            exact ⟨by first | rfl | (simp [errW_none, errW_some] <;> rfl) | (simp [*, errW_none, errW_some] <;> rfl), by repeat (first | (with_reducible first | exact HB.out | apply below_alloc | apply pw_below_drewN | apply below_drew1 | refine below_set ?_ GE361.out) | exact HB.out)⟩
          · rw [if_neg c11] at H
            have c11b0 : (t359 == 0) = false := beq_eq_false_iff_ne.mpr c11
            have c11b1 : (t359 != 0) = true := bne_iff_ne.mpr c11
            obtain rfl := Option.some.inj H
            go_wp2_with (first | ((with_reducible refine gate_callee (f := 11) rfl ?_); refine goesL_ (some 20) rfl rfl Tryd.func11 (by kernel_rfl) rfl #[.slice A0 l0.length c0] rfl (by (try simp only [List.map_toArray, List.map_cons, List.map_nil]); first | done | rfl | (simp only [List.length_drop, List.length_take]; rfl)) ?_; (with_reducible refine (wireloomref08_Made.calls kj3 _ _ l0 t355 _ ?side1 ?side2 A8.out).mono ?_); (case side1 => repeat (first | exact (Kd.C_below HR0.out HB.out) | (with_reducible refine Kd.C_alloc ?_ _) | (with_reducible refine Kd.C_drewN ?_ _) | (with_reducible refine Kd.C_drew ?_))); (case side2 => exact HC0.out); rintro e w17 ⟨rfl, hb⟩; refine ⟨_, rfl, ?_⟩; have n0_ := Aside0.mk (below_step (by repeat (first | (with_reducible first | exact HB.out | apply below_alloc | apply pw_below_drewN | apply below_drew1) | exact HB.out)) hb); clear HB; have HB := n0_; clear n0_; (try clear hb); (try clear hb2); (try clear hk); (try clear hi); (try clear A8)) | ((with_reducible refine gate_callee (f := 13) rfl ?_); refine goesL_ (some 22) rfl rfl Tryd.func13 (by kernel_rfl) rfl #[.string t355] rfl (by (try simp only [List.map_toArray, List.map_cons, List.map_nil]); first | done | rfl | (simp only [List.length_drop, List.length_take]; rfl)) ?_; (with_reducible refine (wireloomlaw08_lexed.calls t355 t356 t359 t360 _ ?side1 A9.out).mono ?_); (case side1 => exact GL.below hGL (by repeat (first | (with_reducible first | exact HB.out | apply below_alloc | apply pw_below_drewN | apply below_drew1) | exact HB.out))); rintro e w18 ⟨v357, rfl, ho0, hb⟩; refine ⟨_, rfl, ?_⟩; have n0_ := Aside0.mk (Kd.R_lower ho0 (below_size (by repeat (first | (with_reducible first | exact HB.out | apply below_alloc | apply pw_below_drewN | apply below_drew1) | exact HB.out)))); have n1_ := Aside0.mk (below_step (by repeat (first | (with_reducible first | exact HB.out | apply below_alloc | apply pw_below_drewN | apply below_drew1) | exact HB.out)) hb); clear HB; have HO358 := n0_; have HB := n1_; clear n0_ n1_; (try clear hb); (try clear hb2); (try clear hk); (try clear hi); (try clear ho0); (try clear A9)) | ((with_reducible refine gate_dst (N := 7) rfl ?_); (try (refine gate_guard (by rfl) ?_; dsimp only)); refine box_event ?hg (N := 7) ?hd (cs := #[.slice none 0 0, .int .i64 0, .int .i64 0]) (t := 29) ?hr ?_; (case hd => rfl); (case hg => rfl); (case hr => first | (go_simp; done) | (go_simp; rfl)); intro gb361 hg w19 hbox hb; have n0_ := Aside0.mk (Kd.R_below (by (with_reducible repeat (first | apply Kd.R_alloc | apply Kd.R_drewN | apply Kd.R_drew)); exact HO358.out) hb); have n1_ := Aside0.mk (below_step (by repeat (first | (with_reducible first | exact HB.out | apply below_alloc | apply pw_below_drewN | apply below_drew1) | exact HB.out)) hb); have n2_ := Aside0.mk (hbox); have n3_ := Aside0.mk ((by rw [hg]; exact (below_size (by repeat (first | (with_reducible first | exact HB.out | apply below_alloc | apply pw_below_drewN | apply below_drew1) | exact HB.out))) : w.heap.size ≤ gb361)); have n4_ := Aside0.mk ((by rw [hg]; exact (below_size (by repeat (first | (with_reducible first | exact HB.out | apply below_alloc | apply pw_below_drewN | apply below_drew1) | exact HB.out))) : w.heap.size ≤ gb361)); clear HO358; clear HB; have HO358 := n0_; have HB := n1_; have BK361 := n2_; have GW361 := n3_; have GE361 := n4_; clear n0_ n1_ n2_ n3_ n4_; clear hb hbox hg; obtain ⟨Ao20, co20, eo20⟩ := Kd.R_slice HO358.out; subst eo20; have hcz21_0 : w19.cell? ⟨gb361, 0, none⟩ = some (.slice none 0 0) := (blk_cell BK361.out 0).trans rfl; have hcz21_1 : w19.cell? ⟨gb361, 1, none⟩ = some (.int .i64 0) := (blk_cell BK361.out 1).trans rfl; have hcz21_2 : w19.cell? ⟨gb361, 2, none⟩ = some (.int .i64 0) := (blk_cell BK361.out 2).trans rfl; have hfz21_0 := blk_frozen BK361.out 0; have hfz21_1 := blk_frozen BK361.out 1; have hfz21_2 := blk_frozen BK361.out 2))
            go_ret
            exact ⟨by first | rfl | (simp [errW_none, errW_some] <;> rfl) | (simp [*, errW_none, errW_some] <;> rfl), by repeat (first | (with_reducible first | exact HB.out | apply below_alloc | apply pw_below_drewN | apply below_drew1 | refine below_set ?_ GE361.out) | exact HB.out)⟩
        · rw [if_neg c10] at H
          have c10b0 : (t360 == 0) = false := beq_eq_false_iff_ne.mpr c10
          have c10b1 : (t360 != 0) = true := bne_iff_ne.mpr c10
          have HC22 := Aside0.mk H
          clear H
          go_upto_region 8 with (first | ((with_reducible refine gate_callee (f := 11) rfl ?_); refine goesL_ (some 20) rfl rfl Tryd.func11 (by kernel_rfl) rfl #[.slice A0 l0.length c0] rfl (by (try simp only [List.map_toArray, List.map_cons, List.map_nil]); first | done | rfl | (simp only [List.length_drop, List.length_take]; rfl)) ?_; (with_reducible refine (wireloomref08_Made.calls kj3 _ _ l0 t355 _ ?side1 ?side2 A8.out).mono ?_); (case side1 => repeat (first | exact (Kd.C_below HR0.out HB.out) | (with_reducible refine Kd.C_alloc ?_ _) | (with_reducible refine Kd.C_drewN ?_ _) | (with_reducible refine Kd.C_drew ?_))); (case side2 => exact HC0.out); rintro e w23 ⟨rfl, hb⟩; refine ⟨_, rfl, ?_⟩; have n0_ := Aside0.mk (below_step (by repeat (first | (with_reducible first | exact HB.out | apply below_alloc | apply pw_below_drewN | apply below_drew1) | exact HB.out)) hb); clear HB; have HB := n0_; clear n0_; (try clear hb); (try clear hb2); (try clear hk); (try clear hi); (try clear A8)) | ((with_reducible refine gate_callee (f := 13) rfl ?_); refine goesL_ (some 22) rfl rfl Tryd.func13 (by kernel_rfl) rfl #[.string t355] rfl (by (try simp only [List.map_toArray, List.map_cons, List.map_nil]); first | done | rfl | (simp only [List.length_drop, List.length_take]; rfl)) ?_; (with_reducible refine (wireloomlaw08_lexed.calls t355 t356 t359 t360 _ ?side1 A9.out).mono ?_); (case side1 => exact GL.below hGL (by repeat (first | (with_reducible first | exact HB.out | apply below_alloc | apply pw_below_drewN | apply below_drew1) | exact HB.out))); rintro e w24 ⟨v357, rfl, ho0, hb⟩; refine ⟨_, rfl, ?_⟩; have n0_ := Aside0.mk (Kd.R_lower ho0 (below_size (by repeat (first | (with_reducible first | exact HB.out | apply below_alloc | apply pw_below_drewN | apply below_drew1) | exact HB.out)))); have n1_ := Aside0.mk (below_step (by repeat (first | (with_reducible first | exact HB.out | apply below_alloc | apply pw_below_drewN | apply below_drew1) | exact HB.out)) hb); clear HB; have HO358 := n0_; have HB := n1_; clear n0_ n1_; (try clear hb); (try clear hb2); (try clear hk); (try clear hi); (try clear ho0); (try clear A9)) | ((with_reducible refine gate_dst (N := 7) rfl ?_); (try (refine gate_guard (by rfl) ?_; dsimp only)); refine box_event ?hg (N := 7) ?hd (cs := #[.slice none 0 0, .int .i64 0, .int .i64 0]) (t := 29) ?hr ?_; (case hd => rfl); (case hg => rfl); (case hr => first | (go_simp; done) | (go_simp; rfl)); intro gb361 hg w25 hbox hb; have n0_ := Aside0.mk (Kd.R_below (by (with_reducible repeat (first | apply Kd.R_alloc | apply Kd.R_drewN | apply Kd.R_drew)); exact HO358.out) hb); have n1_ := Aside0.mk (below_step (by repeat (first | (with_reducible first | exact HB.out | apply below_alloc | apply pw_below_drewN | apply below_drew1) | exact HB.out)) hb); have n2_ := Aside0.mk (hbox); have n3_ := Aside0.mk ((by rw [hg]; exact (below_size (by repeat (first | (with_reducible first | exact HB.out | apply below_alloc | apply pw_below_drewN | apply below_drew1) | exact HB.out))) : w.heap.size ≤ gb361)); have n4_ := Aside0.mk ((by rw [hg]; exact (below_size (by repeat (first | (with_reducible first | exact HB.out | apply below_alloc | apply pw_below_drewN | apply below_drew1) | exact HB.out))) : w.heap.size ≤ gb361)); clear HO358; clear HB; have HO358 := n0_; have HB := n1_; have BK361 := n2_; have GW361 := n3_; have GE361 := n4_; clear n0_ n1_ n2_ n3_ n4_; clear hb hbox hg; obtain ⟨Ao26, co26, eo26⟩ := Kd.R_slice HO358.out; subst eo26; have hcz27_0 : w25.cell? ⟨gb361, 0, none⟩ = some (.slice none 0 0) := (blk_cell BK361.out 0).trans rfl; have hcz27_1 : w25.cell? ⟨gb361, 1, none⟩ = some (.int .i64 0) := (blk_cell BK361.out 1).trans rfl; have hcz27_2 : w25.cell? ⟨gb361, 2, none⟩ = some (.int .i64 0) := (blk_cell BK361.out 2).trans rfl; have hfz27_0 := blk_frozen BK361.out 0; have hfz27_1 := blk_frozen BK361.out 1; have hfz27_2 := blk_frozen BK361.out 2))
          (try simp only [Act.put, List.setIfInBounds_toArray, List.set_cons_zero, List.set_cons_succ])
          go_cut [50] (fun v50 wc => ∃ (kq : Nat) (x50_21 : Bool), v50 = .bool x50_21 ∧ Aside0 (wireloomlaw08_LexerErrors.j1 kq a1 t354 t355 x50_21 t356 t359 t360 = some r) ∧ Aside0 (kq ≤ kj3) ∧ Aside0 (Kd.R k39 39 wc w.heap.size (fun _ => True) (.slice Ao26 t356.length co26) t356) ∧ Aside0 (wc.heap[gb361]? = some (.cells #[(.slice Ao26 t356.length co26), .int .i64 t359, .int .i64 t360] 29 (0, 0))) ∧ Aside0 (Below w.heap.size w wc))
          case first =>
            have H := HC22.out
            clear HC22
            by_cases c28 : t359 < 0
            · rw [if_pos c28] at H
              have c28b0 : decide (t359 < 0) = true := decide_eq_true c28
              clear c28
              (first | rw [c28b0] | (simp only [i64_w, i32_w]; rw [c28b0]) | skip)
              have H' := Aside0.mk H
              clear H
              have hcz29_0 : w25.cell? ⟨gb361, 0, none⟩ = some (.slice none 0 0) := (blk_cell BK361.out 0).trans rfl
              have hcz29_1 : w25.cell? ⟨gb361, 1, none⟩ = some (.int .i64 0) := (blk_cell BK361.out 1).trans rfl
              have hcz29_2 : w25.cell? ⟨gb361, 2, none⟩ = some (.int .i64 0) := (blk_cell BK361.out 2).trans rfl
              have hfz29_0 := blk_frozen BK361.out 0
              have hfz29_1 := blk_frozen BK361.out 1
              have hfz29_2 := blk_frozen BK361.out 2
              go_wp2
              go_meet
              case rel => exact ⟨_, (true), (by first | rfl | (simp; done) | (simp [*]; done)), H', ⟨by have := HJ3.out; first | omega | exact Nat.le_refl _⟩, ⟨by (with_reducible repeat (first | apply Kd.R_alloc | apply Kd.R_drewN | apply Kd.R_drew)); exact Kd.R_mono (Kd.R_far (p := ⟨gb361, 2, none⟩) (Kd.R_far (p := ⟨gb361, 1, none⟩) (Kd.R_far (p := ⟨gb361, 0, none⟩) (Kd.R_types HO358.out BK361.out (by decide)) (fun _ hk => hk.2) (.slice Ao26 t356.length co26)) (fun _ hk => hk.2) (.int .i64 t359)) (fun _ hk => hk.2) (.int .i64 t360)) (fun _ hk => trivial)⟩, ⟨by (with_reducible repeat (first | refine blk_drewN ?_ _ | refine blk_drew ?_ | refine blk_alloc ?_ _)); refine blk_put (cs := #[.slice Ao26 t356.length co26, .int .i64 t359, .int .i64 0]) ?_ 2 _ rfl; (with_reducible repeat (first | refine blk_drewN ?_ _ | refine blk_drew ?_ | refine blk_alloc ?_ _)); refine blk_put (cs := #[.slice Ao26 t356.length co26, .int .i64 0, .int .i64 0]) ?_ 1 _ rfl; (with_reducible repeat (first | refine blk_drewN ?_ _ | refine blk_drew ?_ | refine blk_alloc ?_ _)); refine blk_put (cs := #[.slice none 0 0, .int .i64 0, .int .i64 0]) ?_ 0 _ rfl; (with_reducible repeat (first | refine blk_drewN ?_ _ | refine blk_drew ?_ | refine blk_alloc ?_ _)); exact BK361.out⟩, ⟨by repeat (first | (with_reducible first | exact HB.out | apply below_alloc | apply pw_below_drewN | apply below_drew1 | refine below_set ?_ GE361.out) | exact HB.out)⟩⟩
            · rw [if_neg c28] at H
              have c28b0 : decide (t359 < 0) = false := decide_eq_false c28
              clear c28
              (first | rw [c28b0] | (simp only [i64_w, i32_w]; rw [c28b0]) | skip)
              by_cases c30 : t359 ≥ (t355.size : Int)
              · rw [if_pos c30] at H
                have c30b0 : decide ((t355.size : Int) ≤ t359) = true := decide_eq_true c30
                clear c30
                have H' := Aside0.mk H
                clear H
                have hcz31_0 : w25.cell? ⟨gb361, 0, none⟩ = some (.slice none 0 0) := (blk_cell BK361.out 0).trans rfl
                have hcz31_1 : w25.cell? ⟨gb361, 1, none⟩ = some (.int .i64 0) := (blk_cell BK361.out 1).trans rfl
                have hcz31_2 : w25.cell? ⟨gb361, 2, none⟩ = some (.int .i64 0) := (blk_cell BK361.out 2).trans rfl
                have hfz31_0 := blk_frozen BK361.out 0
                have hfz31_1 := blk_frozen BK361.out 1
                have hfz31_2 := blk_frozen BK361.out 2
                go_wp2
                go_meet
                case rel => exact ⟨_, (true), (by first | rfl | (simp; done) | (simp [*]; done)), H', ⟨by have := HJ3.out; first | omega | exact Nat.le_refl _⟩, ⟨by (with_reducible repeat (first | apply Kd.R_alloc | apply Kd.R_drewN | apply Kd.R_drew)); exact Kd.R_mono (Kd.R_far (p := ⟨gb361, 2, none⟩) (Kd.R_far (p := ⟨gb361, 1, none⟩) (Kd.R_far (p := ⟨gb361, 0, none⟩) (Kd.R_types HO358.out BK361.out (by decide)) (fun _ hk => hk.2) (.slice Ao26 t356.length co26)) (fun _ hk => hk.2) (.int .i64 t359)) (fun _ hk => hk.2) (.int .i64 t360)) (fun _ hk => trivial)⟩, ⟨by (with_reducible repeat (first | refine blk_drewN ?_ _ | refine blk_drew ?_ | refine blk_alloc ?_ _)); refine blk_put (cs := #[.slice Ao26 t356.length co26, .int .i64 t359, .int .i64 0]) ?_ 2 _ rfl; (with_reducible repeat (first | refine blk_drewN ?_ _ | refine blk_drew ?_ | refine blk_alloc ?_ _)); refine blk_put (cs := #[.slice Ao26 t356.length co26, .int .i64 0, .int .i64 0]) ?_ 1 _ rfl; (with_reducible repeat (first | refine blk_drewN ?_ _ | refine blk_drew ?_ | refine blk_alloc ?_ _)); refine blk_put (cs := #[.slice none 0 0, .int .i64 0, .int .i64 0]) ?_ 0 _ rfl; (with_reducible repeat (first | refine blk_drewN ?_ _ | refine blk_drew ?_ | refine blk_alloc ?_ _)); exact BK361.out⟩, ⟨by repeat (first | (with_reducible first | exact HB.out | apply below_alloc | apply pw_below_drewN | apply below_drew1 | refine below_set ?_ GE361.out) | exact HB.out)⟩⟩
              · rw [if_neg c30] at H
                have c30b0 : decide ((t355.size : Int) ≤ t359) = false := decide_eq_false c30
                clear c30
                by_cases c32 : 0 ≤ t359
                · rw [if_pos c32] at H
                  have c32b0 := eq_true c32
                  have c32b1 : decide (0 ≤ t359) = true := decide_eq_true c32
                  clear c32
                  by_cases c33 : t359 ≤ (t355.size : Int)
                  · rw [if_pos c33] at H
                    have c33b0 := eq_true c33
                    have c33b1 : decide (t359 ≤ (t355.size : Int)) = true := decide_eq_true c33
                    clear c33
                    replace H := Option.bind_eq_some_iff.mp H
                    obtain ⟨⟨t362, t365, t366⟩, A340, H⟩ := H
                    replace H : (wireloomlaw08_LexerErrors.j1 kj3 a1 t354 t355 (t366 != 0) t356 t359 t360) = some r := H
                    have A34 := Aside0.mk A340
                    clear A340
                    have H' := Aside0.mk H
                    clear H
                    have hcz35_0 : w25.cell? ⟨gb361, 0, none⟩ = some (.slice none 0 0) := (blk_cell BK361.out 0).trans rfl
                    have hcz35_1 : w25.cell? ⟨gb361, 1, none⟩ = some (.int .i64 0) := (blk_cell BK361.out 1).trans rfl
                    have hcz35_2 : w25.cell? ⟨gb361, 2, none⟩ = some (.int .i64 0) := (blk_cell BK361.out 2).trans rfl
                    have hfz35_0 := blk_frozen BK361.out 0
                    have hfz35_1 := blk_frozen BK361.out 1
                    have hfz35_2 := blk_frozen BK361.out 2
                    go_wp2_with (first | (go_at_call 13; (with_reducible refine (wireloomlaw08_lexed.calls (t355.extract 0 (t359 : Int).toNat) t362 t365 t366 _ ?side1 A34.out).mono ?_); (case side1 => exact GL.below hGL (by repeat (first | (with_reducible first | exact HB.out | apply below_alloc | apply pw_below_drewN | apply below_drew1 | refine below_set ?_ GE361.out) | exact HB.out))); rintro e w36 ⟨v363, rfl, ho0, hb⟩; have n0_ := Aside0.mk (Kd.R_elder' (by (with_reducible repeat (first | apply Kd.R_alloc | apply Kd.R_drewN | apply Kd.R_drew)); exact (Kd.R_mono (Kd.R_far (p := ⟨gb361, 2, none⟩) (Kd.R_far (p := ⟨gb361, 1, none⟩) (Kd.R_far (p := ⟨gb361, 0, none⟩) (Kd.R_types HO358.out BK361.out (by decide)) (fun _ hk => hk.2) (.slice Ao26 t356.length co26)) (fun _ hk => hk.2) (.int .i64 t359)) (fun _ hk => hk.2) (.int .i64 t360)) (fun _ h_ => h_.1))) (Kd.R_base ho0) hb); have n1_ := Aside0.mk (Kd.R_lower (Kd.R_new' ho0 (Kd.R_lt (by (with_reducible repeat (first | apply Kd.R_alloc | apply Kd.R_drewN | apply Kd.R_drew)); exact (Kd.R_mono (Kd.R_far (p := ⟨gb361, 2, none⟩) (Kd.R_far (p := ⟨gb361, 1, none⟩) (Kd.R_far (p := ⟨gb361, 0, none⟩) (Kd.R_types HO358.out BK361.out (by decide)) (fun _ hk => hk.2) (.slice Ao26 t356.length co26)) (fun _ hk => hk.2) (.int .i64 t359)) (fun _ hk => hk.2) (.int .i64 t360)) (fun _ h_ => h_.1))))) (below_size (by repeat (first | (with_reducible first | exact HB.out | apply below_alloc | apply pw_below_drewN | apply below_drew1 | refine below_set ?_ GE361.out) | exact HB.out)))); have n2_ := Aside0.mk (blk_below (g := gb361) (o := .cells #[.slice Ao26 t356.length co26, .int .i64 t359, .int .i64 t360] 29 (0, 0)) (by (with_reducible repeat (first | refine blk_drewN ?_ _ | refine blk_drew ?_ | refine blk_alloc ?_ _)); refine blk_put (cs := #[.slice Ao26 t356.length co26, .int .i64 t359, .int .i64 0]) ?_ 2 _ rfl; (with_reducible repeat (first | refine blk_drewN ?_ _ | refine blk_drew ?_ | refine blk_alloc ?_ _)); refine blk_put (cs := #[.slice Ao26 t356.length co26, .int .i64 0, .int .i64 0]) ?_ 1 _ rfl; (with_reducible repeat (first | refine blk_drewN ?_ _ | refine blk_drew ?_ | refine blk_alloc ?_ _)); refine blk_put (cs := #[.slice none 0 0, .int .i64 0, .int .i64 0]) ?_ 0 _ rfl; (with_reducible repeat (first | refine blk_drewN ?_ _ | refine blk_drew ?_ | refine blk_alloc ?_ _)); exact BK361.out) hb); have n3_ := Aside0.mk (below_step (by repeat (first | (with_reducible first | exact HB.out | apply below_alloc | apply pw_below_drewN | apply below_drew1 | refine below_set ?_ GE361.out) | exact HB.out)) hb); clear HO358; clear BK361; clear HB; have HO358 := n0_; have HO364 := n1_; have BK361 := n2_; have HB := n3_; clear n0_ n1_ n2_ n3_; (try clear hb); (try clear hb2); (try clear hk); (try clear hi); (try clear ho0); (try clear A34)))
                    go_meet
                    case rel => exact ⟨_, ((t366 != 0)), (by first | rfl | (simp; done) | (simp [*]; done)), H', ⟨by have := HJ3.out; first | omega | exact Nat.le_refl _⟩, ⟨by (with_reducible repeat (first | apply Kd.R_alloc | apply Kd.R_drewN | apply Kd.R_drew)); exact Kd.R_mono HO358.out (fun _ hk => trivial)⟩, ⟨by (with_reducible repeat (first | refine blk_drewN ?_ _ | refine blk_drew ?_ | refine blk_alloc ?_ _)); exact BK361.out⟩, ⟨by repeat (first | (with_reducible first | exact HB.out | apply below_alloc | apply pw_below_drewN | apply below_drew1 | refine below_set ?_ GE361.out) | exact HB.out)⟩⟩
                  · rw [if_neg c33] at H
                    exact absurd H (by simp)
                · rw [if_neg c32] at H
                  exact absurd H (by simp)
          case rest =>
            clear HC22
            try clear c1
            try clear c2
            try clear p2
            try clear c3
            try clear c6
            try clear c7
            try clear c8
            try clear c10
            try clear c10b0
            try clear c10b1
            try clear c11
            try clear c11b0
            try clear c11b1
            try clear c13
            try clear c28
            try clear c28b0
            try clear c30
            try clear c30b0
            try clear c32
            try clear c32b0
            try clear c32b1
            try clear c33
            try clear c33b0
            try clear c33b1
            try clear hcz16_0
            try clear hcz16_1
            try clear hcz16_2
            try clear hcz21_0
            try clear hcz21_1
            try clear hcz21_2
            try clear hcz27_0
            try clear hcz27_1
            try clear hcz27_2
            try clear hcz29_0
            try clear hcz29_1
            try clear hcz29_2
            try clear hcz31_0
            try clear hcz31_1
            try clear hcz31_2
            try clear hcz35_0
            try clear hcz35_1
            try clear hcz35_2
            try clear hfz16_0
            try clear hfz16_1
            try clear hfz16_2
            try clear hfz21_0
            try clear hfz21_1
            try clear hfz21_2
            try clear hfz27_0
            try clear hfz27_1
            try clear hfz27_2
            try clear hfz29_0
            try clear hfz29_1
            try clear hfz29_2
            try clear hfz31_0
            try clear hfz31_1
            try clear hfz31_2
            try clear hfz35_0
            try clear hfz35_1
            try clear hfz35_2
            try clear p2
            obtain ⟨kq, x50_21, rfl, HA, HJ21, HO_362000, BK361, HB⟩ := hcut
            cases kq with
            | zero => exact absurd HA.out (by simp [wireloomlaw08_LexerErrors.j1])
            | succ kj21 =>
              have H := HA.out
              clear HA
              simp only [wireloomlaw08_LexerErrors.j1] at H
              by_cases c37 : x50_21 = true
              · subst c37
                have H1 : (some false) = some r := by rw [if_pos rfl] at H; exact H
                clear H
                have H := H1
                clear H1
                obtain rfl := Option.some.inj H
                go_wp2
                go_ret
                exact ⟨by first | rfl | (simp [errW_none, errW_some] <;> rfl) | (simp [*, errW_none, errW_some] <;> rfl), by repeat (first | (with_reducible first | exact HB.out | apply below_alloc | apply pw_below_drewN | apply below_drew1 | refine below_set ?_ GE361.out) | exact HB.out)⟩
              · replace c37 := Bool.eq_false_iff.mpr c37
                subst c37
                have H1 : (if t355.size + 1 ≤ 9223372036854775807 then (if (t355 ++ (⟨#[32]⟩ : ByteArray)).size + a1.size ≤ 9223372036854775807 then ((wireloomlaw08_lexed.f ((t355 ++ (⟨#[32]⟩ : ByteArray)) ++ a1)).bind fun bt367 => (wireloomlaw08_LexerErrors.l0 kj21 t354 (⟨#[]⟩ : ByteArray) t356 t359 t360 bt367.1 bt367.2.1 bt367.2.2)) else (none)) else (none)) = some r := by rw [if_neg (show ¬ (false = true) by decide)] at H; exact H
                clear H
                have H := H1
                clear H1
                by_cases c38 : t355.size + 1 ≤ 9223372036854775807
                · rw [if_pos c38] at H
                  have c38b0 := eq_true c38
                  have c38b1 : decide (t355.size + 1 ≤ 9223372036854775807) = true := decide_eq_true c38
                  try have c38b2 : (9223372036854775807 < t355.size + 1) = False := eq_false (Nat.not_lt.2 c38)
                  by_cases c39 : (t355 ++ (⟨#[32]⟩ : ByteArray)).size + a1.size ≤ 9223372036854775807
                  · rw [if_pos c39] at H
                    have c39s := c39
                    (try simp only [ByteArray.size_append] at c39s)
                    have c39o := c39
                    have c39b0 := eq_true c39
                    have c39b1 : decide ((t355 ++ (⟨#[32]⟩ : ByteArray)).size + a1.size ≤ 9223372036854775807) = true := decide_eq_true c39
                    try have c39b2 : (9223372036854775807 < (t355 ++ (⟨#[32]⟩ : ByteArray)).size + a1.size) = False := eq_false (Nat.not_lt.2 c39)
                    replace H := Option.bind_eq_some_iff.mp H
                    obtain ⟨⟨t367, t370, t371⟩, A400, H⟩ := H
                    replace H : (wireloomlaw08_LexerErrors.l0 kj21 t354 (⟨#[]⟩ : ByteArray) t356 t359 t360 t367 t370 t371) = some r := H
                    have A40 := Aside0.mk A400
                    clear A400
                    have H' := Aside0.mk H
                    clear H
                    go_wp2_with (first | ((with_reducible refine gate_callee (f := 13) rfl ?_); refine goesL_ (some 55) rfl rfl Tryd.func13 (by kernel_rfl) rfl #[.string ((t355 ++ (⟨#[32]⟩ : ByteArray)) ++ a1)] rfl (by (try simp only [List.map_toArray, List.map_cons, List.map_nil]); first | done | rfl | (simp only [List.length_drop, List.length_take]; rfl)) ?_; (with_reducible refine (wireloomlaw08_lexed.calls ((t355 ++ (⟨#[32]⟩ : ByteArray)) ++ a1) t367 t370 t371 _ ?side1 A40.out).mono ?_); (case side1 => exact GL.below hGL (by repeat (first | (with_reducible first | exact HB.out | apply below_alloc | apply pw_below_drewN | apply below_drew1 | refine below_set ?_ GE361.out) | exact HB.out))); rintro e w41 ⟨v368, rfl, ho0, hb⟩; refine ⟨_, rfl, ?_⟩; have n0_ := Aside0.mk (Kd.R_elder' (by (with_reducible repeat (first | apply Kd.R_alloc | apply Kd.R_drewN | apply Kd.R_drew)); exact HO_362000.out) (Kd.R_base ho0) hb); have n1_ := Aside0.mk (Kd.R_lower (Kd.R_new' ho0 (Kd.R_lt (by (with_reducible repeat (first | apply Kd.R_alloc | apply Kd.R_drewN | apply Kd.R_drew)); exact HO_362000.out))) (below_size (by repeat (first | (with_reducible first | exact HB.out | apply below_alloc | apply pw_below_drewN | apply below_drew1 | refine below_set ?_ GE361.out) | exact HB.out)))); have n2_ := Aside0.mk (blk_below (g := gb361) (o := .cells #[.slice Ao26 t356.length co26, .int .i64 t359, .int .i64 t360] 29 (0, 0)) (by (with_reducible repeat (first | refine blk_drewN ?_ _ | refine blk_drew ?_ | refine blk_alloc ?_ _)); exact BK361.out) hb); have n3_ := Aside0.mk (below_step (by repeat (first | (with_reducible first | exact HB.out | apply below_alloc | apply pw_below_drewN | apply below_drew1 | refine below_set ?_ GE361.out) | exact HB.out)) hb); clear HO_362000; clear BK361; clear HB; have HO_362000 := n0_; have HO369 := n1_; have BK361 := n2_; have HB := n3_; clear n0_ n1_ n2_ n3_; (try clear hb); (try clear hb2); (try clear hk); (try clear hi); (try clear ho0); (try clear A40)) | ((with_reducible refine gate_dst (N := 8) rfl ?_); (try (refine gate_guard (by rfl) ?_; dsimp only)); refine box_event ?hg (N := 8) ?hd (cs := #[.slice none 0 0, .int .i64 0, .int .i64 0]) (t := 29) ?hr ?_; (case hd => rfl); (case hg => rfl); (case hr => first | (go_simp; done) | (go_simp; rfl)); intro gb372 hg w42 hbox hb; have n0_ := Aside0.mk (Kd.R_below (by (with_reducible repeat (first | apply Kd.R_alloc | apply Kd.R_drewN | apply Kd.R_drew)); exact HO_362000.out) hb); have n1_ := Aside0.mk (Kd.R_below (by (with_reducible repeat (first | apply Kd.R_alloc | apply Kd.R_drewN | apply Kd.R_drew)); exact HO369.out) hb); have n2_ := Aside0.mk (blk_below (g := gb361) (o := .cells #[.slice Ao26 t356.length co26, .int .i64 t359, .int .i64 t360] 29 (0, 0)) (by (with_reducible repeat (first | refine blk_drewN ?_ _ | refine blk_drew ?_ | refine blk_alloc ?_ _)); exact BK361.out) hb); have n3_ := Aside0.mk (below_step (by repeat (first | (with_reducible first | exact HB.out | apply below_alloc | apply pw_below_drewN | apply below_drew1 | refine below_set ?_ GE361.out) | exact HB.out)) hb); have n4_ := Aside0.mk (hbox); have n5_ := Aside0.mk ((by rw [hg]; exact (below_size (by repeat (first | (with_reducible first | exact HB.out | apply below_alloc | apply pw_below_drewN | apply below_drew1 | refine below_set ?_ GE361.out) | exact HB.out))) : w.heap.size ≤ gb372)); have n6_ := Aside0.mk ((by rw [hg]; exact (below_size (by repeat (first | (with_reducible first | exact HB.out | apply below_alloc | apply pw_below_drewN | apply below_drew1 | refine below_set ?_ GE361.out) | exact HB.out))) : w.heap.size ≤ gb372)); have n7_ := Aside0.mk ((by rw [hg]; exact Nat.ne_of_lt (blk_lt (g := gb361) (o := .cells #[.slice Ao26 t356.length co26, .int .i64 t359, .int .i64 t360] 29 (0, 0)) (by (with_reducible repeat (first | refine blk_drewN ?_ _ | refine blk_drew ?_ | refine blk_alloc ?_ _)); exact BK361.out)) : gb361 ≠ gb372)); have n8_ := Aside0.mk ((by rw [hg]; exact Nat.ne_of_gt (blk_lt (g := gb361) (o := .cells #[.slice Ao26 t356.length co26, .int .i64 t359, .int .i64 t360] 29 (0, 0)) (by (with_reducible repeat (first | refine blk_drewN ?_ _ | refine blk_drew ?_ | refine blk_alloc ?_ _)); exact BK361.out)) : gb372 ≠ gb361)); clear HO_362000; clear HO369; clear BK361; clear HB; have HO_362000 := n0_; have HO369 := n1_; have BK361 := n2_; have HB := n3_; have BK372 := n4_; have GW372 := n5_; have GE372 := n6_; have NB361_372 := n7_; have NB372_361 := n8_; clear n0_ n1_ n2_ n3_ n4_ n5_ n6_ n7_ n8_; clear hb hbox hg; obtain ⟨Ao43, co43, eo43⟩ := Kd.R_slice HO369.out; subst eo43; have hnb44 := NB372_361.out; have hnc44 := NB361_372.out; have hcz45_0 : w42.cell? ⟨gb372, 0, none⟩ = some (.slice none 0 0) := (blk_cell BK372.out 0).trans rfl; have hcz45_1 : w42.cell? ⟨gb372, 1, none⟩ = some (.int .i64 0) := (blk_cell BK372.out 1).trans rfl; have hcz45_2 : w42.cell? ⟨gb372, 2, none⟩ = some (.int .i64 0) := (blk_cell BK372.out 2).trans rfl; have hfz45_0 := blk_frozen BK372.out 0; have hfz45_1 := blk_frozen BK372.out 1; have hfz45_2 := blk_frozen BK372.out 2))
                    go_loopg [9] kj21 (fun kq v9 w' => ∃ (x9_3 : ByteArray), v9 = .string x9_3 ∧ Aside0 (wireloomlaw08_LexerErrors.l0 kq t354 x9_3 t356 t359 t360 t367 t370 t371 = some r) ∧ Aside0 (kq ≤ kj21) ∧ Aside0 (Kd.R k39 39 w' w.heap.size (fun k_ => some k_ ≠ ((.slice Ao43 t367.length co43) : Value).ownBlock) (.slice Ao26 t356.length co26) t356) ∧ Aside0 (Kd.R k39 39 w' w.heap.size (fun k_ => some k_ ≠ ((.slice Ao26 t356.length co26) : Value).ownBlock) (.slice Ao43 t367.length co43) t367) ∧ Aside0 (w'.heap[gb361]? = some (.cells #[(.slice Ao26 t356.length co26), .int .i64 t359, .int .i64 t360] 29 (0, 0))) ∧ Aside0 (w'.heap[gb372]? = some (.cells #[(.slice Ao43 t367.length co43), .int .i64 t370, .int .i64 t371] 29 (0, 0))) ∧ Aside0 (Below w.heap.size w w'))
                    case atStart => exact ⟨((⟨#[]⟩ : ByteArray)), (by first | rfl | (simp; done) | (simp [*]; done)), H', ⟨Nat.le_refl _⟩, ⟨by (with_reducible repeat (first | apply Kd.R_alloc | apply Kd.R_drewN | apply Kd.R_drew)); exact Kd.R_mono (Kd.R_far (p := ⟨gb372, 2, none⟩) (Kd.R_far (p := ⟨gb372, 1, none⟩) (Kd.R_far (p := ⟨gb372, 0, none⟩) (Kd.R_types HO_362000.out BK372.out (by decide)) (fun _ hk => hk.2) (.slice Ao43 t367.length co43)) (fun _ hk => hk.2) (.int .i64 t370)) (fun _ hk => hk.2) (.int .i64 t371)) (fun _ hk => hk.1.2)⟩, ⟨by (with_reducible repeat (first | apply Kd.R_alloc | apply Kd.R_drewN | apply Kd.R_drew)); exact Kd.R_mono (Kd.R_far (p := ⟨gb372, 2, none⟩) (Kd.R_far (p := ⟨gb372, 1, none⟩) (Kd.R_far (p := ⟨gb372, 0, none⟩) (Kd.R_types HO369.out BK372.out (by decide)) (fun _ hk => hk.2) (.slice Ao43 t367.length co43)) (fun _ hk => hk.2) (.int .i64 t370)) (fun _ hk => hk.2) (.int .i64 t371)) (fun _ hk => hk.1.2)⟩, ⟨by (with_reducible repeat (first | refine blk_drewN ?_ _ | refine blk_drew ?_ | refine blk_alloc ?_ _)); refine blk_far ?_ NB361_372.out _; (with_reducible repeat (first | refine blk_drewN ?_ _ | refine blk_drew ?_ | refine blk_alloc ?_ _)); refine blk_far ?_ NB361_372.out _; (with_reducible repeat (first | refine blk_drewN ?_ _ | refine blk_drew ?_ | refine blk_alloc ?_ _)); refine blk_far ?_ NB361_372.out _; (with_reducible repeat (first | refine blk_drewN ?_ _ | refine blk_drew ?_ | refine blk_alloc ?_ _)); exact BK361.out⟩, ⟨by (with_reducible repeat (first | refine blk_drewN ?_ _ | refine blk_drew ?_ | refine blk_alloc ?_ _)); refine blk_put (cs := #[.slice Ao43 t367.length co43, .int .i64 t370, .int .i64 0]) ?_ 2 _ rfl; (with_reducible repeat (first | refine blk_drewN ?_ _ | refine blk_drew ?_ | refine blk_alloc ?_ _)); refine blk_put (cs := #[.slice Ao43 t367.length co43, .int .i64 0, .int .i64 0]) ?_ 1 _ rfl; (with_reducible repeat (first | refine blk_drewN ?_ _ | refine blk_drew ?_ | refine blk_alloc ?_ _)); refine blk_put (cs := #[.slice none 0 0, .int .i64 0, .int .i64 0]) ?_ 0 _ rfl; (with_reducible repeat (first | refine blk_drewN ?_ _ | refine blk_drew ?_ | refine blk_alloc ?_ _)); exact BK372.out⟩, ⟨by repeat (first | (with_reducible first | exact HB.out | apply below_alloc | apply pw_below_drewN | apply below_drew1 | refine below_set ?_ GE361.out | refine below_set ?_ GE372.out) | exact HB.out)⟩⟩
                    case round =>
                      clear H'
                      try clear c1
                      try clear c2
                      try clear p2
                      try clear c3
                      try clear c4
                      try clear c6
                      try clear c7
                      try clear c8
                      try clear c10
                      try clear c10b0
                      try clear c10b1
                      try clear c11
                      try clear c11b0
                      try clear c11b1
                      try clear c13
                      try clear c28
                      try clear c28b0
                      try clear c30
                      try clear c30b0
                      try clear c32
                      try clear c32b0
                      try clear c32b1
                      try clear c33
                      try clear c33b0
                      try clear c33b1
                      try clear c37
                      try clear c38
                      try clear c38b0
                      try clear c38b1
                      try clear c38b2
                      try clear c39
                      try clear c39b0
                      try clear c39b1
                      try clear c39b2
                      try clear c44
                      try clear hcz16_0
                      try clear hcz16_1
                      try clear hcz16_2
                      try clear hcz21_0
                      try clear hcz21_1
                      try clear hcz21_2
                      try clear hcz27_0
                      try clear hcz27_1
                      try clear hcz27_2
                      try clear hcz29_0
                      try clear hcz29_1
                      try clear hcz29_2
                      try clear hcz31_0
                      try clear hcz31_1
                      try clear hcz31_2
                      try clear hcz35_0
                      try clear hcz35_1
                      try clear hcz35_2
                      try clear hcz45_0
                      try clear hcz45_1
                      try clear hcz45_2
                      try clear hfz16_0
                      try clear hfz16_1
                      try clear hfz16_2
                      try clear hfz21_0
                      try clear hfz21_1
                      try clear hfz21_2
                      try clear hfz27_0
                      try clear hfz27_1
                      try clear hfz27_2
                      try clear hfz29_0
                      try clear hfz29_1
                      try clear hfz29_2
                      try clear hfz31_0
                      try clear hfz31_1
                      try clear hfz31_2
                      try clear hfz35_0
                      try clear hfz35_1
                      try clear hfz35_2
                      try clear hfz45_0
                      try clear hfz45_1
                      try clear hfz45_2
                      try clear p2
                      obtain ⟨x9_3, rfl, HA, HK3, HO_362000, HO_373000, BK361, BK372, HB⟩ := hrel
                      cases gk with
                      | zero => exact absurd HA.out (by simp [wireloomlaw08_LexerErrors.l0])
                      | succ k3 =>
                        have H := HA.out
                        clear HA
                        simp only [wireloomlaw08_LexerErrors.l0] at H
                        by_cases c46 : (x9_3.size : Int) ≤ 8000
                        · rw [if_pos c46] at H
                          have c46b0 : decide ((x9_3.size : Int) ≤ 8000) = true := decide_eq_true c46
                          have c46b1 : decide (x9_3.size ≤ 8000) = true := decide_eq_true (by omega)
                          clear c46
                          by_cases c47 : x9_3.size + 85 ≤ 9223372036854775807
                          · rw [if_pos c47] at H
                            have c47b0 := eq_true c47
                            have c47b1 : decide (x9_3.size + 85 ≤ 9223372036854775807) = true := decide_eq_true c47
                            try have c47b2 : (9223372036854775807 < x9_3.size + 85) = False := eq_false (Nat.not_lt.2 c47)
                            have H' := Aside0.mk H
                            clear H
                            go_wp2
                            go_roundg k3
                            case measure => have := HJ3.out; have := HJ21.out; have := HK3.out; omega
                            case rel => exact ⟨(x9_3 ++ (⟨#[109, 111, 100, 117, 108, 101, 32, 97, 32, 47, 47, 32, 97, 32, 99, 111, 109, 109, 101, 110, 116, 32, 116, 104, 97, 116, 32, 105, 115, 32, 114, 97, 116, 104, 101, 114, 32, 108, 111, 110, 103, 44, 32, 115, 111, 32, 116, 104, 97, 116, 32, 116, 104, 105, 115, 32, 102, 105, 108, 101, 32, 115, 111, 111, 110, 32, 104, 97, 115, 32, 116, 111, 111, 32, 109, 97, 110, 121, 32, 98, 121, 116, 101, 115, 10]⟩ : ByteArray)), (by first | rfl | (simp; done) | (simp [*]; done)), H', ⟨by have := HJ3.out; have := HJ21.out; have := HK3.out; omega⟩, ⟨by (with_reducible repeat (first | apply Kd.R_alloc | apply Kd.R_drewN | apply Kd.R_drew)); exact HO_362000.out⟩, ⟨by (with_reducible repeat (first | apply Kd.R_alloc | apply Kd.R_drewN | apply Kd.R_drew)); exact HO_373000.out⟩, ⟨by (with_reducible repeat (first | refine blk_drewN ?_ _ | refine blk_drew ?_ | refine blk_alloc ?_ _)); exact BK361.out⟩, ⟨by (with_reducible repeat (first | refine blk_drewN ?_ _ | refine blk_drew ?_ | refine blk_alloc ?_ _)); exact BK372.out⟩, ⟨by repeat (first | (with_reducible first | exact HB.out | apply below_alloc | apply pw_below_drewN | apply below_drew1 | refine below_set ?_ GE361.out | refine below_set ?_ GE372.out) | exact HB.out)⟩⟩
                          · rw [if_neg c47] at H
                            exact absurd H (by simp)
                        · rw [if_neg c46] at H
                          have c46b0 : decide ((x9_3.size : Int) ≤ 8000) = false := decide_eq_false c46
                          have c46b1 : decide (x9_3.size ≤ 8000) = false := decide_eq_false (by omega)
                          clear c46
                          by_cases c48 : t371 = t360
                          · rw [if_pos c48] at H
                            have c48b0 : (t371 == t360) = true := beq_iff_eq.mpr c48
                            have c48b1 : (t371 != t360) = false := bne_eq_false_iff_eq.mpr c48
                            clear c48
                            by_cases c49 : t370 = t359
                            · rw [if_pos c49] at H
                              have c49b0 : (t370 == t359) = true := beq_iff_eq.mpr c49
                              have c49b1 : (t370 != t359) = false := bne_eq_false_iff_eq.mpr c49
                              clear c49
                              replace H := Option.bind_eq_some_iff.mp H
                              obtain ⟨⟨t373, t376, t377⟩, A500, H⟩ := H
                              replace H : (if t377 = 2 then (some t354) else (some false)) = some r := H
                              have A50 := Aside0.mk A500
                              clear A500
                              by_cases c51 : t377 = 2
                              · rw [if_pos c51] at H
                                have c51b0 : (t377 == 2) = true := beq_iff_eq.mpr c51
                                have c51b1 : (t377 != 2) = false := bne_eq_false_iff_eq.mpr c51
                                clear c51
                                obtain rfl := Option.some.inj H
                                have hnb52 := NB372_361.out
                                have hnc52 := NB361_372.out
                                have hcz53_0 : wr.cell? ⟨gb372, 0, none⟩ = some (.slice Ao43 t367.length co43) := (blk_cell BK372.out 0).trans rfl
                                have hcz53_1 : wr.cell? ⟨gb372, 1, none⟩ = some (.int .i64 t370) := (blk_cell BK372.out 1).trans rfl
                                have hcz53_2 : wr.cell? ⟨gb372, 2, none⟩ = some (.int .i64 t371) := (blk_cell BK372.out 2).trans rfl
                                have hfz53_0 := blk_frozen BK372.out 0
                                have hfz53_1 := blk_frozen BK372.out 1
                                have hfz53_2 := blk_frozen BK372.out 2
                                have hcz54_0 : wr.cell? ⟨gb361, 0, none⟩ = some (.slice Ao26 t356.length co26) := (blk_cell BK361.out 0).trans rfl
                                have hcz54_1 : wr.cell? ⟨gb361, 1, none⟩ = some (.int .i64 t359) := (blk_cell BK361.out 1).trans rfl
                                have hcz54_2 : wr.cell? ⟨gb361, 2, none⟩ = some (.int .i64 t360) := (blk_cell BK361.out 2).trans rfl
                                have hfz54_0 := blk_frozen BK361.out 0
                                have hfz54_1 := blk_frozen BK361.out 1
                                have hfz54_2 := blk_frozen BK361.out 2
                                go_wp2_with (first | (go_at_call 13; (with_reducible refine (wireloomlaw08_lexed.calls x9_3 t373 t376 t377 _ ?side1 A50.out).mono ?_); (case side1 => exact GL.below hGL (by repeat (first | (with_reducible first | exact HB.out | apply below_alloc | apply pw_below_drewN | apply below_drew1 | refine below_set ?_ GE361.out | refine below_set ?_ GE372.out) | exact HB.out))); rintro e w55 ⟨v374, rfl, ho0, hb⟩; have n0_ := Aside0.mk (Kd.R_elder' (by (with_reducible repeat (first | apply Kd.R_alloc | apply Kd.R_drewN | apply Kd.R_drew)); exact HO_362000.out) (Kd.R_base ho0) hb); have n1_ := Aside0.mk (Kd.R_elder' (by (with_reducible repeat (first | apply Kd.R_alloc | apply Kd.R_drewN | apply Kd.R_drew)); exact HO_373000.out) (Kd.R_base ho0) hb); have n2_ := Aside0.mk (Kd.R_lower (Kd.R_new' (Kd.R_new' ho0 (Kd.R_lt (by (with_reducible repeat (first | apply Kd.R_alloc | apply Kd.R_drewN | apply Kd.R_drew)); exact HO_362000.out))) (Kd.R_lt (by (with_reducible repeat (first | apply Kd.R_alloc | apply Kd.R_drewN | apply Kd.R_drew)); exact HO_373000.out))) (below_size (by repeat (first | (with_reducible first | exact HB.out | apply below_alloc | apply pw_below_drewN | apply below_drew1 | refine below_set ?_ GE361.out | refine below_set ?_ GE372.out) | exact HB.out)))); have n3_ := Aside0.mk (blk_below (g := gb361) (o := .cells #[.slice Ao26 t356.length co26, .int .i64 t359, .int .i64 t360] 29 (0, 0)) (by (with_reducible repeat (first | refine blk_drewN ?_ _ | refine blk_drew ?_ | refine blk_alloc ?_ _)); exact BK361.out) hb); have n4_ := Aside0.mk (blk_below (g := gb372) (o := .cells #[.slice Ao43 t367.length co43, .int .i64 t370, .int .i64 t371] 29 (0, 0)) (by (with_reducible repeat (first | refine blk_drewN ?_ _ | refine blk_drew ?_ | refine blk_alloc ?_ _)); exact BK372.out) hb); have n5_ := Aside0.mk (below_step (by repeat (first | (with_reducible first | exact HB.out | apply below_alloc | apply pw_below_drewN | apply below_drew1 | refine below_set ?_ GE361.out | refine below_set ?_ GE372.out) | exact HB.out)) hb); clear HO_362000; clear HO_373000; clear BK361; clear BK372; clear HB; have HO_362000 := n0_; have HO_373000 := n1_; have HO375 := n2_; have BK361 := n3_; have BK372 := n4_; have HB := n5_; clear n0_ n1_ n2_ n3_ n4_ n5_; (try clear hb); (try clear hb2); (try clear hk); (try clear hi); (try clear ho0); (try clear A50)))
                                go_ret
                                exact ⟨by first | rfl | (simp [errW_none, errW_some] <;> rfl) | (simp [*, errW_none, errW_some] <;> rfl), by repeat (first | (with_reducible first | exact HB.out | apply below_alloc | apply pw_below_drewN | apply below_drew1 | refine below_set ?_ GE361.out | refine below_set ?_ GE372.out) | exact HB.out)⟩
                              · rw [if_neg c51] at H
                                have c51b0 : (t377 == 2) = false := beq_eq_false_iff_ne.mpr c51
                                have c51b1 : (t377 != 2) = true := bne_iff_ne.mpr c51
                                obtain rfl := Option.some.inj H
                                have hnb56 := NB372_361.out
                                have hnc56 := NB361_372.out
                                have hcz57_0 : wr.cell? ⟨gb372, 0, none⟩ = some (.slice Ao43 t367.length co43) := (blk_cell BK372.out 0).trans rfl
                                have hcz57_1 : wr.cell? ⟨gb372, 1, none⟩ = some (.int .i64 t370) := (blk_cell BK372.out 1).trans rfl
                                have hcz57_2 : wr.cell? ⟨gb372, 2, none⟩ = some (.int .i64 t371) := (blk_cell BK372.out 2).trans rfl
                                have hfz57_0 := blk_frozen BK372.out 0
                                have hfz57_1 := blk_frozen BK372.out 1
                                have hfz57_2 := blk_frozen BK372.out 2
                                have hcz58_0 : wr.cell? ⟨gb361, 0, none⟩ = some (.slice Ao26 t356.length co26) := (blk_cell BK361.out 0).trans rfl
                                have hcz58_1 : wr.cell? ⟨gb361, 1, none⟩ = some (.int .i64 t359) := (blk_cell BK361.out 1).trans rfl
                                have hcz58_2 : wr.cell? ⟨gb361, 2, none⟩ = some (.int .i64 t360) := (blk_cell BK361.out 2).trans rfl
                                have hfz58_0 := blk_frozen BK361.out 0
                                have hfz58_1 := blk_frozen BK361.out 1
                                have hfz58_2 := blk_frozen BK361.out 2
                                go_wp2_with (first | (go_at_call 13; (with_reducible refine (wireloomlaw08_lexed.calls x9_3 t373 t376 t377 _ ?side1 A50.out).mono ?_); (case side1 => exact GL.below hGL (by repeat (first | (with_reducible first | exact HB.out | apply below_alloc | apply pw_below_drewN | apply below_drew1 | refine below_set ?_ GE361.out | refine below_set ?_ GE372.out) | exact HB.out))); rintro e w59 ⟨v374, rfl, ho0, hb⟩; have n0_ := Aside0.mk (Kd.R_elder' (by (with_reducible repeat (first | apply Kd.R_alloc | apply Kd.R_drewN | apply Kd.R_drew)); exact HO_362000.out) (Kd.R_base ho0) hb); have n1_ := Aside0.mk (Kd.R_elder' (by (with_reducible repeat (first | apply Kd.R_alloc | apply Kd.R_drewN | apply Kd.R_drew)); exact HO_373000.out) (Kd.R_base ho0) hb); have n2_ := Aside0.mk (Kd.R_lower (Kd.R_new' (Kd.R_new' ho0 (Kd.R_lt (by (with_reducible repeat (first | apply Kd.R_alloc | apply Kd.R_drewN | apply Kd.R_drew)); exact HO_362000.out))) (Kd.R_lt (by (with_reducible repeat (first | apply Kd.R_alloc | apply Kd.R_drewN | apply Kd.R_drew)); exact HO_373000.out))) (below_size (by repeat (first | (with_reducible first | exact HB.out | apply below_alloc | apply pw_below_drewN | apply below_drew1 | refine below_set ?_ GE361.out | refine below_set ?_ GE372.out) | exact HB.out)))); have n3_ := Aside0.mk (blk_below (g := gb361) (o := .cells #[.slice Ao26 t356.length co26, .int .i64 t359, .int .i64 t360] 29 (0, 0)) (by (with_reducible repeat (first | refine blk_drewN ?_ _ | refine blk_drew ?_ | refine blk_alloc ?_ _)); exact BK361.out) hb); have n4_ := Aside0.mk (blk_below (g := gb372) (o := .cells #[.slice Ao43 t367.length co43, .int .i64 t370, .int .i64 t371] 29 (0, 0)) (by (with_reducible repeat (first | refine blk_drewN ?_ _ | refine blk_drew ?_ | refine blk_alloc ?_ _)); exact BK372.out) hb); have n5_ := Aside0.mk (below_step (by repeat (first | (with_reducible first | exact HB.out | apply below_alloc | apply pw_below_drewN | apply below_drew1 | refine below_set ?_ GE361.out | refine below_set ?_ GE372.out) | exact HB.out)) hb); clear HO_362000; clear HO_373000; clear BK361; clear BK372; clear HB; have HO_362000 := n0_; have HO_373000 := n1_; have HO375 := n2_; have BK361 := n3_; have BK372 := n4_; have HB := n5_; clear n0_ n1_ n2_ n3_ n4_ n5_; (try clear hb); (try clear hb2); (try clear hk); (try clear hi); (try clear ho0); (try clear A50)))
                                go_ret
                                exact ⟨by first | rfl | (simp [errW_none, errW_some] <;> rfl) | (simp [*, errW_none, errW_some] <;> rfl), by repeat (first | (with_reducible first | exact HB.out | apply below_alloc | apply pw_below_drewN | apply below_drew1 | refine below_set ?_ GE361.out | refine below_set ?_ GE372.out) | exact HB.out)⟩
                            · rw [if_neg c49] at H
                              have c49b0 : (t370 == t359) = false := beq_eq_false_iff_ne.mpr c49
                              have c49b1 : (t370 != t359) = true := bne_iff_ne.mpr c49
                              obtain rfl := Option.some.inj H
                              have hnb60 := NB372_361.out
                              have hnc60 := NB361_372.out
                              have hcz61_0 : wr.cell? ⟨gb372, 0, none⟩ = some (.slice Ao43 t367.length co43) := (blk_cell BK372.out 0).trans rfl
                              have hcz61_1 : wr.cell? ⟨gb372, 1, none⟩ = some (.int .i64 t370) := (blk_cell BK372.out 1).trans rfl
                              have hcz61_2 : wr.cell? ⟨gb372, 2, none⟩ = some (.int .i64 t371) := (blk_cell BK372.out 2).trans rfl
                              have hfz61_0 := blk_frozen BK372.out 0
                              have hfz61_1 := blk_frozen BK372.out 1
                              have hfz61_2 := blk_frozen BK372.out 2
                              have hcz62_0 : wr.cell? ⟨gb361, 0, none⟩ = some (.slice Ao26 t356.length co26) := (blk_cell BK361.out 0).trans rfl
                              have hcz62_1 : wr.cell? ⟨gb361, 1, none⟩ = some (.int .i64 t359) := (blk_cell BK361.out 1).trans rfl
                              have hcz62_2 : wr.cell? ⟨gb361, 2, none⟩ = some (.int .i64 t360) := (blk_cell BK361.out 2).trans rfl
                              have hfz62_0 := blk_frozen BK361.out 0
                              have hfz62_1 := blk_frozen BK361.out 1
                              have hfz62_2 := blk_frozen BK361.out 2
                              go_wp2
                              go_ret
                              exact ⟨by first | rfl | (simp [errW_none, errW_some] <;> rfl) | (simp [*, errW_none, errW_some] <;> rfl), by repeat (first | (with_reducible first | exact HB.out | apply below_alloc | apply pw_below_drewN | apply below_drew1 | refine below_set ?_ GE361.out | refine below_set ?_ GE372.out) | exact HB.out)⟩
                          · rw [if_neg c48] at H
                            have c48b0 : (t371 == t360) = false := beq_eq_false_iff_ne.mpr c48
                            have c48b1 : (t371 != t360) = true := bne_iff_ne.mpr c48
                            obtain rfl := Option.some.inj H
                            have hnb63 := NB372_361.out
                            have hnc63 := NB361_372.out
                            have hcz64_0 : wr.cell? ⟨gb372, 0, none⟩ = some (.slice Ao43 t367.length co43) := (blk_cell BK372.out 0).trans rfl
                            have hcz64_1 : wr.cell? ⟨gb372, 1, none⟩ = some (.int .i64 t370) := (blk_cell BK372.out 1).trans rfl
                            have hcz64_2 : wr.cell? ⟨gb372, 2, none⟩ = some (.int .i64 t371) := (blk_cell BK372.out 2).trans rfl
                            have hfz64_0 := blk_frozen BK372.out 0
                            have hfz64_1 := blk_frozen BK372.out 1
                            have hfz64_2 := blk_frozen BK372.out 2
                            have hcz65_0 : wr.cell? ⟨gb361, 0, none⟩ = some (.slice Ao26 t356.length co26) := (blk_cell BK361.out 0).trans rfl
                            have hcz65_1 : wr.cell? ⟨gb361, 1, none⟩ = some (.int .i64 t359) := (blk_cell BK361.out 1).trans rfl
                            have hcz65_2 : wr.cell? ⟨gb361, 2, none⟩ = some (.int .i64 t360) := (blk_cell BK361.out 2).trans rfl
                            have hfz65_0 := blk_frozen BK361.out 0
                            have hfz65_1 := blk_frozen BK361.out 1
                            have hfz65_2 := blk_frozen BK361.out 2
                            go_wp2
                            go_ret
                            exact ⟨by first | rfl | (simp [errW_none, errW_some] <;> rfl) | (simp [*, errW_none, errW_some] <;> rfl), by repeat (first | (with_reducible first | exact HB.out | apply below_alloc | apply pw_below_drewN | apply below_drew1 | refine below_set ?_ GE361.out | refine below_set ?_ GE372.out) | exact HB.out)⟩
                  · rw [if_neg c39] at H
                    exact absurd H (by simp)
                · rw [if_neg c38] at H
                  exact absurd H (by simp)

/-- THE ONE PURE STATEMENT of wireloomlaw08_LexerErrors: yours. -/
def wireloomlaw08_LexerErrors.Pure : Prop := ∀ (l0 : List Int) (a1 : ByteArray), l0.length ≤ maxLen → l0.length * 1 ≤ 140737488351232 → (∀ x ∈ l0, (Lit.int .u8 x).wf = true) → a1.size ≤ 140737488351232 → ∃ k, wireloomlaw08_LexerErrors.f k l0 a1 = some true
theorem wireloomlaw08_LexerErrors.walk (P : wireloomlaw08_LexerErrors.Pure) (a0 : Option Addr) (len0 cap0 : Nat) (z0 : List Int) (a1 : ByteArray) (w : World) (hGL : GL w) (w0 : (a0 = none ∧ len0 = 0 ∧ cap0 = 0 ∧ z0 = []) ∨ ∃ x, a0 = some x ∧ len0 ≤ cap0 ∧ cap0 ≤ maxLen ∧ z0.length = cap0 ∧ (∀ i, i < z0.length → w.cell? (x.add i) = some (.int .u8 (z0.getD i 0))) ∧ ∀ n ∈ z0, (Lit.int .u8 n).wf = true) (y0 : len0 * 1 ≤ 140737488351232) (w1 : a1.size ≤ 140737488351232) :
    Calls Tryd.prog 8 #[.slice a0 len0 cap0, .string a1] w fun e w' => e = .returned (.bool true) ∧ Below w.heap.size w w' := by
  obtain ⟨l0, rfl, hr0, hm0, hw0, hc0⟩ := ReadsInt.ofRowC w0
  obtain ⟨k, h⟩ := P l0 a1 hm0 y0 hw0 w1
  refine (wireloomlaw08_LexerErrors.calls k _ _ l0 a1 true w (Kd.C_of_reads (d := (0 : Int)) (h1 := fun _ => rfl) hr0) hc0 hGL h).mono ?_
  rintro e w' ⟨rfl, hd⟩
  exact ⟨rfl, hd⟩

end Go.Proofs.YtoongglmgpilfaaDoor.L
