/- The wide numbers' operations, over their values. -/
import Derived.Test.YtndfjpnpdnnpkaaDoorPDiv
import Derived.Test.YtndfjpnpdnnpkaaDoorFx5
import Derived.Test.YtndfjpnpdnnpkaaDoorFx6
namespace Go.Proofs.YtndfjpnpdnnpkaaDoor.F
set_option linter.unusedVariables false
set_option linter.unusedSimpArgs false
open Go.RowKit Go.Proofs.YtndfjpnpdnnpkaaDoorW.PrintWords Go.Proofs.YtndfjpnpdnnpkaaDoorW.PrintLast Go.Proofs.YtndfjpnpdnnpkaaDoorW.PrintMore
def I64 (a : Int) : Prop := -9223372036854775808 ≤ a ∧ a ≤ 9223372036854775807
theorem w64 {n : Int} (h : -9223372036854775808 ≤ n ∧ n ≤ 9223372036854775807) : wrap64 n = n := by unfold wrap64; omega
theorem abs_ok {a : Int} (h : I64 a) : fraction_abs.f a = some (a.natAbs : Int) := by
  obtain ⟨h1, h2⟩ := h
  unfold fraction_abs.f
  simp only [u64m]
  by_cases hn : a < 0
  · rw [if_pos hn]; congr 1; omega
  · rw [if_neg hn]; congr 1; omega
theorem times_ok {a b : Int} (ha : I64 a) (hb : I64 b) : fraction_times.f a b = some ((decide (a < 0)) != (decide (b < 0)), (a.natAbs : Int) * b.natAbs / 18446744073709551616, (a.natAbs : Int) * b.natAbs % 18446744073709551616) := by
  unfold fraction_times.f
  rw [abs_ok ha, abs_ok hb, Option.bind_some, Option.bind_some]
  obtain ⟨a1, a2⟩ := ha
  obtain ⟨b1, b2⟩ := hb
  unfold bits_Mul64.f
  rw [if_pos ⟨⟨by omega, by omega⟩, ⟨by omega, by omega⟩⟩]
  rfl
def sv (n : Bool) (X : Int) : Int := if n = true then -X else X
theorem plus_w (n1 n2 : Bool) (X Y : Int) (hX : 0 ≤ X) (hY : 0 ≤ Y) (hX2 : X < 170141183460469231731687303715884105728) (hY2 : Y < 170141183460469231731687303715884105728) :
    ∃ (n : Bool) (Z : Int), 0 ≤ Z ∧ Z < 340282366920938463463374607431768211456 ∧ sv n Z = sv n1 X + sv n2 Y ∧ (n1 = n2 ∨ X ≠ Y → Z = 0 → X = 0 ∧ Y = 0) ∧
      fraction_wide_plus.f n1 (X / 18446744073709551616) (X % 18446744073709551616) n2 (Y / 18446744073709551616) (Y % 18446744073709551616) = some (n, Z / 18446744073709551616, Z % 18446744073709551616) := by
  unfold fraction_wide_plus.f
  rw [if_pos ⟨⟨by omega, by omega⟩, ⟨by omega, by omega⟩, ⟨by omega, by omega⟩, ⟨by omega, by omega⟩⟩]
  unfold plusF
  by_cases hn : n1 = n2
  · subst hn
    refine ⟨n1, X + Y, by omega, by omega, ?_, ?_, ?_⟩
    · unfold sv; cases n1 <;> simp <;> omega
    · intro _ h; omega
    · rw [if_pos rfl]
      congr 3 <;> omega
  · have hs : ∀ Z : Int, sv n2 Z = -(sv n1 Z) := by
      intro Z
      unfold sv
      cases n1 <;> cases n2 <;> simp_all
    rw [if_neg hn]
    by_cases hg : Y / 18446744073709551616 < X / 18446744073709551616 ∨ (X / 18446744073709551616 = Y / 18446744073709551616 ∧ Y % 18446744073709551616 ≤ X % 18446744073709551616)
    · rw [if_pos hg]
      refine ⟨n1, X - Y, by omega, by omega, ?_, ?_, ?_⟩
      · rw [hs]; unfold sv; cases n1 <;> simp <;> omega
      · intro h1 h2
        rcases h1 with h1 | h1
        · exact absurd h1 hn
        · omega
      · unfold bor
        split <;> (congr 3 <;> omega)
    · rw [if_neg hg]
      refine ⟨n2, Y - X, by omega, by omega, ?_, ?_, ?_⟩
      · rw [show sv n1 X = -(sv n2 X) by rw [hs]; omega]; unfold sv; cases n2 <;> simp <;> omega
      · intro h1 h2
        rcases h1 with h1 | h1
        · exact absurd h1 hn
        · omega
      · unfold bor
        split <;> (congr 3 <;> omega)
theorem zero_w (n : Bool) (X : Int) (hX : 0 ≤ X) : fraction_wide_zero.f n (X / 18446744073709551616) (X % 18446744073709551616) = some (decide (X = 0)) := by
  unfold fraction_wide_zero.f
  by_cases h : X / 18446744073709551616 = 0
  · rw [if_pos h]
    congr 1
    by_cases hx : X = 0
    · subst hx; rfl
    · rw [decide_eq_false hx, beq_eq_false_iff_ne]; omega
  · rw [if_neg h, decide_eq_false (by omega)]
theorem number_w (n : Bool) (X : Int) (hX : 0 ≤ X) (k : Nat) (hk : 1 ≤ k) : fraction_wide_number.f k n (X / 18446744073709551616) (X % 18446744073709551616) = some (if X ≤ 4611686018427387904 then (sv n X, true) else (0, false)) := by
  obtain ⟨k, rfl⟩ : ∃ j, k = j + 1 := ⟨k - 1, by omega⟩
  unfold fraction_wide_number.f
  by_cases h : X / 18446744073709551616 > 0
  · rw [if_pos h, fraction_wide_number.j0, if_pos rfl, if_neg (by omega)]
  · rw [if_neg h, fraction_wide_number.j0]
    by_cases h2 : X ≤ 4611686018427387904
    · rw [if_pos h2, decide_eq_false (by omega), if_neg (by decide)]
      have e : X % 18446744073709551616 = X := by omega
      rw [e]
      cases n with
      | true => rw [if_pos rfl, w64 (n := X) (by omega), w64 (by omega)]; rfl
      | false => rw [if_neg (by decide), w64 (by omega)]; rfl
    · rw [if_neg h2, decide_eq_true (by omega), if_pos rfl]
/-- a fraction, if both are small enough -/
def mkF (N D : Int) : Int × Int × Int := if N.natAbs ≤ 4611686018427387904 ∧ D.natAbs ≤ 4611686018427387904 then (N, D, 0) else (0, 0, 2)
theorem made_w (n : Bool) (X Y : Int) (hX : 0 ≤ X) (hY : 0 ≤ Y) (k : Nat) (hk : 1 ≤ k) :
    fraction_made.f k n (X / 18446744073709551616) (X % 18446744073709551616) false (Y / 18446744073709551616) (Y % 18446744073709551616) = some (mkF (sv n X) Y) := by
  unfold fraction_made.f
  rw [number_w n X hX k hk, number_w false Y hY k hk, Option.bind_some, Option.bind_some]
  have hna : (sv n X).natAbs = X.natAbs := by unfold sv; split <;> simp
  unfold mkF
  rw [hna]
  by_cases h1 : X ≤ 4611686018427387904
  · rw [if_pos h1]
    by_cases h2 : Y ≤ 4611686018427387904
    · rw [if_pos h2, if_pos rfl, if_pos rfl, if_pos ⟨by omega, by omega⟩]; rfl
    · rw [if_neg h2, if_pos rfl, if_neg (by decide), if_neg (by omega)]
  · rw [if_neg h1, if_neg (by decide), if_neg (by omega)]
theorem div_parts (X m : Int) (hX : 0 ≤ X) (hm : 0 < m) : X / 18446744073709551616 / m = X / m / 18446744073709551616 ∧ (X / 18446744073709551616 % m * 18446744073709551616 + X % 18446744073709551616) / m = X / m % 18446744073709551616 ∧ (X / 18446744073709551616 % m * 18446744073709551616 + X % 18446744073709551616) % m = X % m := by
  have e1 := Int.mul_ediv_add_emod (X / 18446744073709551616) m
  have e2 := Int.emod_nonneg (X / 18446744073709551616) (b := m) (by omega)
  have e3 := Int.emod_lt_of_pos (X / 18446744073709551616) hm
  generalize hq : X / 18446744073709551616 / m = q at e1
  generalize hr : X / 18446744073709551616 % m = r at e1 e2 e3
  have hX2 : X = (r * 18446744073709551616 + X % 18446744073709551616) + m * (q * 18446744073709551616) := by
    have h1 : X = X / 18446744073709551616 * 18446744073709551616 + X % 18446744073709551616 := by omega
    have h2 : m * (q * 18446744073709551616) = m * q * 18446744073709551616 := by rw [Int.mul_assoc]
    rw [h2]
    omega
  have hb0 : 0 ≤ (r * 18446744073709551616 + X % 18446744073709551616) / m := Int.ediv_nonneg (by omega) (by omega)
  have hb1 : (r * 18446744073709551616 + X % 18446744073709551616) / m < 18446744073709551616 := by
    refine Int.ediv_lt_of_lt_mul hm ?_
    omega
  have hd : X / m = (r * 18446744073709551616 + X % 18446744073709551616) / m + q * 18446744073709551616 := by
    have := Int.add_mul_ediv_left (r * 18446744073709551616 + X % 18446744073709551616) (q * 18446744073709551616) (show m ≠ 0 by omega)
    rw [← hX2] at this
    exact this
  refine ⟨by omega, by omega, ?_⟩
  have := Int.add_mul_emod_self_left (r * 18446744073709551616 + X % 18446744073709551616) m (q * 18446744073709551616)
  rw [← hX2] at this
  exact this.symm
theorem over_w (n : Bool) (X m : Int) (hX : 0 ≤ X) (hX2 : X < 340282366920938463463374607431768211456) (hm : 0 < m) (hm2 : m < 18446744073709551616) (k : Nat) (hk : 20 ≤ k) :
    fraction_wide_over.f k n (X / 18446744073709551616) (X % 18446744073709551616) m = some (n, X / m / 18446744073709551616, X / m % 18446744073709551616) := by
  obtain ⟨d1, d2, d3⟩ := div_parts X m hX hm
  have e2 := Int.emod_nonneg (X / 18446744073709551616) (b := m) (by omega)
  have e3 := Int.emod_lt_of_pos (X / 18446744073709551616) hm
  have f1 := Int.ediv_le_self m (show 0 ≤ X / 18446744073709551616 by omega)
  have f2 := Int.ediv_nonneg (show 0 ≤ X / 18446744073709551616 by omega) (show 0 ≤ m by omega)
  unfold fraction_wide_over.f
  rw [if_neg (by omega), Int.tmod_eq_emod_of_nonneg (by omega), Div64_ok _ _ m ⟨e2, by omega⟩ ⟨by omega, by omega⟩ ⟨by omega, hm2⟩ e3 k hk, Option.bind_some, Int.tdiv_eq_ediv_of_nonneg (by omega), u64w (by omega), d1, d2]
theorem rem_w (X m : Int) (hX : 0 ≤ X) (hX2 : X < 340282366920938463463374607431768211456) (hm : 0 < m) (hm2 : m < 18446744073709551616) (k : Nat) (hk : 20 ≤ k) :
    bits_Rem64.f k (X / 18446744073709551616) (X % 18446744073709551616) m = some (X % m) := by
  obtain ⟨d1, d2, d3⟩ := div_parts X m hX hm
  have e2 := Int.emod_nonneg (X / 18446744073709551616) (b := m) (by omega)
  have e3 := Int.emod_lt_of_pos (X / 18446744073709551616) hm
  unfold bits_Rem64.f
  rw [if_neg (by omega), Int.tmod_eq_emod_of_nonneg (by omega), Div64_ok _ _ m ⟨e2, by omega⟩ ⟨by omega, by omega⟩ ⟨by omega, hm2⟩ e3 k hk, Option.bind_some, d3]
theorem gcd_ok {a b : Int} (ha : Word a) (hb : Word b) : fraction_gcd.f [a, b] = some ((Int.gcd a b : Nat) : Int) := by
  unfold fraction_gcd.f
  simp only [if_pos (show Word a ∧ Word b from ⟨ha, hb⟩)]
end Go.Proofs.YtndfjpnpdnnpkaaDoor.F
