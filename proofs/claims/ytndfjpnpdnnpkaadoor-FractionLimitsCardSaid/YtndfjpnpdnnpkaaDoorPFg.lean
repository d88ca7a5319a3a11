/- Make, Sub, Div, Valid over valid fractions. -/
import Derived.DataShut
import Derived.Test.YtndfjpnpdnnpkaaDoorPFe
import Derived.Test.YtndfjpnpdnnpkaaDoorPFd
import Derived.Test.YtndfjpnpdnnpkaaDoorFs
namespace Go.Proofs.YtndfjpnpdnnpkaaDoor.F
set_option linter.unusedVariables false
set_option linter.unusedSimpArgs false
open Go.RowKit Go.Proofs.YtndfjpnpdnnpkaaDoorW.PrintWords Go.Proofs.YtndfjpnpdnnpkaaDoorW.PrintLast Go.Proofs.YtndfjpnpdnnpkaaDoorW.PrintMore
theorem VF.neg {N D : Int} (h : VF N D) : VF (-N) D := ⟨h.pos, h.dle, by have := h.nle; omega, by have := h.nge; omega, by rw [Int.neg_gcd]; exact h.cop⟩
theorem red_sub {aN aD bN bD : Int} (ha : VF aN aD) (hb : VF bN bD) (k : Nat) (hk : 30 ≤ k) : ∃ R, wireloomlaw02_sub.f k aN aD bN bD = some R ∧ Red (aN * bD - bN * aD) (aD * bD) R := by
  obtain ⟨R, h, hR⟩ := red_Add ha hb.neg k hk
  have := hb.nge
  have := hb.nle
  refine ⟨R, by unfold wireloomlaw02_sub.f fraction_Sub.f; rw [w64 (n := -bN) (by omega), h]; rfl, ?_⟩
  rw [show aN * bD - bN * aD = aN * bD + -bN * aD by rw [Int.neg_mul]; omega]
  exact hR
theorem red_div {aN aD bN bD : Int} (ha : VF aN aD) (hb : VF bN bD) (h0 : bN ≠ 0) (k : Nat) (hk : 30 ≤ k) : ∃ R, wireloomlaw02_div.f k aN aD bN bD = some R ∧ Red (aN * bD) (aD * bN) R := by
  obtain ⟨b1, b2, b3, b4, b5⟩ := hb
  by_cases hn : bN < 0
  · have hb' : VF (-bD) (-bN) := ⟨by omega, by omega, by omega, by omega, by rw [Int.neg_gcd, Int.gcd_neg, Int.gcd_comm]; exact b5⟩
    obtain ⟨R, h, N, D, r1, r2, r3, r4⟩ := red_Mul ha hb' k hk
    refine ⟨R, by unfold wireloomlaw02_div.f fraction_Div.f; rw [if_neg h0, if_pos hn, w64 (n := -bD) (by omega), w64 (n := -bN) (by omega), h]; rfl, N, D, r1, r2, ?_, r4⟩
    grind
  · have hb' : VF bD bN := ⟨by omega, by omega, by omega, by omega, by rw [Int.gcd_comm]; exact b5⟩
    obtain ⟨R, h, hR⟩ := red_Mul ha hb' k hk
    exact ⟨R, by unfold wireloomlaw02_div.f fraction_Div.f; rw [if_neg h0, if_neg hn, h]; rfl, hR⟩
theorem div_zero (k : Nat) (aN aD bD : Int) : wireloomlaw02_div.f k aN aD 0 bD = some (0, 0, 3) := rfl
theorem nat_quo {n x : Int} {g : Nat} (h0 : 0 < g) (e : n = g * x) : Int.tdiv (n.natAbs : Int) g = x.natAbs := by
  rw [show (n.natAbs : Int) = (g : Int) * x.natAbs by rw [e, Int.natAbs_mul, Int.natAbs_natCast, Int.natCast_mul]]
  exact Int.mul_tdiv_cancel_left _ (by omega)
theorem sgn_quo {n x : Int} {g : Nat} (h0 : 0 < g) (e : n = g * x) : decide (n < 0) = decide (x < 0) := by
  by_cases hx : x < 0
  · have : (g : Int) * x < 0 := Int.mul_neg_of_pos_of_neg (by omega) hx
    rw [decide_eq_true hx, decide_eq_true (by omega)]
  · have : 0 ≤ (g : Int) * x := Int.mul_nonneg (by omega) (by omega)
    rw [decide_eq_false hx, decide_eq_false (by omega)]
theorem red_created {n d : Int} (hn : I64 n) (hd : I64 d) (h0 : d ≠ 0) (k : Nat) (hk : 30 ≤ k) : ∃ R, wireloomlaw02_created.f k n d = some R ∧ Red n d R := by
  unfold wireloomlaw02_created.f fraction_Make.f
  rw [if_neg h0]
  by_cases n0 : n = 0
  · rw [if_pos n0]
    refine ⟨_, rfl, ?_⟩
    rw [n0]
    exact Red.zero d h0
  · obtain ⟨g, x, y, hg, g0, ex, ey, hxy⟩ := gcd_parts n d h0
    have ha := abs_ok hn
    have hb := abs_ok hd
    obtain ⟨n1, n2⟩ := hn
    obtain ⟨d1, d2⟩ := hd
    have xb := quo_le g0 ex
    have yb := quo_le g0 ey
    have y0 : y ≠ 0 := by intro h; rw [h] at ey; omega
    have hgg : Int.gcd (n.natAbs : Int) (d.natAbs : Int) = g := by rw [← hg]; simp [Int.gcd]
    have cx : Int.gcd (x.natAbs : Int) (y.natAbs : Int) = 1 := by rw [← hxy]; simp [Int.gcd]
    have cx2 : Int.gcd (-(x.natAbs : Int)) (y.natAbs : Int) = 1 := by rw [← hxy]; simp [Int.gcd]
    have hm := made_w ((decide (n < 0)) != (decide (d < 0))) (x.natAbs : Int) (y.natAbs : Int) (by omega) (by omega) k (by omega)
    rw [show (x.natAbs : Int) / 18446744073709551616 = 0 by omega, show (x.natAbs : Int) % 18446744073709551616 = x.natAbs by omega, show (y.natAbs : Int) / 18446744073709551616 = 0 by omega, show (y.natAbs : Int) % 18446744073709551616 = y.natAbs by omega] at hm
    rw [if_neg n0, ha, Option.bind_some, hb, Option.bind_some, gcd_ok ⟨by omega, by omega⟩ ⟨by omega, by omega⟩, Option.bind_some, hgg, Option.bind_some, if_neg (by omega), Option.bind_some, nat_quo g0 ex, nat_quo g0 ey, u64w (n := (x.natAbs : Int)) (by omega), u64w (n := (y.natAbs : Int)) (by omega), hm]
    refine ⟨_, rfl, sv _ (x.natAbs : Int), (y.natAbs : Int), by omega, ?_, ?_, rfl⟩
    · unfold sv; split
      · exact cx2
      · exact cx
    · rw [sgn_quo g0 ex, sgn_quo g0 ey, ex, ey]
      have h1 := sv_mul x y
      have h2 : sv (decide (x < 0) != decide (y < 0)) ((x.natAbs : Int) * y.natAbs) = sv (decide (x < 0) != decide (y < 0)) (x.natAbs : Int) * y.natAbs := by
        unfold sv; split
        · rw [Int.neg_mul]
        · rfl
      rw [h2] at h1
      have h3 : (y.natAbs : Int) * y.natAbs = y * y := by
        rcases Int.natAbs_eq y with h | h
        · rw [← h]
        · have : (y.natAbs : Int) = -y := by omega
          rw [this, Int.neg_mul_neg]
      refine Int.eq_of_mul_eq_mul_right (a := (y.natAbs : Int)) (by omega) ?_
      generalize sv (decide (x < 0) != decide (y < 0)) (x.natAbs : Int) = s at h1
      generalize (y.natAbs : Int) = t at h1 h3
      grind
theorem created_zero (k : Nat) (n : Int) : wireloomlaw02_created.f k n 0 = some (0, 0, 3) := rfl
theorem valid_vf {N D : Int} (h : VF N D) : fraction_Valid.f N D = some true := by
  obtain ⟨h1, h2, h3, h4, h5⟩ := h
  unfold fraction_Valid.f
  rw [if_pos h1, if_pos h2, if_pos h3, if_pos h4, abs_ok ⟨by omega, by omega⟩, Option.bind_some, u64w (n := D) (by omega), gcd_ok ⟨by omega, by omega⟩ ⟨by omega, by omega⟩, gcd_nat, h5]
  rfl
/-- a result is a valid fraction, or the zero value with an error -/
def Res (R : Int × Int × Int) : Prop := (R.2.2 = 0 ∧ VF R.1 R.2.1) ∨ (R.2.2 ≠ 0 ∧ R.1 = 0 ∧ R.2.1 = 0)
theorem Red.res {n d : Int} {R : Int × Int × Int} (h : Red n d R) : Res R := by
  by_cases h0 : R.2.2 = 0
  · exact Or.inl ⟨h0, (h.ok h0).1⟩
  · rw [h.err h0]; exact Or.inr ⟨by decide, rfl, rfl⟩
theorem res_div {aN aD bN bD : Int} (ha : VF aN aD) (hb : VF bN bD) (k : Nat) (hk : 30 ≤ k) : ∃ R, wireloomlaw02_div.f k aN aD bN bD = some R ∧ Res R := by
  by_cases h0 : bN = 0
  · subst h0; exact ⟨_, div_zero k aN aD bD, Or.inr ⟨by decide, rfl, rfl⟩⟩
  · obtain ⟨R, h, hR⟩ := red_div ha hb h0 k hk
    exact ⟨R, h, hR.res⟩
theorem res_created {n d : Int} (hn : I64 n) (hd : I64 d) (k : Nat) (hk : 30 ≤ k) : ∃ R, wireloomlaw02_created.f k n d = some R ∧ Res R := by
  by_cases h0 : d = 0
  · subst h0; exact ⟨_, created_zero k n, Or.inr ⟨by decide, rfl, rfl⟩⟩
  · obtain ⟨R, h, hR⟩ := red_created hn hd h0 k hk
    exact ⟨R, h, hR.res⟩
/-- a formula of small numbers makes no error -/
theorem Red.small {n d : Int} {R : Int × Int × Int} (h : Red n d R) (hd : d ≠ 0) (hn : n.natAbs ≤ 4611686018427387904) (hdd : d.natAbs ≤ 4611686018427387904) : R.2.2 = 0 ∧ R.1.natAbs ≤ n.natAbs ∧ R.2.1.natAbs ≤ d.natAbs := by
  obtain ⟨N, D, h1, h2, h3, rfl⟩ := h
  have e2 : D.natAbs ∣ d.natAbs := cop_dvd_of (cop_symm h2) ⟨n, by rw [h3, Int.mul_comm]⟩
  have e3 : D.natAbs ≤ d.natAbs := Nat.le_of_dvd (by omega) e2
  have e4 : N.natAbs ≤ n.natAbs := by
    by_cases n0 : n = 0
    · subst n0
      rw [Int.zero_mul] at h3
      rcases Int.mul_eq_zero.1 h3 with h | h
      · rw [h]; exact Nat.le_refl _
      · exact absurd h hd
    · have e5 : N.natAbs ∣ n.natAbs := cop_dvd_of h2 ⟨d, by rw [h3, Int.mul_comm]⟩
      exact Nat.le_of_dvd (by omega) e5
  unfold mkF
  rw [if_pos ⟨by omega, by omega⟩]
  exact ⟨rfl, e4, e3⟩
end Go.Proofs.YtndfjpnpdnnpkaaDoor.F
