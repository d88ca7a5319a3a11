/- The order of fractions, in plain terms. -/
import Derived.Test.YtndfjpnpdnnpkaaDoorPFg
namespace Go.Proofs.YtndfjpnpdnnpkaaDoor.F
set_option linter.unusedVariables false
set_option linter.unusedSimpArgs false
open Go.RowKit Go.Proofs.YtndfjpnpdnnpkaaDoorW.PrintWords Go.Proofs.YtndfjpnpdnnpkaaDoorW.PrintLast Go.Proofs.YtndfjpnpdnnpkaaDoorW.PrintMore
theorem cmpI_cases (x y : Int) : (x < y ∧ cmpI x y = -1) ∨ (x = y ∧ cmpI x y = 0) ∨ (y < x ∧ cmpI x y = 1) := by
  unfold cmpI
  rcases Int.lt_trichotomy x y with h | h | h
  · exact Or.inl ⟨h, if_pos h⟩
  · exact Or.inr (Or.inl ⟨h, by rw [if_neg (by omega), if_pos h]⟩)
  · exact Or.inr (Or.inr ⟨h, by rw [if_neg (by omega), if_neg (by omega)]⟩)
theorem cmpI_swap (x y : Int) : cmpI y x = -(cmpI x y) := by
  rcases cmpI_cases x y with ⟨h, e⟩ | ⟨h, e⟩ | ⟨h, e⟩ <;> rcases cmpI_cases y x with ⟨h', e'⟩ | ⟨h', e'⟩ | ⟨h', e'⟩ <;> omega
theorem sg_eq {x y p q : Int} (hp : 0 < p) (hq : 0 < q) (h : x * p = y * q) : (x > 0 ↔ y > 0) ∧ (x < 0 ↔ y < 0) := by
  have a1 : x > 0 → x * p > 0 := fun h => Int.mul_pos h hp
  have a2 : x < 0 → x * p < 0 := fun h => Int.mul_neg_of_neg_of_pos h hp
  have a3 : x = 0 → x * p = 0 := fun h => by rw [h, Int.zero_mul]
  have b1 : y > 0 → y * q > 0 := fun h => Int.mul_pos h hq
  have b2 : y < 0 → y * q < 0 := fun h => Int.mul_neg_of_neg_of_pos h hq
  have b3 : y = 0 → y * q = 0 := fun h => by rw [h, Int.zero_mul]
  constructor <;> constructor <;> intro hh <;> omega
theorem cmp_scale {x y x' y' p q : Int} (hp : 0 < p) (hq : 0 < q) (h : (x - y) * p = (x' - y') * q) : cmpI x y = cmpI x' y' := by
  obtain ⟨h1, h2⟩ := sg_eq hp hq h
  rcases cmpI_cases x y with ⟨h, e⟩ | ⟨h, e⟩ | ⟨h, e⟩ <;> rcases cmpI_cases x' y' with ⟨h', e'⟩ | ⟨h', e'⟩ | ⟨h', e'⟩ <;> omega
theorem VF.p {N D : Int} (h : VF N D) : 0 < D := by have := h.pos; omega
theorem pp {a b : Int} (ha : 0 < a) (hb : 0 < b) : 0 < a * b := Int.mul_pos ha hb
theorem min_ok {aN aD bN bD : Int} (ha : VF aN aD) (hb : VF bN bD) : fraction_Min.f aN aD bN bD = some (if cmpI (aN * bD) (bN * aD) > 0 then (bN, bD) else (aN, aD)) := by
  unfold fraction_Min.f
  rw [cmp_ok ha hb, Option.bind_some]
  split <;> rfl
theorem max_ok {aN aD bN bD : Int} (ha : VF aN aD) (hb : VF bN bD) : fraction_Max.f aN aD bN bD = some (if cmpI (aN * bD) (bN * aD) < 0 then (bN, bD) else (aN, aD)) := by
  unfold fraction_Max.f
  rw [cmp_ok ha hb, Option.bind_some]
  split <;> rfl
theorem tr_le {aN aD bN bD cN cD : Int} (ha : VF aN aD) (hb : VF bN bD) (hc : VF cN cD) (h1 : aN * bD ≤ bN * aD) (h2 : bN * cD ≤ cN * bD) : aN * cD ≤ cN * aD := by
  have e1 : aN * bD * cD ≤ bN * aD * cD := Int.mul_le_mul_of_nonneg_right h1 (by have := hc.p; omega)
  have e2 : bN * cD * aD ≤ cN * bD * aD := Int.mul_le_mul_of_nonneg_right h2 (by have := ha.p; omega)
  have e3 : aN * cD * bD ≤ cN * aD * bD := by
    rw [show aN * cD * bD = aN * bD * cD by grind, show cN * aD * bD = cN * bD * aD by grind]
    have : bN * aD * cD = bN * cD * aD := by grind
    omega
  exact Int.le_of_mul_le_mul_right e3 hb.p
end Go.Proofs.YtndfjpnpdnnpkaaDoor.F
