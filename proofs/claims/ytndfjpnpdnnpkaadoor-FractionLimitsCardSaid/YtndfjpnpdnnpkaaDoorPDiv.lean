/- Div64: the printed function tells the quotient and the rest (Knuth's algorithm D, two digits by one). -/
import Derived.Test.YtndfjpnpdnnpkaaDoorFx4
namespace Go.Proofs.YtndfjpnpdnnpkaaDoor.F
set_option linter.unusedVariables false
set_option linter.unusedSimpArgs false
open Go.RowKit Go.Proofs.YtndfjpnpdnnpkaaDoorW.PrintWords Go.Proofs.YtndfjpnpdnnpkaaDoorW.PrintLast Go.Proofs.YtndfjpnpdnnpkaaDoorW.PrintMore
theorem u64m (n : Int) : IntKind.u64.wrap n = n % 18446744073709551616 := by simp [IntKind.wrap, IntKind.bits, IntKind.signed]
theorem u64w {n : Int} (h : 0 ≤ n ∧ n < 18446744073709551616) : IntKind.u64.wrap n = n := by rw [u64m]; omega
theorem u64s (a b : Int) : IntKind.u64.wrap (IntKind.u64.wrap a - IntKind.u64.wrap b) = IntKind.u64.wrap (a - b) := by simp only [u64m]; omega
theorem u64a (a b : Int) : IntKind.u64.wrap (IntKind.u64.wrap a + b) = IntKind.u64.wrap (a + b) := by simp only [u64m]; omega
theorem u64t (a b c : Int) : IntKind.u64.wrap (IntKind.u64.wrap (IntKind.u64.wrap a + b) - IntKind.u64.wrap c) = IntKind.u64.wrap (a + b - c) := by simp only [u64m]; omega
/-- q is the digit: the greatest number with q * y ≤ u * b + d. -/
theorem dig_ge (y y1 y0 u d q r b : Int) (hy : y = y1 * b + y0) (hu : u = q * y1 + r) (ht : q * y0 ≤ r * b + d) : q * y ≤ u * b + d := by
  subst hy hu
  grind
theorem dig_le (y y1 y0 u d q r b : Int) (hy : y = y1 * b + y0) (hu : u = q * y1 + r) (ht : r * b + d < q * y0) : u * b + d < q * y := by
  subst hy hu
  grind
/-- the digit is below b -/
theorem dig_lt (y u d b Q : Int) (hb : 0 < b) (hu : u < y) (hd : d < b) (hd0 : 0 ≤ d) (hu0 : 0 ≤ u) (hQ : Q * y ≤ u * b + d) : Q < b := by
  have hy : 0 < y := by omega
  have h1 : u * b + d < y * b := by
    have : u + 1 ≤ y := by omega
    have h2 : (u + 1) * b ≤ y * b := Int.mul_le_mul_of_nonneg_right this (by omega)
    have h3 : (u + 1) * b = u * b + b := by rw [Int.add_mul, Int.one_mul]
    omega
  have h4 : Q * y < b * y := by rw [Int.mul_comm b y]; omega
  exact Int.lt_of_mul_lt_mul_right h4 (by omega)
/-- as long as the test holds, the digit is less than q -/
theorem dig_dec (y y1 y0 u d q r b Q : Int) (hb : 0 < b) (hy : y = y1 * b + y0) (hy0 : 0 ≤ y0) (hy1 : 0 ≤ y1) (huy : u < y) (hd0 : 0 ≤ d) (hd : d < b) (hu0 : 0 ≤ u) (hu : u = q * y1 + r) (hQ : Q * y ≤ u * b + d) (h : b ≤ q ∨ r * b + d < q * y0) : Q < q := by
  rcases h with h | h
  · have := dig_lt y u d b Q hb huy hd hd0 hu0 hQ
    omega
  · have h1 := dig_le y y1 y0 u d q r b hy hu h
    have h2 : Q * y < q * y := by omega
    exact Int.lt_of_mul_lt_mul_right h2 (by omega)
/-- where the rest has passed b, q is no greater than the digit -/
theorem dig_stop (y y1 y0 u d q r b : Int) (hb : 0 < b) (hy : y = y1 * b + y0) (hy0 : 0 ≤ y0) (hy0b : y0 < b) (hy1 : 0 < y1) (huy : u < y) (hd0 : 0 ≤ d) (hq0 : 0 ≤ q) (hu : u = q * y1 + r) (hr : b ≤ r) : q * y ≤ u * b + d := by
  refine dig_ge y y1 y0 u d q r b hy hu ?_
  have h1 : q * y1 < b * y1 := by
    have : y1 * b + y0 < y1 * b + b := by omega
    have h2 : q * y1 + r < y1 * b + b := by omega
    have h3 : y1 * b = b * y1 := Int.mul_comm ..
    omega
  have hqb : q < b := Int.lt_of_mul_lt_mul_right h1 (by omega)
  have h4 : q * y0 ≤ b * b := by
    have h5 : q * y0 ≤ q * b := Int.mul_le_mul_of_nonneg_left (by omega) hq0
    have h6 : q * b ≤ b * b := Int.mul_le_mul_of_nonneg_right (by omega) (by omega)
    omega
  have h7 : b * b ≤ r * b := Int.mul_le_mul_of_nonneg_right hr (by omega)
  omega
theorem quo_eq (n y q : Int) (hy : 0 < y) (h : q * y ≤ n) (h2 : n < (q + 1) * y) : n / y = q := by
  rw [Int.ediv_eq_iff_of_pos hy]
  constructor
  · omega
  · rw [Int.add_mul, Int.one_mul] at h2; omega
theorem l0_dig (K : Nat) (res : Int × Int) (y s y1 y0 u d v Q : Int) (hy : y = y1 * 4294967296 + y0) (hy0 : 0 ≤ y0) (hy0b : y0 < 4294967296) (hy1 : 2147483648 ≤ y1) (hy1b : y1 < 4294967296) (hu0 : 0 ≤ u) (huy : u < y) (hd0 : 0 ≤ d) (hd : d < 4294967296) (hQ0 : 0 ≤ Q) (hQ : Q * y ≤ u * 4294967296 + d) (hQ2 : u * 4294967296 + d < (Q + 1) * y)
    (hres : bits_Div64.j2 K y s y1 y0 u d v Q = some res) :
    ∀ (n : Nat) (q r : Int), 4294967296 ≤ r + n * y1 → 0 ≤ r → r < 4294967296 → Q ≤ q → q < 18446744073709551616 → u = q * y1 + r → bits_Div64.l0 (K + 2 * n) y s y1 y0 u d v q r = some res := by
  have hup : ∀ m, bits_Div64.j2 (K + m) y s y1 y0 u d v Q = some res := fun m => at_rounds (g := fun k => bits_Div64.j2 k y s y1 y0 u d v Q) (fun k => (bits_Div64.mono_l k).1 _ _ _ _ _ _ _ _) (Nat.le_add_right K m) hres
  have hypos : 0 < y := by omega
  intro n
  induction n with
  | zero => intro q r h1 h2 h3; omega
  | succ n ih =>
    intro q r h1 h2 h3 h4 h5 h6
    have hcast : ((n + 1 : Nat) : Int) * y1 = (n : Int) * y1 + y1 := by rw [Int.natCast_add, Int.add_mul]; simp
    rw [hcast] at h1
    have hT : (4294967296 ≤ q ∨ r * 4294967296 + d < q * y0) → bits_Div64.j1 (K + 2 * n + 1) y s y1 y0 u d v q r true = some res := by
      intro h
      have hlt := dig_dec y y1 y0 u d q r 4294967296 Q (by omega) hy hy0 (by omega) huy hd0 hd hu0 h6 hQ h
      have hr' : IntKind.u64.wrap (r + y1) = r + y1 := u64w (by omega)
      have hq' : IntKind.u64.wrap (q - 1) = q - 1 := u64w (by omega)
      have h6' : u = (q - 1) * y1 + (r + y1) := by rw [Int.sub_mul, Int.one_mul]; omega
      rw [bits_Div64.j1, if_pos rfl, hr', hq']
      by_cases hb : r + y1 ≥ 4294967296
      · rw [if_pos hb]
        have hst := dig_stop y y1 y0 u d (q - 1) (r + y1) 4294967296 (by omega) hy hy0 hy0b (by omega) huy hd0 (by omega) h6' hb
        have : (q - 1) * y < (Q + 1) * y := by omega
        have : q - 1 < Q + 1 := Int.lt_of_mul_lt_mul_right this (by omega)
        rw [show q - 1 = Q by omega]
        exact hup (2 * n)
      · rw [if_neg hb]
        exact ih (q - 1) (r + y1) (by omega) (by omega) (by omega) (by omega) (by omega) h6'
    rw [show K + 2 * (n + 1) = K + 2 * n + 1 + 1 by omega, bits_Div64.l0]
    by_cases hqb : q ≥ 4294967296
    · rw [if_pos hqb]
      exact hT (Or.inl hqb)
    · rw [if_neg hqb]
      have hw1 : IntKind.u64.wrap (q * y0) = q * y0 := by
        refine u64w ⟨Int.mul_nonneg (by omega) hy0, ?_⟩
        have a1 : q * y0 ≤ q * 4294967295 := Int.mul_le_mul_of_nonneg_left (by omega) (by omega)
        omega
      have hw2 : IntKind.u64.wrap (IntKind.u64.wrap (4294967296 * r) + d) = r * 4294967296 + d := by rw [u64a, u64w (by omega)]; omega
      rw [hw1, hw2]
      by_cases ht : q * y0 > r * 4294967296 + d
      · rw [decide_eq_true ht]
        exact hT (Or.inr ht)
      · rw [decide_eq_false ht, bits_Div64.j1, if_neg (by decide)]
        have hge := dig_ge y y1 y0 u d q r 4294967296 hy h6 (by omega)
        have : q * y < (Q + 1) * y := by omega
        have : q < Q + 1 := Int.lt_of_mul_lt_mul_right this (by omega)
        rw [show q = Q by omega]
        exact hup (2 * n)
def fin64 (y s v q1 R q : Int) : Int × Int := (IntKind.u64.wrap (IntKind.u64.wrap (q1 * 4294967296) + q), shr .u64 (IntKind.u64.wrap (IntKind.u64.wrap (IntKind.u64.wrap (R * 4294967296) + v) - IntKind.u64.wrap (q * y))) s)
theorem l1_dig (y s y1 y0 v q1 R Q : Int) (hs : 0 ≤ s) (hy : y = y1 * 4294967296 + y0) (hy0 : 0 ≤ y0) (hy0b : y0 < 4294967296) (hy1 : 2147483648 ≤ y1) (hy1b : y1 < 4294967296) (hu0 : 0 ≤ R) (huy : R < y) (hd0 : 0 ≤ v) (hd : v < 4294967296) (hQ0 : 0 ≤ Q) (hQ : Q * y ≤ R * 4294967296 + v) (hQ2 : R * 4294967296 + v < (Q + 1) * y) :
    ∀ (n : Nat) (q r : Int) (K : Nat), 4294967296 ≤ r + n * y1 → 0 ≤ r → r < 4294967296 → Q ≤ q → q < 18446744073709551616 → R = q * y1 + r → bits_Div64.l1 (K + 2 * n) y s y1 y0 v q1 r R q = some (fin64 y s v q1 R Q) := by
  have hypos : 0 < y := by omega
  intro n
  induction n with
  | zero => intro q r K h1 h2 h3; omega
  | succ n ih =>
    intro q r K h1 h2 h3 h4 h5 h6
    have hcast : ((n + 1 : Nat) : Int) * y1 = (n : Int) * y1 + y1 := by rw [Int.natCast_add, Int.add_mul]; simp
    rw [hcast] at h1
    have hT : (4294967296 ≤ q ∨ r * 4294967296 + v < q * y0) → bits_Div64.j4 (K + 2 * n + 1) y s y1 y0 v q1 r R q true = some (fin64 y s v q1 R Q) := by
      intro h
      have hlt := dig_dec y y1 y0 R v q r 4294967296 Q (by omega) hy hy0 (by omega) huy hd0 hd hu0 h6 hQ h
      have hr' : IntKind.u64.wrap (r + y1) = r + y1 := u64w (by omega)
      have hq' : IntKind.u64.wrap (q - 1) = q - 1 := u64w (by omega)
      have h6' : R = (q - 1) * y1 + (r + y1) := by rw [Int.sub_mul, Int.one_mul]; omega
      rw [bits_Div64.j4, if_pos rfl, hr', hq']
      by_cases hb : r + y1 ≥ 4294967296
      · rw [if_pos hb, if_pos hs]
        have hst := dig_stop y y1 y0 R v (q - 1) (r + y1) 4294967296 (by omega) hy hy0 hy0b (by omega) huy hd0 (by omega) h6' hb
        have : (q - 1) * y < (Q + 1) * y := by omega
        have : q - 1 < Q + 1 := Int.lt_of_mul_lt_mul_right this (by omega)
        rw [show q - 1 = Q by omega]
        rfl
      · rw [if_neg hb]
        exact ih (q - 1) (r + y1) K (by omega) (by omega) (by omega) (by omega) (by omega) h6'
    rw [show K + 2 * (n + 1) = K + 2 * n + 1 + 1 by omega, bits_Div64.l1]
    by_cases hqb : q ≥ 4294967296
    · rw [if_pos hqb]
      exact hT (Or.inl hqb)
    · rw [if_neg hqb]
      have hw1 : IntKind.u64.wrap (q * y0) = q * y0 := by
        refine u64w ⟨Int.mul_nonneg (by omega) hy0, ?_⟩
        have a1 : q * y0 ≤ q * 4294967295 := Int.mul_le_mul_of_nonneg_left (by omega) (by omega)
        omega
      have hw2 : IntKind.u64.wrap (IntKind.u64.wrap (4294967296 * r) + v) = r * 4294967296 + v := by rw [u64a, u64w (by omega)]; omega
      rw [hw1, hw2]
      by_cases ht : q * y0 > r * 4294967296 + v
      · rw [decide_eq_true ht]
        exact hT (Or.inr ht)
      · rw [decide_eq_false ht, bits_Div64.j4, if_neg (by decide), if_pos hs]
        have hge := dig_ge y y1 y0 R v q r 4294967296 hy h6 (by omega)
        have : q * y < (Q + 1) * y := by omega
        have : q < Q + 1 := Int.lt_of_mul_lt_mul_right this (by omega)
        rw [show q = Q by omega]
        rfl
/-- the second digit's first guess -/
theorem j2_dig (y s y1 y0 u d v Q1 : Int) (hs : 0 ≤ s) (hy : y = y1 * 4294967296 + y0) (hy64 : y < 18446744073709551616) (hy0 : 0 ≤ y0) (hy0b : y0 < 4294967296) (hy1 : 2147483648 ≤ y1) (hy1b : y1 < 4294967296) (hR0 : 0 ≤ u * 4294967296 + d - Q1 * y) (hRy : u * 4294967296 + d - Q1 * y < y) (hv0 : 0 ≤ v) (hv : v < 4294967296) (K : Nat) :
    bits_Div64.j2 (K + 4 + 1) y s y1 y0 u d v Q1 = some (fin64 y s v Q1 (u * 4294967296 + d - Q1 * y) (((u * 4294967296 + d - Q1 * y) * 4294967296 + v) / y)) := by
  rw [bits_Div64.j2, if_neg (by omega)]
  have hR : IntKind.u64.wrap (IntKind.u64.wrap (IntKind.u64.wrap (u * 4294967296) + d) - IntKind.u64.wrap (Q1 * y)) = u * 4294967296 + d - Q1 * y := by rw [u64t, u64w (by omega)]
  rw [hR]
  generalize u * 4294967296 + d - Q1 * y = R at hR0 hRy
  have hq0 : 0 ≤ R / y1 := Int.ediv_nonneg hR0 (by omega)
  have hmod := Int.emod_nonneg R (b := y1) (by omega)
  have hmod2 := Int.emod_lt_of_pos R (b := y1) (by omega)
  have hdm : R = R / y1 * y1 + R % y1 := by have := Int.mul_ediv_add_emod R y1; rw [Int.mul_comm] at this; omega
  have hle : R / y1 ≤ R := Int.ediv_le_self _ hR0
  rw [Int.tdiv_eq_ediv_of_nonneg hR0, u64w (n := R / y1) (by omega), show IntKind.u64.wrap (R - IntKind.u64.wrap (R / y1 * y1)) = R % y1 by
    have h := u64s R (R / y1 * y1)
    rw [u64w (n := R) (by omega)] at h
    rw [h, show R - R / y1 * y1 = R % y1 by omega]
    exact u64w (by omega)]
  have hypos : 0 < y := by omega
  have hn0 : 0 ≤ R * 4294967296 + v := by omega
  have hQ0 : 0 ≤ (R * 4294967296 + v) / y := Int.ediv_nonneg hn0 (by omega)
  have hQm := Int.mul_ediv_add_emod (R * 4294967296 + v) y
  have hQr := Int.emod_nonneg (R * 4294967296 + v) (b := y) (by omega)
  have hQr2 := Int.emod_lt_of_pos (R * 4294967296 + v) hypos
  generalize hQd : (R * 4294967296 + v) / y = Q at hQ0 hQm
  generalize (R * 4294967296 + v) % y = W at hQm hQr hQr2
  have hQy : Q * y ≤ R * 4294967296 + v := by rw [Int.mul_comm]; omega
  have hQy2 : R * 4294967296 + v < (Q + 1) * y := by rw [Int.add_mul, Int.one_mul, Int.mul_comm Q y]; omega
  have hguess : Q ≤ R / y1 := by
    -- Q * y1 * b ≤ Q * y ≤ R * b + v, so Q * y1 ≤ R
    have h1 : Q * y1 * 4294967296 ≤ Q * y := by
      rw [hy, Int.mul_assoc]
      exact Int.mul_le_mul_of_nonneg_left (by omega) hQ0
    have h2 : Q * y1 < R + 1 := by
      have : Q * y1 * 4294967296 < (R + 1) * 4294967296 := by omega
      exact Int.lt_of_mul_lt_mul_right this (by omega)
    exact (Int.le_ediv_iff_mul_le (by omega)).2 (by omega)
  exact l1_dig y s y1 y0 v Q1 R Q hs hy hy0 hy0b hy1 hy1b hR0 hRy hv0 hv hQ0 hQy hQy2 2 (R / y1) (R % y1) K (by omega) hmod (by omega) hguess (by omega) hdm
theorem bitLen_bounds : ∀ (n x : Nat), x ≤ n → 0 < x → x < 2 ^ 64 → 1 ≤ Lib.bitLen x ∧ 2 ^ (Lib.bitLen x - 1) ≤ x ∧ x < 2 ^ Lib.bitLen x := by
  intro n
  induction n with
  | zero => intro x h h0; omega
  | succ n ih =>
    intro x h h0 hx
    rw [Lib.bitLen_half x (by omega) hx]
    by_cases h1 : x / 2 = 0
    · have : x = 1 := by omega
      subst this
      rw [h1, show Lib.bitLen 0 = 0 from by decide]
      decide
    · obtain ⟨a, b, c⟩ := ih (x / 2) (by omega) (by omega) (by omega)
      refine ⟨by omega, ?_, ?_⟩
      · have e : 1 + Lib.bitLen (x / 2) - 1 = (Lib.bitLen (x / 2) - 1) + 1 := by omega
        rw [e, Nat.pow_succ]; omega
      · rw [Nat.add_comm, Nat.pow_succ]; omega
theorem wraps_u64 (n : Int) (h₀ : 0 ≤ n) (h₁ : n < 2 ^ 64) : IntKind.u64.wrap n = n := u64w (by omega)
theorem and32 (x : Int) (h : Word x) : Go.bits .and .u64 x 4294967295 = x % 4294967296 := bits_mask .u64 64 (by decide) wraps_u64 32 (by decide) x h.1 (by have := h.2; omega)
theorem Div64_ok (a0 a1 a2 : Int) (h0 : Word a0) (h1 : Word a1) (h2 : Word a2) (hlt : a0 < a2) (k : Nat) (hk : 20 ≤ k) :
    bits_Div64.f k a0 a1 a2 = some ((a0 * 18446744073709551616 + a1) / a2, (a0 * 18446744073709551616 + a1) % a2) := by
  obtain ⟨p0, q0⟩ := h0
  have hw1 := h1
  obtain ⟨p1, q1⟩ := h1
  have hw2 := h2
  obtain ⟨p2, q2⟩ := h2
  have h20 : a2 ≠ 0 := by omega
  unfold bits_Div64.f
  rw [if_neg h20, if_neg (by omega)]
  by_cases hz : a0 = 0
  · subst hz
    rw [if_pos rfl, Int.tdiv_eq_ediv_of_nonneg p1, Int.tmod_eq_emod_of_nonneg p1, Int.zero_mul, Int.zero_add]
    have := Int.ediv_le_self a2 p1
    have := Int.ediv_nonneg p1 p2
    rw [u64w (by omega)]
  · rw [if_neg hz]
    obtain ⟨x, rfl⟩ := Int.eq_ofNat_of_zero_le p2
    obtain ⟨hb1, hb2, hb3⟩ := bitLen_bounds x x (Nat.le_refl _) (by omega) (by omega)
    have hb64 : Lib.bitLen x ≤ 64 := by
      rcases Nat.lt_or_ge 64 (Lib.bitLen x) with h | h
      · have : 2 ^ 64 ≤ 2 ^ (Lib.bitLen x - 1) := Nat.pow_le_pow_right (by decide) (by omega)
        omega
      · exact h
    have hlz : bits_LeadingZeros64.f (x : Int) = some (64 - (Lib.bitLen x : Int)) := by
      unfold bits_LeadingZeros64.f
      rw [if_pos hw2, Int.toNat_natCast]
    rw [hlz, Option.bind_some]
    obtain ⟨s, hs⟩ : ∃ s : Nat, s + Lib.bitLen x = 64 := ⟨64 - Lib.bitLen x, by omega⟩
    have hsI : (64 - (Lib.bitLen x : Int)) = (s : Int) := by omega
    rw [hsI, u64w (n := (s : Int)) (by omega), u64w (n := 64 - (s : Int)) (by omega)]
    -- the powers
    have hPP : (2 ^ s * 2 ^ (64 - s) : Int) = 18446744073709551616 := by
      rw [← Int.pow_add, show s + (64 - s) = 64 by omega]; rfl
    have hP0 : (0 : Int) < 2 ^ s := Int.pow_pos (by decide)
    have hC0 : (0 : Int) < 2 ^ (64 - s) := Int.pow_pos (by decide)
    have hy63 : (9223372036854775808 : Int) ≤ (x : Int) * 2 ^ s := by
      have e : (2 ^ (Lib.bitLen x - 1) * 2 ^ s : Nat) = 9223372036854775808 := by rw [← Nat.pow_add, show Lib.bitLen x - 1 + s = 63 by omega]
      have := Nat.mul_le_mul_right (2 ^ s) hb2
      rw [e] at this
      have h := Int.ofNat_le.2 this
      rw [Int.natCast_mul, Int.natCast_pow] at h
      exact h
    have hy64 : (x : Int) * 2 ^ s < 18446744073709551616 := by
      have e : (2 ^ Lib.bitLen x * 2 ^ s : Nat) = 18446744073709551616 := by rw [← Nat.pow_add, show Lib.bitLen x + s = 64 by omega]
      have := Nat.mul_lt_mul_of_lt_of_le hb3 (Nat.le_refl (2 ^ s)) (Nat.two_pow_pos s)
      rw [e] at this
      have h := Int.ofNat_lt.2 this
      rw [Int.natCast_mul, Int.natCast_pow] at h
      exact h
    have hsh : ∀ a : Int, shl .u64 a (s : Int) = IntKind.u64.wrap (a * 2 ^ s) := by
      intro a
      unfold shl
      rw [Int.toNat_natCast, show IntKind.u64.bits = 64 from rfl, Nat.min_eq_left (by omega)]
    have hsr : ∀ a : Int, shr .u64 a (64 - (s : Int)) = a / 2 ^ (64 - s) := by
      intro a
      unfold shr
      rw [show (64 - (s : Int)).toNat = 64 - s by omega, show IntKind.u64.bits = 64 from rfl, Nat.min_eq_left (by omega)]
    have hss : ∀ a : Int, shr .u64 a (s : Int) = a / 2 ^ s := by
      intro a
      unfold shr
      rw [Int.toNat_natCast, show IntKind.u64.bits = 64 from rfl, Nat.min_eq_left (by omega)]
    have ha0P : a0 * 2 ^ s + 2 ^ s ≤ (x : Int) * 2 ^ s := by
      have := Int.mul_le_mul_of_nonneg_right (show a0 + 1 ≤ (x : Int) by omega) (Int.le_of_lt hP0)
      rw [Int.add_mul, Int.one_mul] at this
      exact this
    have ha0n : 0 ≤ a0 * 2 ^ s := Int.mul_nonneg p0 (Int.le_of_lt hP0)
    have hc0 : 0 ≤ a1 / 2 ^ (64 - s) := Int.ediv_nonneg p1 (Int.le_of_lt hC0)
    have hc1 : a1 / 2 ^ (64 - s) < 2 ^ s := Int.ediv_lt_of_lt_mul hC0 (by rw [hPP]; exact q1)
    have h10 : a1 * 2 ^ s = a1 / 2 ^ (64 - s) * 18446744073709551616 + (a1 * 2 ^ s) % 18446744073709551616 := by
      have e1 := Int.mul_ediv_add_emod (a1 * 2 ^ s) 18446744073709551616
      have e2 : a1 * 2 ^ s / 18446744073709551616 = a1 / 2 ^ (64 - s) := by
        rw [← hPP, Int.mul_comm a1]
        exact Int.mul_ediv_mul_of_pos _ _ hP0
      rw [e2] at e1
      omega
    have hPn := hP0
    rw [hsh, hsh, hsh, hsr, u64w (n := (x : Int) * 2 ^ s) (by omega), u64w (n := a0 * 2 ^ s) (by omega), u64m (a1 * 2 ^ s)]
    have hor : Go.bits .or .u64 (a0 * 2 ^ s) (a1 / 2 ^ (64 - s)) = a0 * 2 ^ s + a1 / 2 ^ (64 - s) :=
      bits_join .u64 64 (by decide) wraps_u64 s _ _ ha0n (Int.mul_emod_left _ _) (by omega) hc0 hc1 (by omega)
    rw [hor, if_pos (by omega), if_pos (by omega)]
    have hun10 : Word (a1 * 2 ^ s % 18446744073709551616) := ⟨Int.emod_nonneg _ (by decide), Int.emod_lt_of_pos _ (by decide)⟩
    rw [and32 ((x : Int) * 2 ^ s) ⟨by omega, hy64⟩, and32 _ hun10]
    have hall : (a0 * 18446744073709551616 + a1) * 2 ^ s = (a0 * 2 ^ s + a1 / 2 ^ (64 - s)) * 18446744073709551616 + a1 * 2 ^ s % 18446744073709551616 := by
      generalize a1 * 2 ^ s % 18446744073709551616 = r at h10
      generalize a1 / 2 ^ (64 - s) = c at h10
      generalize (2 : Int) ^ s = P at h10
      grind
    have hNq : (a0 * 18446744073709551616 + a1) * 2 ^ s / ((x : Int) * 2 ^ s) = (a0 * 18446744073709551616 + a1) / (x : Int) := Int.mul_ediv_mul_of_pos_left _ _ hP0
    have hNr : (a0 * 18446744073709551616 + a1) * 2 ^ s % ((x : Int) * 2 ^ s) = (a0 * 18446744073709551616 + a1) % (x : Int) * 2 ^ s := by
      rw [Int.mul_comm _ (2 ^ s), Int.mul_comm (x : Int), Int.mul_emod_mul_of_pos _ _ hP0, Int.mul_comm]
    have huy : a0 * 2 ^ s + a1 / 2 ^ (64 - s) < (x : Int) * 2 ^ s := by omega
    have hu0 : 0 ≤ a0 * 2 ^ s + a1 / 2 ^ (64 - s) := by omega
    have hquo : (a0 * 18446744073709551616 + a1) / (x : Int) < 18446744073709551616 := by
      refine Int.ediv_lt_of_lt_mul (by omega) ?_
      omega
    have hquo0 : 0 ≤ (a0 * 18446744073709551616 + a1) / (x : Int) := Int.ediv_nonneg (by omega) p2
    generalize hU : a0 * 2 ^ s + a1 / 2 ^ (64 - s) = U at *
    generalize hT : a1 * 2 ^ s % 18446744073709551616 = T at *
    generalize hY : (x : Int) * 2 ^ s = Y at *
    obtain ⟨t0, t1⟩ := hun10
    have hfin : ∀ Q : Int, Q = (U * 4294967296 + T / 4294967296) / Y → bits_Div64.j2 (4 + 4 + 1) Y (s : Int) (Y / 4294967296) (Y % 4294967296) U (T / 4294967296) (T % 4294967296) Q = some ((a0 * 18446744073709551616 + a1) / (x : Int), (a0 * 18446744073709551616 + a1) % (x : Int)) := by
      intro Q hQ
      have e1 := Int.mul_ediv_add_emod (U * 4294967296 + T / 4294967296) Y
      have e2 := Int.emod_nonneg (U * 4294967296 + T / 4294967296) (b := Y) (by omega)
      have e3 := Int.emod_lt_of_pos (U * 4294967296 + T / 4294967296) (b := Y) (by omega)
      rw [← hQ, Int.mul_comm] at e1
      generalize (U * 4294967296 + T / 4294967296) % Y = R at e1 e2 e3
      have hR : U * 4294967296 + T / 4294967296 - Q * Y = R := by omega
      rw [j2_dig Y s (Y / 4294967296) (Y % 4294967296) U (T / 4294967296) (T % 4294967296) Q (by omega) (by omega) hy64 (by omega) (by omega) (by omega) (by omega) (by omega) (by omega) (by omega) (by omega) 4, hR]
      have f1 := Int.mul_ediv_add_emod (R * 4294967296 + T % 4294967296) Y
      have f2 := Int.emod_nonneg (R * 4294967296 + T % 4294967296) (b := Y) (by omega)
      have f3 := Int.emod_lt_of_pos (R * 4294967296 + T % 4294967296) (b := Y) (by omega)
      rw [Int.mul_comm] at f1
      generalize (R * 4294967296 + T % 4294967296) / Y = Q2 at f1
      generalize (R * 4294967296 + T % 4294967296) % Y = W at f1 f2 f3
      have hsum : (a0 * 18446744073709551616 + a1) * 2 ^ s = (Q * 4294967296 + Q2) * Y + W := by
        rw [hall]
        have g1 : U * 4294967296 + T / 4294967296 = Q * Y + R := by omega
        have g2 : R * 4294967296 + T % 4294967296 = Q2 * Y + W := by omega
        have g3 : U * 18446744073709551616 + T = (U * 4294967296 + T / 4294967296) * 4294967296 + T % 4294967296 := by omega
        rw [g3, g1]
        grind
      have hq : (a0 * 18446744073709551616 + a1) / (x : Int) = Q * 4294967296 + Q2 := by
        rw [← hNq, hsum]
        exact quo_eq _ Y _ (by omega) (by omega) (by rw [Int.add_mul (Q * 4294967296 + Q2), Int.one_mul]; omega)
      have hr : (a0 * 18446744073709551616 + a1) % (x : Int) * 2 ^ s = W := by
        rw [← hNr]
        have := Int.mul_ediv_add_emod ((a0 * 18446744073709551616 + a1) * 2 ^ s) Y
        rw [hNq, hq, hsum, Int.mul_comm Y] at this
        rw [hsum]
        omega
      unfold fin64
      rw [u64a, u64w (n := Q * 4294967296 + Q2) (by omega), u64t, show R * 4294967296 + T % 4294967296 - Q2 * Y = W by omega, u64w (n := W) (by omega), hss, ← hr, Int.mul_ediv_cancel _ (by omega), hq]
    have d0 : 0 ≤ U / (Y / 4294967296) := Int.ediv_nonneg hu0 (by omega)
    have d1 : U / (Y / 4294967296) ≤ U := Int.ediv_le_self _ hu0
    have dm := Int.mul_ediv_add_emod U (Y / 4294967296)
    have m0 := Int.emod_nonneg U (b := Y / 4294967296) (by omega)
    have m1 := Int.emod_lt_of_pos U (b := Y / 4294967296) (by omega)
    rw [Int.mul_comm] at dm
    rw [if_neg (by omega), Int.tdiv_eq_ediv_of_nonneg hu0, u64w (n := U / (Y / 4294967296)) (by omega), show IntKind.u64.wrap (U - IntKind.u64.wrap (U / (Y / 4294967296) * (Y / 4294967296))) = U % (Y / 4294967296) by
      have h := u64s U (U / (Y / 4294967296) * (Y / 4294967296))
      rw [u64w (n := U) (by omega)] at h
      rw [h, show U - U / (Y / 4294967296) * (Y / 4294967296) = U % (Y / 4294967296) by omega]
      exact u64w (by omega)]
    have hn0 : 0 ≤ U * 4294967296 + T / 4294967296 := by omega
    have hQ0 : 0 ≤ (U * 4294967296 + T / 4294967296) / Y := Int.ediv_nonneg hn0 (by omega)
    have e1 := Int.mul_ediv_add_emod (U * 4294967296 + T / 4294967296) Y
    have e2 := Int.emod_nonneg (U * 4294967296 + T / 4294967296) (b := Y) (by omega)
    have e3 := Int.emod_lt_of_pos (U * 4294967296 + T / 4294967296) (b := Y) (by omega)
    have hj := hfin _ rfl
    generalize (U * 4294967296 + T / 4294967296) / Y = Q at hQ0 e1 hj
    rw [Int.mul_comm] at e1
    have hQ1 : Q * Y ≤ U * 4294967296 + T / 4294967296 := by omega
    have hQ2 : U * 4294967296 + T / 4294967296 < (Q + 1) * Y := by rw [Int.add_mul, Int.one_mul]; omega
    have hguess : Q ≤ U / (Y / 4294967296) := by
      have h1 : Q * (Y / 4294967296) * 4294967296 ≤ Q * Y := by
        rw [Int.mul_assoc]
        exact Int.mul_le_mul_of_nonneg_left (by omega) hQ0
      have h2 : Q * (Y / 4294967296) < U + 1 := by
        have : Q * (Y / 4294967296) * 4294967296 < (U + 1) * 4294967296 := by omega
        exact Int.lt_of_mul_lt_mul_right this (by omega)
      exact (Int.le_ediv_iff_mul_le (by omega)).2 (by omega)
    have hl := l0_dig 9 _ Y s (Y / 4294967296) (Y % 4294967296) U (T / 4294967296) (T % 4294967296) Q (by omega) (by omega) (by omega) (by omega) (by omega) hu0 huy (by omega) (by omega) hQ0 hQ1 hQ2 hj 2 (U / (Y / 4294967296)) (U % (Y / 4294967296)) (by omega) m0 (by omega) hguess (by omega) (by omega)
    exact at_rounds (g := fun k => bits_Div64.l0 k Y s (Y / 4294967296) (Y % 4294967296) U (T / 4294967296) (T % 4294967296) (U / (Y / 4294967296)) (U % (Y / 4294967296))) (fun k => (bits_Div64.mono_l k).2.2.2.1 _ _ _ _ _ _ _ _ _) (show 9 + 2 * 2 ≤ k by omega) hl
end Go.Proofs.YtndfjpnpdnnpkaaDoor.F
