/- The reference's generator makes valid fractions. -/
import Derived.Test.YtndfjpnpdnnpkaaDoorPFb
import Derived.Test.YtndfjpnpdnnpkaaDoorFx8
namespace Go.Proofs.YtndfjpnpdnnpkaaDoor.F
set_option linter.unusedVariables false
set_option linter.unusedSimpArgs false
open Go.RowKit Go.Proofs.YtndfjpnpdnnpkaaDoorW.PrintWords Go.Proofs.YtndfjpnpdnnpkaaDoorW.PrintLast Go.Proofs.YtndfjpnpdnnpkaaDoorW.PrintMore
theorem gcdR_ex : ∀ (n b a : Nat), b ≤ n → ∃ k, wireloomref02_Gcd.l0 k (a : Int) (b : Int) = some ((Nat.gcd a b : Nat) : Int) := by
  intro n
  induction n with
  | zero =>
    intro b a hb
    have : b = 0 := by omega
    subst this
    exact ⟨1, by rw [wireloomref02_Gcd.l0, if_neg (by omega), Nat.gcd_zero_right]⟩
  | succ n ih =>
    intro b a hb
    by_cases h0 : b = 0
    · subst h0
      exact ⟨1, by rw [wireloomref02_Gcd.l0, if_neg (by omega), Nat.gcd_zero_right]⟩
    · have hlt := Nat.mod_lt a (show 0 < b by omega)
      obtain ⟨k, hk⟩ := ih (a % b) b (by omega)
      refine ⟨k + 1, ?_⟩
      rw [wireloomref02_Gcd.l0, if_pos (by omega), if_neg (by omega), show Int.tmod (a : Int) (b : Int) = ((a % b : Nat) : Int) from rfl, hk, Nat.gcd_comm b, ← Nat.gcd_rec, Nat.gcd_comm]
theorem gcdR_ok {a b : Int} (ha : 0 ≤ a) (hb : 0 ≤ b) : ∃ k, wireloomref02_Gcd.f k a b = some ((Int.gcd a b : Nat) : Int) := by
  obtain ⟨x, rfl⟩ := Int.eq_ofNat_of_zero_le ha
  obtain ⟨y, rfl⟩ := Int.eq_ofNat_of_zero_le hb
  exact gcdR_ex y y x (Nat.le_refl _)
theorem sizeR_ok {a : Int} (h : -9223372036854775807 ≤ a ∧ a ≤ 9223372036854775807) : wireloomref02_size.f a = some (a.natAbs : Int) := by
  unfold wireloomref02_size.f
  split
  · rw [w64 (by omega)]; congr 1; omega
  · congr 1; omega
theorem halfR_ok {a x : Int} {g : Nat} (h0 : 0 < g) (e : a = g * x) (h : -9223372036854775807 ≤ a ∧ a ≤ 9223372036854775807) : wireloomref02_half.f a g = some (x.natAbs : Int) := by
  have := quo_le h0 e
  unfold wireloomref02_half.f
  rw [if_neg (by omega), tdiv_g h0 e, w64 (by omega), sizeR_ok (by omega)]
  rfl
theorem MostR : wireloomref02_Most.f = some 4611686018427387904 := rfl
/-- what the reference's MakeIn answers -/
def MI (n d : Int) (R : Int × Int × Int) : Prop := (R.2.2 = 0 → VF R.1 R.2.1) ∧ (-4611686018427387904 ≤ n → n ≤ 4611686018427387904 → -4611686018427387904 ≤ d → d ≤ 4611686018427387904 → R.2.2 = 0) ∧ (R.2.2 = 0 ∨ R.2.2 = 2)
theorem MI.big {n d : Int} (h : ¬(-4611686018427387904 ≤ n ∧ n ≤ 4611686018427387904 ∧ -4611686018427387904 ≤ d ∧ d ≤ 4611686018427387904)) : MI n d (0, 0, 2) :=
  ⟨fun h => (by cases h), fun a b c e => absurd ⟨a, b, c, e⟩ h, Or.inr rfl⟩
theorem j2_ok {n d : Int} (hn : I64 n) (hd : I64 d) (h0 : d ≠ 0) (n0 : n ≠ 0) (b : Bool) (hb : b = true ↔ (n = -9223372036854775808 ∨ d = -9223372036854775808)) : ∃ k R, wireloomref02_MakeIn.j2 k n d b = some R ∧ MI n d R := by
  obtain ⟨n1, n2⟩ := hn
  obtain ⟨d1, d2⟩ := hd
  cases b with
  | true => exact ⟨1, _, by rw [wireloomref02_MakeIn.j2, if_pos rfl], MI.big (by have := hb.1 rfl; omega)⟩
  | false =>
    have hb : ¬(n = -9223372036854775808 ∨ d = -9223372036854775808) := fun h => by have := hb.2 h; cases this
    obtain ⟨g, x, y, hg, g0, ex, ey, hxy⟩ := gcd_parts n d h0
    have xb := quo_le g0 ex
    have yb := quo_le g0 ey
    have y0 : y ≠ 0 := by intro h; rw [h] at ey; omega
    obtain ⟨k, hk⟩ := gcdR_ok (a := (n.natAbs : Int)) (b := (d.natAbs : Int)) (by omega) (by omega)
    have hgg : Int.gcd (n.natAbs : Int) (d.natAbs : Int) = g := by rw [← hg]; simp [Int.gcd]
    rw [hgg] at hk
    have hup : wireloomref02_Gcd.f (k + 1) (n.natAbs : Int) (d.natAbs : Int) = some (g : Int) := at_rounds (g := fun k => wireloomref02_Gcd.f k (n.natAbs : Int) (d.natAbs : Int)) (fun k => wireloomref02_Gcd.mono _ _ k) (Nat.le_add_right k 1) hk
    have cx : Int.gcd (x.natAbs : Int) (y.natAbs : Int) = 1 := by rw [← hxy]; simp [Int.gcd]
    have cx2 : Int.gcd (-(x.natAbs : Int)) (y.natAbs : Int) = 1 := by rw [← hxy]; simp [Int.gcd]
    have hbig : (¬(x.natAbs : Int) ≤ 4611686018427387904 ∨ ¬(y.natAbs : Int) ≤ 4611686018427387904) → MI n d (0, 0, 2) := fun h => MI.big (by omega)
    have hj3 : ∀ b : Bool, (b = true ↔ (¬(x.natAbs : Int) ≤ 4611686018427387904 ∨ ¬(y.natAbs : Int) ≤ 4611686018427387904)) → ∃ R, wireloomref02_MakeIn.j3 (k + 1) n d (x.natAbs : Int) (y.natAbs : Int) b = some R ∧ MI n d R := by
      intro b hb
      cases b with
      | true => exact ⟨_, by rw [wireloomref02_MakeIn.j3, if_pos rfl], hbig (hb.1 rfl)⟩
      | false =>
        have hb : ¬(¬(x.natAbs : Int) ≤ 4611686018427387904 ∨ ¬(y.natAbs : Int) ≤ 4611686018427387904) := fun h => by have := hb.2 h; cases this
        rw [wireloomref02_MakeIn.j3, if_neg (by decide)]
        split
        · refine ⟨_, rfl, ?_⟩
          rw [w64 (by omega)]
          exact ⟨fun _ => ⟨by show 1 ≤ (y.natAbs : Int); omega, by show (y.natAbs : Int) ≤ _; omega, by show _ ≤ -(x.natAbs : Int); omega, by show -(x.natAbs : Int) ≤ _; omega, cx2⟩, fun _ _ _ _ => rfl, Or.inl rfl⟩
        · refine ⟨_, rfl, ?_⟩
          exact ⟨fun _ => ⟨by show 1 ≤ (y.natAbs : Int); omega, by show (y.natAbs : Int) ≤ _; omega, by show _ ≤ (x.natAbs : Int); omega, by show (x.natAbs : Int) ≤ _; omega, cx⟩, fun _ _ _ _ => rfl, Or.inl rfl⟩
    refine ⟨k + 1 + 1, ?_⟩
    rw [wireloomref02_MakeIn.j2, if_neg (by decide), sizeR_ok (by omega), Option.bind_some, sizeR_ok (by omega), Option.bind_some, hup, Option.bind_some, halfR_ok g0 ex (by omega), Option.bind_some, halfR_ok g0 ey (by omega), Option.bind_some, MostR, Option.bind_some]
    by_cases h1 : (x.natAbs : Int) > 4611686018427387904
    · rw [if_pos h1]
      exact hj3 true ⟨fun _ => Or.inl (by omega), fun _ => rfl⟩
    · rw [if_neg h1, Option.bind_some]
      exact hj3 _ ⟨fun h => by have := of_decide_eq_true h; exact Or.inr (by omega), fun h => decide_eq_true (by omega)⟩
theorem MI.zero (d : Int) : MI 0 d (0, 1, 0) := ⟨fun _ => ⟨by decide, by decide, by decide, by decide, by decide⟩, fun _ _ _ _ => rfl, Or.inl rfl⟩
theorem j1f_ok {n d : Int} (hn : I64 n) (hd : I64 d) (h0 : d ≠ 0) : ∃ k R, wireloomref02_MakeIn.j1 k n d false = some R ∧ MI n d R := by
  by_cases n0 : n = 0
  · subst n0
    exact ⟨1, _, by rw [wireloomref02_MakeIn.j1, if_neg (by decide), if_pos rfl], MI.zero d⟩
  · by_cases hm : n = -9223372036854775808
    · obtain ⟨k, R, h, hR⟩ := j2_ok hn hd h0 n0 true ⟨fun _ => Or.inl hm, fun _ => rfl⟩
      exact ⟨k + 1, R, by rw [wireloomref02_MakeIn.j1, if_neg (by decide), if_neg n0, if_pos hm]; exact h, hR⟩
    · obtain ⟨k, R, h, hR⟩ := j2_ok hn hd h0 n0 (d == -9223372036854775808) ⟨fun h => Or.inr (by simpa using h), fun h => by rcases h with h | h; exact absurd h hm; simpa using h⟩
      exact ⟨k + 1, R, by rw [wireloomref02_MakeIn.j1, if_neg (by decide), if_neg n0, if_neg hm]; exact h, hR⟩
theorem l0_ok : ∀ (m : Nat) {n d : Int}, d.natAbs ≤ m → I64 n → I64 d → d ≠ 0 → ∃ k R, wireloomref02_MakeIn.l0 k n d = some R ∧ MI n d R := by
  intro m
  induction m with
  | zero => intro n d h _ _ h0; omega
  | succ m ih =>
    intro n d hm hn hd h0
    by_cases hE : Int.tmod n 2 = 0 ∧ Int.tmod d 2 = 0 ∧ n ≠ 0
    · obtain ⟨e1, e2, e3⟩ := hE
      have f1 : n = 2 * Int.tdiv n 2 := by have := Int.mul_tdiv_add_tmod n 2; omega
      have f2 : d = 2 * Int.tdiv d 2 := by have := Int.mul_tdiv_add_tmod d 2; omega
      generalize hx : Int.tdiv n 2 = x at f1
      generalize hy : Int.tdiv d 2 = y at f2
      obtain ⟨n1, n2⟩ := hn
      obtain ⟨d1, d2⟩ := hd
      obtain ⟨k, R, h, hR⟩ := ih (n := x) (d := y) (by omega) ⟨by omega, by omega⟩ ⟨by omega, by omega⟩ (by omega)
      refine ⟨k + 1 + 1, R, ?_, hR.1, fun a b c e => hR.2.1 (by omega) (by omega) (by omega) (by omega), hR.2.2⟩
      rw [wireloomref02_MakeIn.l0, if_pos e1, if_pos e2, show (n != 0) = true by simpa using e3, wireloomref02_MakeIn.j1, if_pos rfl, hx, hy, w64 (by omega), w64 (by omega)]
      exact h
    · obtain ⟨k, R, h, hR⟩ := j1f_ok hn hd h0
      refine ⟨k + 1, R, ?_, hR⟩
      rw [wireloomref02_MakeIn.l0]
      by_cases e1 : Int.tmod n 2 = 0
      · rw [if_pos e1]
        by_cases e2 : Int.tmod d 2 = 0
        · rw [if_pos e2, show (n != 0) = false by simpa using fun h => hE ⟨e1, e2, h⟩]; exact h
        · rw [if_neg e2]; exact h
      · rw [if_neg e1]; exact h
theorem makeIn_ok {n d : Int} (hn : I64 n) (hd : I64 d) (h0 : d ≠ 0) : ∃ k R, wireloomref02_MakeIn.f k n d = some R ∧ MI n d R := by
  obtain ⟨k, R, h, hR⟩ := l0_ok _ (Nat.le_refl _) hn hd h0
  exact ⟨k, R, by rw [wireloomref02_MakeIn.f, if_neg h0]; exact h, hR⟩
/-- the second round has no error -/
theorem made_l0 {n d : Int} (hn : I64 n) (hd : I64 d) (R : Int × Int × Int) (hR : R.2.2 = 0 → VF R.1 R.2.1) : ∃ k N D, wireloomref02_Made.l0 k n d R.1 R.2.1 R.2.2 = some (N, D) ∧ VF N D := by
  by_cases h : R.2.2 = 0
  · exact ⟨1, _, _, by rw [wireloomref02_Made.l0, if_pos h], hR h⟩
  · obtain ⟨n1, n2⟩ := hn
    obtain ⟨d1, d2⟩ := hd
    have f1 : 2 * (Int.tdiv n 2).natAbs ≤ n.natAbs := by rw [show (Int.tdiv n 2).natAbs = n.natAbs / 2 by rw [Int.natAbs_tdiv]; rfl]; omega
    have f2 : 2 * (Int.tdiv d 2).natAbs ≤ d.natAbs := by rw [show (Int.tdiv d 2).natAbs = d.natAbs / 2 by rw [Int.natAbs_tdiv]; rfl]; omega
    generalize hx : Int.tdiv n 2 = x at f1
    generalize hy : Int.tdiv d 2 = y at f2
    have go : ∀ z : Int, z ≠ 0 → -4611686018427387904 ≤ z → z ≤ 4611686018427387904 → ∃ k N D, wireloomref02_Made.j1 k x z = some (N, D) ∧ VF N D := by
      intro z hz z1 z2
      obtain ⟨k, R', hk, hv, he, -⟩ := makeIn_ok (n := x) (d := z) ⟨by omega, by omega⟩ ⟨by omega, by omega⟩ hz
      have he := he (by omega) (by omega) z1 z2
      refine ⟨k + 1 + 1, R'.1, R'.2.1, ?_, hv he⟩
      have hup : wireloomref02_MakeIn.f (k + 1) x z = some R' := at_rounds (g := fun k => wireloomref02_MakeIn.f k x z) (fun k => wireloomref02_MakeIn.mono _ _ k) (Nat.le_add_right k 1) hk
      rw [wireloomref02_Made.j1, hup, Option.bind_some, wireloomref02_Made.l0, if_pos he]
    by_cases hy0 : y = 0
    · obtain ⟨k, N, D, hk, hv⟩ := go 1 (by decide) (by decide) (by decide)
      exact ⟨k + 1, N, D, by rw [wireloomref02_Made.l0, if_neg h, hx, hy, w64 (n := x) (by omega), w64 (n := y) (by omega), if_pos hy0]; exact hk, hv⟩
    · obtain ⟨k, N, D, hk, hv⟩ := go y hy0 (by omega) (by omega)
      exact ⟨k + 1, N, D, by rw [wireloomref02_Made.l0, if_neg h, hx, hy, w64 (n := x) (by omega), w64 (n := y) (by omega), if_neg hy0]; exact hk, hv⟩
theorem made_ok {n d : Int} (hn : I64 n) (hd : I64 d) : ∃ k N D, (∀ k', k ≤ k' → wireloomref02_Made.f k' n d = some (N, D)) ∧ VF N D := by
  have key : ∃ k N D, wireloomref02_Made.f k n d = some (N, D) ∧ VF N D := by
    have st : ∃ k R, wireloomref02_MakeIn.f k n d = some R ∧ (R.2.2 = 0 → VF R.1 R.2.1) := by
      by_cases h0 : d = 0
      · exact ⟨0, (0, 0, 3), by rw [wireloomref02_MakeIn.f, if_pos h0], fun h => by cases h⟩
      · obtain ⟨k, R, h, hR⟩ := makeIn_ok hn hd h0
        exact ⟨k, R, h, hR.1⟩
    obtain ⟨k, R, h, hR⟩ := st
    obtain ⟨k2, N, D, h2, hv⟩ := made_l0 hn hd R hR
    refine ⟨max k k2, N, D, ?_, hv⟩
    unfold wireloomref02_Made.f
    rw [at_rounds (g := fun k => wireloomref02_MakeIn.f k n d) (fun k => wireloomref02_MakeIn.mono _ _ k) (Nat.le_max_left k k2) h, Option.bind_some]
    exact at_rounds (g := fun k => wireloomref02_Made.l0 k n d R.1 R.2.1 R.2.2) (fun k => (wireloomref02_Made.mono_l k).1 _ _ _ _ _) (Nat.le_max_right k k2) h2
  obtain ⟨k, N, D, h, hv⟩ := key
  exact ⟨k, N, D, fun k' hk => at_rounds (g := fun k => wireloomref02_Made.f k n d) (fun k => wireloomref02_Made.mono _ _ k) hk h, hv⟩
end Go.Proofs.YtndfjpnpdnnpkaaDoor.F
