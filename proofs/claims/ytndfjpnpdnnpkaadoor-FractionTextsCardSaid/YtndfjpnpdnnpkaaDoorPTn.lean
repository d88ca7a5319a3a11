/- Numerals: what the reference's reader and printer, Itoa and Atoi say of them. -/
import Derived.Test.YtndfjpnpdnnpkaaDoorPFd
import Derived.Test.YtndfjpnpdnnpkaaDoorFx9
import Derived.Test.YtndfjpnpdnnpkaaDoorGivenQ
namespace Go.Proofs.YtndfjpnpdnnpkaaDoor.F
set_option linter.unusedVariables false
set_option linter.unusedSimpArgs false
open Go.RowKit Go.Proofs.YtndfjpnpdnnpkaaDoorW.PrintWords Go.Proofs.YtndfjpnpdnnpkaaDoorW.PrintLast Go.Proofs.YtndfjpnpdnnpkaaDoorW.PrintMore
def dg (c : UInt8) : Prop := 48 ≤ c.toNat ∧ c.toNat ≤ 57
/-- the number that digits spell, behind others -/
def vl (a : Nat) : List UInt8 → Nat
  | [] => a
  | c :: r => vl (10 * a + (c.toNat - 48)) r
theorem vl_ge (l : List UInt8) : ∀ a, a ≤ vl a l := by
  induction l with
  | nil => intro a; exact Nat.le_refl _
  | cons c r ih => intro a; have := ih (10 * a + (c.toNat - 48)); unfold vl; omega
theorem vl_snoc (l : List UInt8) (c : UInt8) : ∀ a, vl a (l ++ [c]) = 10 * vl a l + (c.toNat - 48) := by
  induction l with
  | nil => intro a; rfl
  | cons d r ih => intro a; exact ih _
theorem ofDig {d : Nat} (h : d < 10) : (UInt8.ofNat (48 + d)).toNat = 48 + d := by
  rw [UInt8.toNat_ofNat']; omega
theorem dec_facts : ∀ (n : Nat), (∀ c ∈ Lib.decDigits n, dg c) ∧ vl 0 (Lib.decDigits n) = n ∧ Lib.decDigits n ≠ [] := by
  intro n
  induction n using Nat.strongRecOn with
  | _ n ih =>
    rw [Lib.decDigits]
    by_cases h : n < 10
    · rw [dif_pos h]
      refine ⟨?_, ?_, by simp⟩
      · intro c hc
        rw [List.mem_singleton] at hc
        subst hc
        unfold dg
        rw [ofDig h]; omega
      · show 10 * 0 + ((UInt8.ofNat (48 + n)).toNat - 48) = n
        rw [ofDig h]; omega
    · rw [dif_neg h]
      obtain ⟨h1, h2, h3⟩ := ih (n / 10) (by omega)
      have hm : n % 10 < 10 := Nat.mod_lt _ (by decide)
      refine ⟨?_, ?_, by simp⟩
      · intro c hc
        rw [List.mem_append] at hc
        rcases hc with hc | hc
        · exact h1 c hc
        · rw [List.mem_singleton] at hc
          subst hc
          unfold dg
          rw [ofDig hm]; omega
      · rw [vl_snoc, h2, ofDig hm]; omega
theorem dec_len : ∀ (k n : Nat), n < 10 ^ (k + 1) → (Lib.decDigits n).length ≤ k + 1 := by
  intro k
  induction k with
  | zero =>
    intro n h
    rw [Lib.decDigits, dif_pos (by simpa using h)]
    simp
  | succ k ih =>
    intro n h
    rw [Lib.decDigits]
    split
    · simp
    · have := ih (n / 10) (by rw [Nat.pow_succ] at h; omega)
      simp only [List.length_append, List.length_singleton]
      omega
theorem parse_ok (l : List UInt8) : ∀ a, (∀ c ∈ l, dg c) → vl a l ≤ 4611686018427387904 → Lib.parseUint10 a l = .ok (vl a l) := by
  induction l with
  | nil => intro a _ _; rfl
  | cons c r ih =>
    intro a h hv
    have hd : dg c := h c (by simp)
    have hd' := hd
    unfold dg at hd
    have hv' : vl (10 * a + (c.toNat - 48)) r ≤ 4611686018427387904 := hv
    have hg := vl_ge r (10 * a + (c.toNat - 48))
    unfold Lib.parseUint10
    rw [if_pos hd, if_neg (by omega), if_neg (by omega), show a * 10 + (c.toNat - 48) = 10 * a + (c.toNat - 48) by omega]
    exact ih _ (fun c hc => h c (by simp [hc])) hv'
theorem mag_ok (n : Nat) (h : n ≤ 4611686018427387904) : Lib.parseMag (Lib.decDigits n) = .ok n := by
  obtain ⟨h1, h2, h3⟩ := dec_facts n
  unfold Lib.parseMag
  rw [if_neg h3, parse_ok _ 0 h1 (by omega), h2]
theorem atoi_itoa {n : Int} (h1 : -4611686018427387904 ≤ n) (h2 : n ≤ 4611686018427387904) : atoiV (Lib.itoa n) = n := by
  unfold atoiV Lib.itoa
  by_cases hn : n < 0
  · rw [if_pos hn]
    unfold Lib.atoiAll
    simp only []
    rw [if_pos (Or.inr (by decide)), mag_ok n.natAbs (by omega)]
    simp only []
    rw [if_neg (by simp), if_neg (by omega), if_pos (by decide)]
    simp only []
    omega
  · rw [if_neg hn]
    obtain ⟨f1, f2, f3⟩ := dec_facts n.toNat
    have hm := mag_ok n.toNat (by omega)
    cases hl : Lib.decDigits n.toNat with
    | nil => exact absurd hl f3
    | cons c r =>
      have hc : dg c := f1 c (by rw [hl]; simp)
      unfold dg at hc
      unfold Lib.atoiAll
      simp only []
      rw [if_neg (by omega), ← hl, hm]
      simp only []
      rw [if_neg (by omega), if_neg (by omega), if_neg (by omega)]
      simp only []
      omega
theorem itoa_no47 (n : Int) : ∀ c ∈ Lib.itoa n, c ≠ 47 := by
  intro c hc h
  subst h
  unfold Lib.itoa at hc
  split at hc
  · rw [List.mem_cons] at hc
    rcases hc with hc | hc
    · cases hc
    · have := (dec_facts _).1 _ hc
      unfold dg at this
      have h47 : (47 : UInt8).toNat = 47 := rfl
      omega
  · have := (dec_facts _).1 _ hc
    unfold dg at this
    have h47 : (47 : UInt8).toNat = 47 := rfl
    omega
def decB (n : Nat) : ByteArray := ⟨(Lib.decDigits n).toArray⟩
theorem mkB (a b : List UInt8) : (⟨(a ++ b).toArray⟩ : ByteArray) = ⟨a.toArray⟩ ++ ⟨b.toArray⟩ := by
  apply ByteArray.ext
  simp
theorem digs : ∀ a : Nat, a < 10 → (⟨#[48, 49, 50, 51, 52, 53, 54, 55, 56, 57]⟩ : ByteArray).extract a (a + 1) = ⟨[UInt8.ofNat (48 + a)].toArray⟩ := by decide +kernel
theorem size_mk (l : List UInt8) : (⟨l.toArray⟩ : ByteArray).size = l.length := by simp [ByteArray.size]
theorem digits_ok : ∀ (n : Nat), n ≤ 4611686018427387904 → ∃ k, wireloomref02_digits.f k (n : Int) = some (decB n) := by
  intro n
  induction n using Nat.strongRecOn with
  | _ n ih =>
    intro hn
    by_cases h : n < 10
    · refine ⟨1, ?_⟩
      rw [wireloomref02_digits.f, if_pos (by omega), if_pos (by omega), w64 (n := (n : Int) + 1) (by omega), if_pos (by omega), if_pos (by omega), show ((n : Int)).toNat = n by omega, show ((n : Int) + 1).toNat = n + 1 by omega, digs n h]
      unfold decB
      rw [Lib.decDigits, dif_pos h]
    · obtain ⟨k1, h1⟩ := ih (n / 10) (by omega) (by omega)
      obtain ⟨k2, h2⟩ := ih (n % 10) (by omega) (by omega)
      have u1 : wireloomref02_digits.f (k1 + k2) ((n / 10 : Nat) : Int) = some (decB (n / 10)) := at_rounds (g := fun k => wireloomref02_digits.f k _) (fun k => wireloomref02_digits.mono _ k) (Nat.le_add_right _ _) h1
      have u2 : wireloomref02_digits.f (k1 + k2) ((n % 10 : Nat) : Int) = some (decB (n % 10)) := at_rounds (g := fun k => wireloomref02_digits.f k _) (fun k => wireloomref02_digits.mono _ k) (Nat.le_add_left _ _) h2
      refine ⟨k1 + k2 + 1, ?_⟩
      have l1 := dec_len 18 (n / 10) (by omega)
      have l2 := dec_len 18 (n % 10) (by omega)
      rw [wireloomref02_digits.f, if_neg (by omega), show Int.tdiv (n : Int) 10 = ((n / 10 : Nat) : Int) from rfl, show Int.tmod (n : Int) 10 = ((n % 10 : Nat) : Int) from rfl, w64 (n := ((n / 10 : Nat) : Int)) (by omega), u1, Option.bind_some, u2, Option.bind_some, if_pos (by unfold decB; rw [size_mk, size_mk]; omega)]
      unfold decB
      rw [← mkB]
      congr 3
      rw [Lib.decDigits.eq_def n, dif_neg h, Lib.decDigits.eq_def (n % 10), dif_pos (Nat.mod_lt _ (by decide))]
/-- the text of a fraction -/
def txL (N D : Int) : List UInt8 := if D = 1 then Lib.itoa N else Lib.itoa N ++ 47 :: Lib.itoa D
def txB (N D : Int) : ByteArray := ⟨(txL N D).toArray⟩
theorem itoa_len {n : Int} (h1 : -4611686018427387904 ≤ n) (h2 : n ≤ 4611686018427387904) : (Lib.itoa n).length ≤ 20 := by
  unfold Lib.itoa
  split
  · have := dec_len 18 n.natAbs (by omega)
    simp only [List.length_cons]; omega
  · have := dec_len 18 n.toNat (by omega)
    omega
theorem txL_len {N D : Int} (h : VF N D) : (txL N D).length ≤ 41 := by
  obtain ⟨h1, h2, h3, h4, -⟩ := h
  have a := itoa_len h3 h4
  have b := itoa_len (n := D) (by omega) h2
  unfold txL
  split
  · omega
  · simp only [List.length_append, List.length_cons]; omega
theorem text_ok {N D : Int} (h : VF N D) : fraction_Text.f N D = some (txB N D) := by
  obtain ⟨h1, h2, h3, h4, -⟩ := h
  have a := itoa_len h3 h4
  have b := itoa_len (n := D) (by omega) h2
  unfold fraction_Text.f strconv_Itoa.f
  rw [if_pos ⟨by omega, by omega⟩, Option.bind_some]
  unfold txB txL itoaB
  by_cases hD : D = 1
  · rw [if_pos hD, if_pos hD]
  · have e : ∀ l : List UInt8, (⟨#[47]⟩ : ByteArray) ++ ⟨l.toArray⟩ = ⟨(47 :: l).toArray⟩ := fun l => (mkB [47] l).symm
    rw [if_neg hD, if_neg hD, if_pos ⟨by omega, by omega⟩, Option.bind_some, size_mk, if_pos (by omega), e, size_mk, size_mk, if_pos (by simp only [List.length_cons]; omega), ← mkB]
theorem rtext_ok {N D : Int} (h : VF N D) : ∃ k, wireloomref02_Text.f k N D = some (txB N D) := by
  obtain ⟨h1, h2, h3, h4, -⟩ := h
  have a := itoa_len h3 h4
  have b := itoa_len (n := D) (by omega) h2
  obtain ⟨k1, e1⟩ := digits_ok N.natAbs (by omega)
  obtain ⟨k2, e2⟩ := digits_ok D.toNat (by omega)
  have l1 := dec_len 18 N.natAbs (by omega)
  have l2 := dec_len 18 D.toNat (by omega)
  rw [show ((D.toNat : Nat) : Int) = D by omega] at e2
  have u1 : wireloomref02_digits.f (k1 + k2 + 1) (N.natAbs : Int) = some (decB N.natAbs) := at_rounds (g := fun k => wireloomref02_digits.f k _) (fun k => wireloomref02_digits.mono _ k) (by omega) e1
  have u2 : wireloomref02_digits.f (k1 + k2) D = some (decB D.toNat) := at_rounds (g := fun k => wireloomref02_digits.f k _) (fun k => wireloomref02_digits.mono _ k) (by omega) e2
  refine ⟨k1 + k2 + 1, ?_⟩
  have hj : wireloomref02_Text.j0 (k1 + k2 + 1) ⟨(Lib.itoa N).toArray⟩ N D = some (txB N D) := by
    rw [wireloomref02_Text.j0]
    unfold txB txL
    by_cases hD : D = 1
    · rw [if_pos hD, if_pos hD]
    · have e : Lib.itoa D = Lib.decDigits D.toNat := by unfold Lib.itoa; rw [if_neg (by omega)]
      rw [if_neg hD, if_neg hD, size_mk, if_pos (by omega), u2, Option.bind_some, show (⟨#[47]⟩ : ByteArray) = ⟨[47].toArray⟩ from rfl, ← mkB]
      unfold decB
      rw [size_mk, size_mk, if_pos (by simp only [List.length_append, List.length_singleton]; omega), ← mkB, e, List.append_assoc]
      rfl
  unfold wireloomref02_Text.f
  rw [sizeR_ok (by omega), Option.bind_some, u1, Option.bind_some]
  unfold decB
  by_cases hn : N < 0
  · rw [if_pos hn, size_mk, if_pos (by omega), show (⟨#[45]⟩ : ByteArray) = ⟨[45].toArray⟩ from rfl, ← mkB]
    have e : Lib.itoa N = [45] ++ Lib.decDigits N.natAbs := by unfold Lib.itoa; rw [if_pos hn]; rfl
    rw [← e]
    exact hj
  · rw [if_neg hn]
    have e : Lib.itoa N = Lib.decDigits N.natAbs := by unfold Lib.itoa; rw [if_neg hn]; congr 1; omega
    rw [← e]
    exact hj
end Go.Proofs.YtndfjpnpdnnpkaaDoor.F
