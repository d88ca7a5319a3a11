import Derived.Test.YtoongglmgpilfaaDoorPLex
namespace Go.Proofs.YtoongglmgpilfaaDoor.L
set_option linter.unusedVariables false
set_option linter.unusedSimpArgs false
open Lx

/-- the number that digits spell, behind others -/
def vl (a : Nat) : List UInt8 → Nat
  | [] => a
  | c :: r => vl (10 * a + (c.toNat - 48)) r
theorem dig_iff (c : UInt8) : isDig c = true ↔ 48 ≤ c.toNat ∧ c.toNat ≤ 57 := by
  unfold isDig
  simp only [Bool.and_eq_true, decide_eq_true_eq, UInt8.le_iff_toNat_le]
  rfl
theorem vl_ge (l : List UInt8) : ∀ a, a ≤ vl a l := by
  induction l with
  | nil => intro a; exact Nat.le_refl _
  | cons c r ih => intro a; have := ih (10 * a + (c.toNat - 48)); unfold vl; omega
theorem vl_snoc (l : List UInt8) (c : UInt8) : ∀ a, vl a (l ++ [c]) = 10 * vl a l + (c.toNat - 48) := by
  induction l with
  | nil => intro a; rfl
  | cons d r ih => intro a; exact ih _
theorem parse_ok (l : List UInt8) : ∀ a, l.all isDig = true → vl a l ≤ 1000000 → Lib.parseUint10 a l = .ok (vl a l) := by
  induction l with
  | nil => intro a _ _; rfl
  | cons c r ih =>
    intro a h hv
    simp only [List.all_cons, Bool.and_eq_true] at h
    have hd := (dig_iff c).1 h.1
    have hv' : vl (10 * a + (c.toNat - 48)) r ≤ 1000000 := hv
    have hg := vl_ge r (10 * a + (c.toNat - 48))
    unfold Lib.parseUint10
    rw [if_pos hd, if_neg (by omega), if_neg (by omega), show a * 10 + (c.toNat - 48) = 10 * a + (c.toNat - 48) by omega]
    exact ih _ h.2 hv'
theorem ok_parse (l : List UInt8) : ∀ a u, Lib.parseUint10 a l = .ok u → l.all isDig = true ∧ u = vl a l := by
  induction l with
  | nil => intro a u h; unfold Lib.parseUint10 at h; injection h with h; exact ⟨rfl, h.symm⟩
  | cons c r ih =>
    intro a u h
    unfold Lib.parseUint10 at h
    split at h
    · rename_i hd
      split at h
      · cases h
      · split at h
        · cases h
        · obtain ⟨h1, h2⟩ := ih _ _ h
          refine ⟨by simp only [List.all_cons, Bool.and_eq_true]; exact ⟨(dig_iff c).2 hd, h1⟩, ?_⟩
          rw [h2, show a * 10 + (c.toNat - 48) = 10 * a + (c.toNat - 48) by omega]
          rfl
    · cases h
theorem ofNat_dig {c : UInt8} (h : isDig c = true) : UInt8.ofNat (48 + (c.toNat - 48)) = c := by
  have := (dig_iff c).1 h
  rw [show 48 + (c.toNat - 48) = c.toNat by omega, UInt8.ofNat_toNat]
/-- no zero in front -/
def lead : List UInt8 → Bool
  | [] => true
  | [_] => true
  | c :: _ :: _ => c != 48
theorem lead_pos {l : List UInt8} {c d : UInt8} (hd : (l ++ [c]).all isDig = true) (h : lead (l ++ [c]) = true) (hl : l ≠ []) : 1 ≤ vl 0 l := by
  match l, hl with
  | e :: r, _ =>
    have h1 : e ≠ 48 := by
      cases r with
      | nil => simpa [lead] using h
      | cons f r => simpa [lead] using h
    simp only [List.cons_append, List.all_cons, Bool.and_eq_true] at hd
    have h2 := (dig_iff e).1 hd.1
    have h3 : e.toNat ≠ 48 := by
      intro x
      apply h1
      apply UInt8.toNat_inj.1
      rw [x]; rfl
    have := vl_ge r (10 * 0 + (e.toNat - 48))
    show 1 ≤ vl (10 * 0 + (e.toNat - 48)) r
    omega
theorem lead_init {l : List UInt8} {c : UInt8} (h : lead (l ++ [c]) = true) : lead l = true := by
  match l with
  | [] => rfl
  | [_] => rfl
  | e :: f :: r => simpa [lead] using h
theorem dec_vl : ∀ (n : Nat) (l : List UInt8), l.length = n → l ≠ [] → l.all isDig = true → lead l = true → Lib.decDigits (vl 0 l) = l := by
  intro n
  induction n with
  | zero => intro l h hl; exact absurd (List.length_eq_zero_iff.1 h) hl
  | succ n ih =>
    intro l hn hl hd hz
    obtain ⟨l', c, rfl⟩ : ∃ l' c, l = l' ++ [c] := ⟨l.dropLast, l.getLast hl, (List.dropLast_concat_getLast hl).symm⟩
    have hdc : isDig c = true ∧ l'.all isDig = true := by
      simp only [List.all_append, List.all_cons, List.all_nil, Bool.and_true, Bool.and_eq_true] at hd
      exact ⟨hd.2, hd.1⟩
    have hc := (dig_iff c).1 hdc.1
    rw [vl_snoc]
    by_cases h0 : l' = []
    · subst h0
      rw [show vl 0 [] = 0 from rfl, Lib.decDigits, dif_pos (by omega), show 48 + (10 * 0 + (c.toNat - 48)) = 48 + (c.toNat - 48) by omega, ofNat_dig hdc.1]
      rfl
    · have hp := lead_pos (d := c) hd hz h0
      have hlen : l'.length = n := by simpa using hn
      rw [Lib.decDigits, dif_neg (by omega), show (10 * vl 0 l' + (c.toNat - 48)) / 10 = vl 0 l' by omega, show (10 * vl 0 l' + (c.toNat - 48)) % 10 = c.toNat - 48 by omega, ofNat_dig hdc.1,
        ih l' hlen h0 hdc.2 (lead_init hz)]
theorem dec_head : ∀ (v : Nat), 1 ≤ v → ∃ c r, Lib.decDigits v = c :: r ∧ c ≠ 48 := by
  intro v
  induction v using Nat.strongRecOn with
  | _ v ih =>
    intro hv
    rw [Lib.decDigits]
    by_cases h : v < 10
    · rw [dif_pos h]
      refine ⟨_, _, rfl, fun e => ?_⟩
      have := congrArg UInt8.toNat e
      rw [UInt8.toNat_ofNat'] at this
      have h48 : (48 : UInt8).toNat = 48 := rfl
      rw [h48] at this
      omega
    · rw [dif_neg h]
      obtain ⟨c, r, h1, h2⟩ := ih (v / 10) (by omega) (by omega)
      rw [h1]
      exact ⟨c, r ++ [_], rfl, h2⟩
/-- A WORD THAT BEGINS WITH A DIGIT. -/
theorem wk_dig (c : UInt8) (r : List UInt8) (hc : isDig c = true) : wk (c :: r) = if (c :: r).all isDig = true ∧ vl 0 (c :: r) ≤ 1000000 ∧ lead (c :: r) = true then 2 else 0 := by
  have hcd := (dig_iff c).1 hc
  have hA : Lib.atoiAll (c :: r) = match Lib.parseUint10 0 (c :: r) with | .ok u => (if 9223372036854775808 ≤ u then .range else .ok (u : Int)) | .range => .range | _ => Lib.atoiAll [] := by
    unfold Lib.atoiAll
    simp only []
    rw [if_neg (by omega)]
    unfold Lib.parseMag
    rw [if_neg (by simp)]
    cases Lib.parseUint10 0 (c :: r) with
    | range => rfl
    | ok u =>
      simp only []
      by_cases hu : 9223372036854775808 ≤ u
      · rw [if_pos ⟨by omega, hu⟩, if_pos hu]
      · rw [if_neg (by omega), if_neg (by omega), if_neg hu]
        rw [if_neg (by omega)]
    | _ => rfl
  unfold wk
  simp only []
  rw [if_neg (by omega), hA]
  by_cases h : (c :: r).all isDig = true ∧ vl 0 (c :: r) ≤ 1000000 ∧ lead (c :: r) = true
  · obtain ⟨h1, h2, h3⟩ := h
    rw [parse_ok _ 0 h1 h2]
    simp only []
    rw [if_neg (by omega)]
    simp only []
    rw [if_pos ⟨by omega, by rw [Lib.itoa, if_neg (by omega), Int.toNat_natCast]; exact dec_vl _ _ rfl (by simp) h1 h3⟩, if_pos ⟨h1, h2, h3⟩]
  · rw [if_neg h]
    cases hp : Lib.parseUint10 0 (c :: r) with
    | range => rfl
    | ok u =>
      simp only []
      obtain ⟨p1, p2⟩ := ok_parse _ _ _ hp
      by_cases hu : 9223372036854775808 ≤ u
      · rw [if_pos hu]
      · rw [if_neg hu]
        simp only []
        rw [if_neg]
        rintro ⟨q1, q2⟩
        apply h
        refine ⟨p1, by omega, ?_⟩
        rw [Lib.itoa, if_neg (by omega), Int.toNat_natCast] at q2
        cases r with
        | nil => rfl
        | cons d r =>
          by_cases h0 : u = 0
          · subst h0
            rw [Lib.decDigits, dif_pos (by omega)] at q2
            cases q2
          · obtain ⟨c', r', e1, e2⟩ := dec_head u (by omega)
            rw [e1] at q2
            injection q2 with q3 _
            subst q3
            simpa [lead] using e2
    | _ => rfl
/-- A WORD THAT BEGINS WITH A LETTER. -/
theorem wk_low (c : UInt8) (r : List UInt8) (hc : isLow c = true) : wk (c :: r) = 1 := by
  unfold isLow at hc
  simp only [Bool.and_eq_true, decide_eq_true_eq, UInt8.le_iff_toNat_le] at hc
  have h1 : 97 ≤ c.toNat := hc.1
  have h2 : c.toNat ≤ 122 := hc.2
  unfold wk
  simp only []
  rw [if_pos (by omega)]
end Go.Proofs.YtoongglmgpilfaaDoor.L
