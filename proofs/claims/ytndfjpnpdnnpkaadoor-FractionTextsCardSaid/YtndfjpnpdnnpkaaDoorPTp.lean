/- Parse and the reference's ParseIn: both accept exactly the texts of the valid fractions. -/
import Derived.Test.YtndfjpnpdnnpkaaDoorPTn
import Derived.Test.YtndfjpnpdnnpkaaDoorFx10
namespace Go.Proofs.YtndfjpnpdnnpkaaDoor.F
set_option linter.unusedVariables false
set_option linter.unusedSimpArgs false
open Go.RowKit Go.Proofs.YtndfjpnpdnnpkaaDoorW.PrintWords Go.Proofs.YtndfjpnpdnnpkaaDoorW.PrintLast Go.Proofs.YtndfjpnpdnnpkaaDoorW.PrintMore
theorem loop_eq (bs : ByteArray) : ∀ n i r, bs.size - i ≤ n → ByteArray.toList.loop bs i r = r.reverse ++ bs.data.toList.drop i := by
  intro n
  induction n with
  | zero =>
    intro i r h
    have hs : bs.size = bs.data.toList.length := by rw [Array.length_toList]; rfl
    rw [ByteArray.toList.loop, if_neg (by omega), List.drop_eq_nil_of_le (by omega), List.append_nil]
  | succ n ih =>
    intro i r h
    have hs : bs.size = bs.data.toList.length := by rw [Array.length_toList]; rfl
    rw [ByteArray.toList.loop]
    split
    · rename_i hlt
      rw [ih _ _ (by omega), List.drop_eq_getElem_cons (show i < bs.data.toList.length by omega)]
      have e : bs.get! i = bs.data.toList[i]'(by omega) := by
        cases bs with
        | mk d =>
          have hlt' : i < d.size := hlt
          show d[i]! = _
          rw [getElem!_pos d i hlt']
          simp
      rw [e]
      simp
    · rename_i hlt
      rw [List.drop_eq_nil_of_le (by omega), List.append_nil]
theorem toL (b : ByteArray) : b.toList = b.data.toList := by
  rw [ByteArray.toList, loop_eq b _ 0 [] (Nat.le_refl _)]
  simp
theorem toL_inj {a b : ByteArray} (h : a.toList = b.toList) : a = b := by
  rw [toL, toL] at h
  cases a; cases b
  simp at h
  rw [h]
abbrev B (l : List UInt8) : ByteArray := ⟨l.toArray⟩
theorem B_self (s : ByteArray) : s = B s.data.toList := by cases s; simp [B]
theorem B_size (l : List UInt8) : (B l).size = l.length := by simp [ByteArray.size]
theorem B_data (l : List UInt8) : (B l).data.toList = l := by simp [B]
theorem bt_at (pre : List UInt8) (c : UInt8) (rest : List UInt8) : bt (B (pre ++ c :: rest)) (pre.length : Int) = (c.toNat : Int) := by
  unfold bt
  have h : ((pre.length : Nat) : Int).toNat < (B (pre ++ c :: rest)).size := by rw [B_size]; simp
  rw [dif_pos h]
  congr 2
  show (pre ++ c :: rest).toArray[((pre.length : Nat) : Int).toNat] = c
  simp
/-- Valid, told -/
theorem valid_tot (N D : Int) : ∃ b, fraction_Valid.f N D = some b ∧ (b = true ↔ VF N D) := by
  unfold fraction_Valid.f
  by_cases h1 : D ≥ 1
  · by_cases h2 : D ≤ 4611686018427387904
    · by_cases h3 : N ≥ -4611686018427387904
      · by_cases h4 : N ≤ 4611686018427387904
        · rw [if_pos h1, if_pos h2, if_pos h3, if_pos h4, abs_ok ⟨by omega, by omega⟩, Option.bind_some, u64w (n := D) (by omega), gcd_ok ⟨by omega, by omega⟩ ⟨by omega, by omega⟩, gcd_nat]
          refine ⟨_, rfl, ?_⟩
          rw [beq_iff_eq]
          exact ⟨fun h => ⟨h1, h2, h3, h4, by omega⟩, fun h => by rw [h.cop]; rfl⟩
        · exact ⟨false, by rw [if_pos h1, if_pos h2, if_pos h3, if_neg h4], fun h => (by cases h), fun h => absurd h.nle h4⟩
      · exact ⟨false, by rw [if_pos h1, if_pos h2, if_neg h3], fun h => (by cases h), fun h => absurd h.nge h3⟩
    · exact ⟨false, by rw [if_pos h1, if_neg h2], fun h => (by cases h), fun h => absurd h.dle h2⟩
  · exact ⟨false, by rw [if_neg h1], fun h => (by cases h), fun h => absurd h.pos h1⟩
theorem rvalid_tot (N D : Int) : ∃ k b, wireloomref02_Valid.f k N D = some b ∧ (b = true ↔ VF N D) := by
  by_cases h1 : D ≥ 1
  · by_cases h2 : D ≤ 4611686018427387904
    · by_cases h3 : N ≥ -4611686018427387904
      · by_cases h4 : N ≤ 4611686018427387904
        · obtain ⟨k, hk⟩ := gcdR_ok (a := (N.natAbs : Int)) (b := D) (by omega) (by omega)
          refine ⟨k, _, by
            unfold wireloomref02_Valid.f
            rw [if_pos h1, MostR, Option.bind_some, if_pos h2, Option.bind_some, w64 (by omega), if_pos h3, Option.bind_some, if_pos h4, sizeR_ok (by omega), Option.bind_some, hk]
            rfl, ?_⟩
          rw [beq_iff_eq, gcd_nat]
          exact ⟨fun h => ⟨h1, h2, h3, h4, by omega⟩, fun h => by rw [h.cop]; rfl⟩
        · exact ⟨0, false, by unfold wireloomref02_Valid.f; rw [if_pos h1, MostR, Option.bind_some, if_pos h2, Option.bind_some, w64 (by omega), if_pos h3, Option.bind_some, if_neg h4], fun h => (by cases h), fun h => absurd h.nle h4⟩
      · exact ⟨0, false, by unfold wireloomref02_Valid.f; rw [if_pos h1, MostR, Option.bind_some, if_pos h2, Option.bind_some, w64 (by omega), if_neg h3], fun h => (by cases h), fun h => absurd h.nge h3⟩
    · exact ⟨0, false, by unfold wireloomref02_Valid.f; rw [if_pos h1, MostR, Option.bind_some, if_neg h2], fun h => (by cases h), fun h => absurd h.dle h2⟩
  · exact ⟨0, false, by unfold wireloomref02_Valid.f; rw [if_neg h1], fun h => (by cases h), fun h => absurd h.pos h1⟩
/-- what a parser answers -/
def Ans (l : List UInt8) (R : Int × Int × Int) : Prop := (R.2.2 = 0 ∧ VF R.1 R.2.1 ∧ txL R.1 R.2.1 = l) ∨ R = (0, 0, 5)
theorem txB_eq {N D : Int} {l : List UInt8} (h : (txB N D).toList = (B l).toList) : txL N D = l := by
  have := toL_inj h
  have e := congrArg (fun b : ByteArray => b.data.toList) this
  simpa [txB] using e
theorem parseTo_tot (l : List UInt8) (n d : Int) : ∃ R, parseTo (B l) n d = some R ∧ Ans l R := by
  unfold parseTo
  obtain ⟨b, hb, hv⟩ := valid_tot n d
  rw [hb, Option.bind_some]
  cases b with
  | false => exact ⟨_, by rw [if_neg (by decide)], Or.inr rfl⟩
  | true =>
    have hv := hv.1 rfl
    rw [if_pos rfl, text_ok hv, Option.bind_some]
    by_cases ht : (txB n d).toList = (B l).toList
    · rw [if_pos (by simpa using ht)]
      exact ⟨_, rfl, Or.inl ⟨rfl, hv, txB_eq ht⟩⟩
    · rw [if_neg (by simpa using ht)]
      exact ⟨_, rfl, Or.inr rfl⟩
theorem parseTo_inv {N D : Int} (h : VF N D) : parseTo (B (txL N D)) N D = some (N, D, 0) := by
  unfold parseTo
  obtain ⟨b, hb, hv⟩ := valid_tot N D
  rw [hv.2 h] at hb
  have ht : ((txB N D).toList == (B (txL N D)).toList) = true := beq_self_eq_true _
  rw [hb, Option.bind_some, if_pos rfl, text_ok h, Option.bind_some, if_pos ht]
theorem ib_none : ∀ l : List UInt8, (∀ c ∈ l, c ≠ 47) → Lib.indexByte l 47 = -1 := by
  intro l
  induction l with
  | nil => intro _; rfl
  | cons c r ih =>
    intro h
    rw [Lib.indexByte, if_neg (by simpa using h c (by simp)), ih (fun c hc => h c (by simp [hc])), if_pos (by decide)]
theorem ib_some : ∀ (l r : List UInt8), (∀ c ∈ l, c ≠ 47) → Lib.indexByte (l ++ 47 :: r) 47 = l.length := by
  intro l
  induction l with
  | nil => intro r _; rw [List.nil_append, Lib.indexByte, if_pos (by decide)]; rfl
  | cons c l ih =>
    intro r h
    rw [List.cons_append, Lib.indexByte, if_neg (by simpa using h c (by simp)), ih r (fun c hc => h c (by simp [hc])), if_neg (by simp), List.length_cons]
    omega
theorem cut_none (l : List UInt8) (h : ∀ c ∈ l, c ≠ 47) : strings_Cut.f (B l) ⟨#[47]⟩ = some (B l, ⟨#[]⟩, false) := by
  unfold strings_Cut.f stringslite_Cut.f stringslite_Index.f
  rw [if_pos rfl, Option.bind_some, B_data, ib_none l h, if_neg (by decide), Option.bind_some]
theorem cut_some (l r : List UInt8) (h : ∀ c ∈ l, c ≠ 47) (hs : (l ++ 47 :: r).length ≤ 140737488355328) : strings_Cut.f (B (l ++ 47 :: r)) ⟨#[47]⟩ = some (B l, B r, true) := by
  have h1 : ((⟨#[47]⟩ : ByteArray).size : Int) = 1 := rfl
  have hl : (l ++ 47 :: r).length = l.length + (r.length + 1) := by simp
  unfold strings_Cut.f stringslite_Cut.f stringslite_Index.f
  rw [if_pos rfl, Option.bind_some, B_data, ib_some l r h, h1, B_size, hl, w64 (by omega), if_pos (by omega), if_pos (by omega), if_pos (by omega), if_pos (by omega), if_pos (by omega), Option.bind_some]
  have e1 : (B (l ++ 47 :: r)).extract 0 ((l.length : Int)).toNat = B l := by
    apply ByteArray.ext
    simp [B]
  have e2 : (B (l ++ 47 :: r)).extract (((l.length : Int) + 1)).toNat (l.length + (r.length + 1)) = B r := by
    apply ByteArray.ext
    rw [show ((l.length : Int) + 1).toNat = l.length + 1 by omega]
    simp [B]
    exact List.take_of_length_le (by omega)
  rw [e1, e2]
theorem parsed_of {s : ByteArray} {R : Int × Int × Int} (h : fraction_Parse.f s = some R) : wireloomlaw02_parsed.f s = some R := by
  unfold wireloomlaw02_parsed.f
  rw [h]
  rfl
theorem parse_tot (l : List UInt8) (hs : l.length ≤ 140737488355328) : ∃ R, wireloomlaw02_parsed.f (B l) = some R ∧ Ans l R := by
  by_cases h : (47 : UInt8) ∈ l
  · obtain ⟨p, r, e, hp⟩ := List.eq_append_cons_of_mem h
    have hl : l.length = p.length + (r.length + 1) := by rw [e]; simp
    have hc := cut_some p r (fun c hc h => hp (h ▸ hc)) (by rw [← e]; exact hs)
    rw [← e] at hc
    obtain ⟨R, hR, hA⟩ := parseTo_tot l (atoiV (B p).data.toList) (atoiV (B r).data.toList)
    refine ⟨R, parsed_of ?_, hA⟩
    unfold fraction_Parse.f
    rw [hc, Option.bind_some, if_pos ⟨by rw [B_size]; omega, by rw [B_size]; omega⟩]
    exact hR
  · have hc := cut_none l (fun c hc e => h (e ▸ hc))
    obtain ⟨R, hR, hA⟩ := parseTo_tot l (atoiV (B l).data.toList) 1
    refine ⟨R, parsed_of ?_, hA⟩
    unfold fraction_Parse.f
    rw [hc, Option.bind_some, if_pos ⟨by rw [B_size]; omega, by show (0 : Nat) ≤ 140737488355328; decide⟩]
    exact hR
theorem parse_inv {N D : Int} (h : VF N D) : wireloomlaw02_parsed.f (B (txL N D)) = some (N, D, 0) := by
  have hv := h
  have hlen := txL_len h
  obtain ⟨h1, h2, h3, h4, -⟩ := hv
  apply parsed_of
  have hR := parseTo_inv h
  unfold fraction_Parse.f
  by_cases hD : D = 1
  · subst hD
    have e : txL N 1 = Lib.itoa N := by unfold txL; rw [if_pos rfl]
    rw [e] at hR hlen ⊢
    rw [cut_none _ (itoa_no47 N), Option.bind_some, if_pos ⟨by rw [B_size]; omega, by show (0 : Nat) ≤ 140737488355328; decide⟩, B_data, atoi_itoa h3 h4]
    exact hR
  · have e : txL N D = Lib.itoa N ++ 47 :: Lib.itoa D := by unfold txL; rw [if_neg hD]
    rw [e] at hR hlen ⊢
    have hl : (Lib.itoa N ++ 47 :: Lib.itoa D).length = (Lib.itoa N).length + ((Lib.itoa D).length + 1) := by simp
    rw [cut_some _ _ (itoa_no47 N) (by omega), Option.bind_some, if_pos ⟨by rw [B_size]; omega, by rw [B_size]; omega⟩, B_data, B_data, atoi_itoa h3 h4, atoi_itoa (n := D) (by omega) h2]
    exact hR
end Go.Proofs.YtndfjpnpdnnpkaaDoor.F
