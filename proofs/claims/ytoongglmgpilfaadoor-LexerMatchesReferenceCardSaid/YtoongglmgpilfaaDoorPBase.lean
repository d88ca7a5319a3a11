import Derived.Test.YtoongglmgpilfaaDoorLx4
import Derived.Test.YtoongglmgpilfaaDoorLx2
import Derived.Test.YtoongglmgpilfaaDoorLx3
import Derived.IntWalk
namespace Go.Proofs.YtoongglmgpilfaaDoor.L
set_option linter.unusedVariables false
set_option linter.unusedSimpArgs false
open Go.RowKit Go.Proofs.YtoongglmgpilfaaDoorW.PrintWords Go.Proofs.YtoongglmgpilfaaDoorW.PrintLast

theorem w64 {n : Int} (h : -9223372036854775808 ≤ n ∧ n ≤ 9223372036854775807) : wrap64 n = n := by unfold wrap64; omega

/-- the pieces -/
def pcs : List ByteArray := (wireloomref08_pieces.f).getD []
theorem pcs_eq : wireloomref08_pieces.f = some pcs := rfl
theorem pcs_length : pcs.length = 50 := by decide
theorem pcs_size : ∀ x ∈ pcs, x.size ≤ 9 := by decide
def pc (q : Int) : ByteArray := rdOf ByteArray.empty pcs q
theorem pc_size (q : Int) : (pc q).size ≤ 9 := by
  unfold pc rdOf
  rw [List.getD_eq_getElem?_getD]
  cases h : pcs[q.toNat]? with
  | none => exact Nat.zero_le _
  | some x => exact pcs_size x (List.mem_of_getElem? h)
theorem rd_u8 {l : List Int} (hu : ∀ x ∈ l, (Lit.int .u8 x).wf = true) (i : Int) : 0 ≤ rd l i ∧ rd l i ≤ 255 := by
  unfold rd
  rw [List.getD_eq_getElem?_getD]
  cases h : l[i.toNat]? with
  | none => exact ⟨Int.le_refl _, by decide⟩
  | some x =>
    have := hu x (List.mem_of_getElem? h)
    have e1 : IntKind.u8.min = 0 := rfl
    have e2 : IntKind.u8.max = 255 := rfl
    simpa [Lit.wf, e1, e2] using this
theorem tmod_range {a : Int} (h : 0 ≤ a) (n : Int) (hn : 0 < n) : 0 ≤ Int.tmod a n ∧ Int.tmod a n < n := by
  rw [Int.tmod_eq_emod_of_nonneg h]
  exact ⟨Int.emod_nonneg _ (by omega), Int.emod_lt_of_pos _ hn⟩

theorem made_j {l0 : List Int} (hu : ∀ x ∈ l0, (Lit.int .u8 x).wf = true) (i : Nat) (hi : (i : Int) < l0.length) (acc : ByteArray) (ha : acc.size ≤ 1000) :
    ∃ acc' : ByteArray, acc'.size ≤ acc.size + 10 ∧ ∀ k, wireloomref08_Made.j1 (k + 1) l0 pcs acc i true = wireloomref08_Made.l0 k l0 pcs acc' (wrap64 (i + 1)) := by
  obtain ⟨h0, h1⟩ := rd_u8 hu i
  have e0 : wrap64 (rd l0 i) = rd l0 i := w64 (by omega)
  have hp : (pcs.length : Int) = 50 := by rw [pcs_length]; rfl
  obtain ⟨t0, t1⟩ := tmod_range h0 10 (by decide)
  obtain ⟨t2, t3⟩ := tmod_range h0 40 (by decide)
  have e1 : wrap64 (40 + Int.tmod (rd l0 i) 10) = 40 + Int.tmod (rd l0 i) 10 := w64 (by omega)
  by_cases hc : rd l0 i ≥ 240
  · have hs := pc_size (40 + Int.tmod (rd l0 i) 10)
    by_cases hm : Int.tmod (rd l0 i) 3 > 0
    · refine ⟨(acc ++ pc (40 + Int.tmod (rd l0 i) 10)) ++ ⟨#[32]⟩, by simp only [ByteArray.size_append]; show acc.size + _ + 1 ≤ _; omega, fun k => ?_⟩
      simp only [wireloomref08_Made.j1, e0, e1, hp]
      rw [if_pos (by trivial), if_pos (by omega), if_pos hi, if_pos hc, if_pos (by omega), if_pos (by omega), if_pos (by change acc.size + (pc _).size ≤ _; omega), if_pos hm, if_pos (by simp only [ByteArray.size_append]; change acc.size + (pc _).size + 1 ≤ _; omega)]
      rfl
    · refine ⟨(acc ++ pc (40 + Int.tmod (rd l0 i) 10)), by simp only [ByteArray.size_append]; omega, fun k => ?_⟩
      simp only [wireloomref08_Made.j1, e0, e1, hp]
      rw [if_pos (by trivial), if_pos (by omega), if_pos hi, if_pos hc, if_pos (by omega), if_pos (by omega), if_pos (by change acc.size + (pc _).size ≤ _; omega), if_neg hm]
      rfl
  · have hs := pc_size (Int.tmod (rd l0 i) 40)
    by_cases hm : Int.tmod (rd l0 i) 3 > 0
    · refine ⟨(acc ++ pc (Int.tmod (rd l0 i) 40)) ++ ⟨#[32]⟩, by simp only [ByteArray.size_append]; show acc.size + _ + 1 ≤ _; omega, fun k => ?_⟩
      simp only [wireloomref08_Made.j1, e0, e1, hp]
      rw [if_pos (by trivial), if_pos (by omega), if_pos hi, if_neg hc, if_pos (by omega), if_pos (by omega), if_pos (by change acc.size + (pc _).size ≤ _; omega), if_pos hm, if_pos (by simp only [ByteArray.size_append]; change acc.size + (pc _).size + 1 ≤ _; omega)]
      rfl
    · refine ⟨(acc ++ pc (Int.tmod (rd l0 i) 40)), by simp only [ByteArray.size_append]; omega, fun k => ?_⟩
      simp only [wireloomref08_Made.j1, e0, e1, hp]
      rw [if_pos (by trivial), if_pos (by omega), if_pos hi, if_neg hc, if_pos (by omega), if_pos (by omega), if_pos (by change acc.size + (pc _).size ≤ _; omega), if_neg hm]
      rfl
theorem made_run {l0 : List Int} (hu : ∀ x ∈ l0, (Lit.int .u8 x).wf = true) : ∀ (n i : Nat) (acc : ByteArray), i + n = 60 → acc.size ≤ 10 * i → ∃ s : ByteArray, s.size ≤ 600 ∧ ∀ k, 2 * n + 2 ≤ k → wireloomref08_Made.l0 k l0 pcs acc i = some s := by
  intro n
  induction n with
  | zero =>
    intro i acc hi ha
    refine ⟨acc, by omega, fun k hk => ?_⟩
    obtain ⟨k, rfl⟩ : ∃ j, k = j + 1 + 1 := ⟨k - 2, by omega⟩
    have hd : decide ((i : Int) < 60) = false := decide_eq_false (by omega)
    rw [wireloomref08_Made.l0, hd, ite_self, wireloomref08_Made.j1, if_neg (by simp)]
  | succ n ih =>
    intro i acc hi ha
    have hd : decide ((i : Int) < 60) = true := decide_eq_true (by omega)
    have hw : wrap64 ((i : Int) + 1) = ((i + 1 : Nat) : Int) := by rw [w64 (by omega)]; omega
    by_cases hl : (i : Int) < l0.length
    · obtain ⟨acc', h1, h2⟩ := made_j hu i hl acc (by omega)
      obtain ⟨s, hs, hk⟩ := ih (i + 1) acc' (by omega) (by omega)
      refine ⟨s, hs, fun k hk' => ?_⟩
      obtain ⟨k, rfl⟩ : ∃ j, k = j + 1 + 1 := ⟨k - 2, by omega⟩
      rw [wireloomref08_Made.l0, if_pos hl, hd, h2, hw]
      exact hk k (by omega)
    · refine ⟨acc, by omega, fun k hk => ?_⟩
      obtain ⟨k, rfl⟩ : ∃ j, k = j + 1 + 1 := ⟨k - 2, by omega⟩
      rw [wireloomref08_Made.l0, if_neg hl, wireloomref08_Made.j1]
      simp
theorem made_ok {l0 : List Int} (hu : ∀ x ∈ l0, (Lit.int .u8 x).wf = true) : ∃ s : ByteArray, s.size ≤ 600 ∧ ∀ k, 122 ≤ k → wireloomref08_Made.f k l0 = some s := by
  obtain ⟨s, h1, h2⟩ := made_run hu 60 0 ⟨#[]⟩ rfl (Nat.zero_le _)
  exact ⟨s, h1, fun k hk => by rw [wireloomref08_Made.f, pcs_eq]; exact h2 k hk⟩

/-- what 'lined' answers -/
def lnOf (s : ByteArray) (a : Int) : Int × Int := (wrap64 (1 + Lib.countByte (s.extract 0 a.toNat).data.toList 10), wrap64 (a - Lib.lastIndexByte (s.extract 0 a.toNat) 10))
theorem lined_ok (s : ByteArray) (hs : s.size < 4611686018427387904) (a : Int) (k : Nat) (hk : 1 ≤ k) :
    wireloomlaw08_lined.f k s a = some (if a < 0 ∨ (s.size : Int) < a then (0, 0) else lnOf s a) := by
  obtain ⟨k, rfl⟩ : ∃ j, k = j + 1 := ⟨k - 1, by omega⟩
  unfold wireloomlaw08_lined.f lexer_Line.f
  by_cases h0 : a < 0
  · rw [if_pos h0, if_pos (Or.inl h0)]
    simp [lexer_Line.j0]
  · rw [if_neg h0]
    by_cases h1 : (s.size : Int) < a
    · rw [if_pos (Or.inr h1)]
      simp [lexer_Line.j0, h1]
    · rw [if_neg (by omega)]
      have hd : decide (a > (s.size : Int)) = false := decide_eq_false (by omega)
      rw [hd, lexer_Line.j0, if_neg (by simp), if_pos (by omega), if_pos (by omega)]
      unfold strings_Count.f strings_LastIndexByte.f
      rw [if_pos rfl, if_pos (by simp only [ByteArray.size_extract]; omega)]
      rfl
theorem examples_ok : wireloomlaw08_examples.f 2000 = some true := by kernel_rfl
theorem examples_ok2 : wireloomlaw08_examples.f 20000 = some true := by kernel_rfl
end Go.Proofs.YtoongglmgpilfaaDoor.L
