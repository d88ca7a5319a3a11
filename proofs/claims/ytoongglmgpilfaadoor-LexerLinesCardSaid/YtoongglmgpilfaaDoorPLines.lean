import Derived.Test.YtoongglmgpilfaaDoorPBase
import Derived.Test.YtoongglmgpilfaaDoorLx13
namespace Go.Proofs.YtoongglmgpilfaaDoor.L
set_option linter.unusedVariables false
set_option linter.unusedSimpArgs false
open Go.RowKit Go.Proofs.YtoongglmgpilfaaDoorW.PrintWords Go.Proofs.YtoongglmgpilfaaDoorW.PrintLast

theorem ext0_list (s : ByteArray) (n : Nat) : (s.extract 0 n).data.toList = s.data.toList.take n := by
  rw [ByteArray.data_extract, Array.toList_extract]
  simp
theorem count_step (s : ByteArray) (n : Nat) (h : n < s.size) :
    (Lib.countByte (s.extract 0 (n + 1)).data.toList 10 : Int) = Lib.countByte (s.extract 0 n).data.toList 10 + (if bt s n = 10 then 1 else 0) := by
  rw [ext0_list, ext0_list, List.take_add_one]
  unfold Lib.countByte
  rw [List.count_append, bt_get s n h]
  have hl : n < s.data.toList.length := by rw [data_size]; exact h
  rw [List.getElem?_eq_getElem hl]
  generalize s.data.toList[n] = b
  have hb : ((b.toNat : Int) = 10) ↔ b = 10 := by
    constructor
    · intro e
      apply UInt8.toNat_inj.1
      show b.toNat = 10
      omega
    · rintro rfl
      rfl
  by_cases e : b = 10
  · rw [if_pos (hb.2 e)]
    subst e
    simp
  · rw [if_neg (fun x => e (hb.1 x))]
    simp [List.count_cons, e]
theorem count_le (s : ByteArray) (n : Nat) (h : n ≤ s.size) : Lib.countByte (s.extract 0 n).data.toList 10 ≤ n := by
  rw [ext0_list]
  unfold Lib.countByte
  refine Nat.le_trans (List.count_le_length) ?_
  rw [List.length_take]
  exact Nat.min_le_left _ _
theorem lastIdx_congr (s t : ByteArray) (c : Int) (k : Nat) (h : ∀ j, j < k → s.data[j]! = t.data[j]!) : Lib.lastIdx s c k = Lib.lastIdx t c k := by
  induction k with
  | zero => rfl
  | succ k ih =>
    unfold Lib.lastIdx
    rw [h k (by omega), ih (fun j hj => h j (by omega))]
theorem lastIdx_lt (s : ByteArray) (c : Int) (k : Nat) : -1 ≤ Lib.lastIdx s c k ∧ Lib.lastIdx s c k < k := by
  rcases Lib.lastIdx_spec s c k with ⟨e, _⟩ | ⟨i, hi, e, _⟩ <;> omega
theorem ext0_get (s : ByteArray) (n j : Nat) (hj : j < n) (hn : n ≤ s.size) : (s.extract 0 n).data[j]! = s.data[j]! := by
  rw [ByteArray.data_extract, getElem!_def, getElem!_def, Array.getElem?_extract]
  have : n ≤ s.data.size := hn
  rw [if_pos (show j < min n s.data.size - 0 by omega), Nat.zero_add]
theorem last_eq (s : ByteArray) (n : Nat) (hn : n ≤ s.size) : Lib.lastIndexByte (s.extract 0 n) 10 = Lib.lastIdx s 10 n := by
  unfold Lib.lastIndexByte
  rw [show (s.extract 0 n).size = n by simp only [ByteArray.size_extract]; omega]
  exact lastIdx_congr _ _ _ _ (fun j hj => ext0_get s n j hj hn)
theorem last_step (s : ByteArray) (n : Nat) (h : n < s.size) :
    Lib.lastIndexByte (s.extract 0 (n + 1)) 10 = if bt s n = 10 then (n : Int) else Lib.lastIndexByte (s.extract 0 n) 10 := by
  rw [last_eq s (n + 1) (by omega), last_eq s n (by omega), Lib.lastIdx]
  have : ((s.data[n]!).toNat : Int) = bt s n := by
    rw [bt_get s n h]
    have hl : n < s.data.size := h
    rw [getElem!_def, Array.getElem?_eq_getElem hl]
    simp
  rw [this]

theorem ln_eq (s : ByteArray) (n : Nat) (hn : n ≤ s.size) (hs : s.size ≤ 600) : lnOf s n = (1 + (Lib.countByte (s.extract 0 n).data.toList 10 : Int), n - Lib.lastIndexByte (s.extract 0 n) 10) := by
  have h1 := count_le s n hn
  have h2 := lastIdx_lt s 10 n
  rw [← last_eq s n hn] at h2
  unfold lnOf
  rw [Int.toNat_natCast, w64 (by omega), w64 (by omega)]
theorem ln_step (s : ByteArray) (n : Nat) (hn : n < s.size) (hs : s.size ≤ 600) : lnOf s ((n + 1 : Nat) : Int) = if bt s n = 10 then ((lnOf s n).1 + 1, 1) else ((lnOf s n).1, (lnOf s n).2 + 1) := by
  rw [ln_eq s (n + 1) (by omega) hs, ln_eq s n (by omega) hs, count_step s n hn, last_step s n hn]
  by_cases e : bt s n = 10
  · rw [if_pos e, if_pos e, if_pos e]
    exact Prod.ext (by show (1 : Int) + (_ + 1) = _ + 1; omega) (by show ((n + 1 : Nat) : Int) - n = 1; omega)
  · rw [if_neg e, if_neg e, if_neg e]
    exact Prod.ext (by show (1 : Int) + (_ + 0) = _; omega) (by show ((n + 1 : Nat) : Int) - _ = _; omega)
theorem lines_loop (s : ByteArray) (t : Bool) (hs : s.size ≤ 600) : ∀ (m n : Nat), n + m = s.size → ∀ k, m + 2 ≤ k → wireloomlaw08_LexerLines.l0 k t s n (lnOf s n).1 (lnOf s n).2 = some t := by
  intro m
  induction m with
  | zero =>
    intro n hn k hk
    obtain ⟨k, rfl⟩ : ∃ j, k = j + 1 := ⟨k - 1, by omega⟩
    rw [wireloomlaw08_LexerLines.l0, if_neg (by omega)]
  | succ m ih =>
    intro n hn k hk
    obtain ⟨k, rfl⟩ : ∃ j, k = j + 1 := ⟨k - 1, by omega⟩
    have hw : wrap64 ((n : Int) + 1) = ((n + 1 : Nat) : Int) := by rw [w64 (by omega)]; omega
    have hb1 := count_le s n (by omega)
    have hb2 := lastIdx_lt s 10 n
    rw [← last_eq s n (by omega)] at hb2
    have he := ln_eq s n (by omega) hs
    have hw1 : wrap64 ((lnOf s n).1 + 1) = (lnOf s n).1 + 1 := w64 (by rw [he]; show _ ≤ (1 + _ : Int) + 1 ∧ (1 + _ : Int) + 1 ≤ _; omega)
    have hw2 : wrap64 ((lnOf s n).2 + 1) = (lnOf s n).2 + 1 := w64 (by rw [he]; show _ ≤ ((n : Int) - _) + 1 ∧ ((n : Int) - _) + 1 ≤ _; omega)
    have hst := ln_step s n (by omega) hs
    have ihn := ih (n + 1) (by omega) k (by omega)
    rw [wireloomlaw08_LexerLines.l0, if_pos (by omega), hw, lined_ok s (by omega) _ k (by omega), if_neg (by omega), Option.bind_some, if_pos (by omega), hw1, hw2]
    by_cases e : bt s n = 10
    · rw [if_pos e] at hst
      rw [if_pos e, if_pos (by rw [hst]), if_pos (by rw [hst])]
      exact ihn
    · rw [if_neg e] at hst
      rw [if_neg e, if_pos (by rw [hst]), if_pos (by rw [hst])]
      exact ihn

theorem lines_pure : wireloomlaw08_LexerLines.Pure := by
  intro l0 a1 _ _ hu _
  obtain ⟨s, hs, hm⟩ := made_ok hu
  refine ⟨2000, ?_⟩
  rw [wireloomlaw08_LexerLines.f, examples_ok, Option.bind_some, if_pos rfl, hm 2000 (by omega), Option.bind_some]
  have h0 : lnOf s ((0 : Nat) : Int) = (1, 1) := by
    rw [ln_eq s 0 (by omega) hs]
    have h1 := count_le s 0 (by omega)
    have h2 := lastIdx_lt s 10 0
    rw [← last_eq s 0 (by omega)] at h2
    exact Prod.ext (by show (1 : Int) + _ = 1; omega) (by show ((0 : Nat) : Int) - _ = 1; omega)
  have hj : wireloomlaw08_LexerLines.j0 2000 true s false = some true := by
    rw [wireloomlaw08_LexerLines.j0, if_neg (by simp), lined_ok s (by omega) 0 1999 (by omega), if_neg (by omega), Option.bind_some]
    have h0' : lnOf s 0 = (1, 1) := h0
    rw [h0', if_pos rfl, wireloomlaw08_LexerLines.j1, if_neg (by simp)]
    have := lines_loop s true hs s.size 0 (by omega) 1998 (by omega)
    rw [h0] at this
    exact this
  by_cases hc : a1 < 0
  · rw [if_pos hc, lined_ok s (by omega) a1 2000 (by omega), if_pos (Or.inl hc), Option.bind_some]
    exact hj
  · rw [if_neg hc, lined_ok s (by omega) a1 2000 (by omega)]
    by_cases hg : (s.size : Int) < a1
    · rw [if_pos (Or.inr hg), Option.bind_some, show decide (a1 > (s.size : Int)) = true from decide_eq_true (by omega)]
      exact hj
    · rw [if_neg (by omega), Option.bind_some, show decide (a1 > (s.size : Int)) = false from decide_eq_false (by omega)]
      obtain ⟨n, rfl⟩ : ∃ n : Nat, a1 = n := ⟨a1.toNat, by omega⟩
      have hz : ((lnOf s n).1 == 0) = false := by
        rw [ln_eq s n (by omega) hs]
        simp only [beq_eq_false_iff_ne]
        omega
      rw [hz]
      exact hj
end Go.Proofs.YtoongglmgpilfaaDoor.L
