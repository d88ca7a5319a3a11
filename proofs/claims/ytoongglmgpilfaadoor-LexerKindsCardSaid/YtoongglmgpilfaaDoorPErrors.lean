import Derived.Test.YtoongglmgpilfaaDoorPLex
import Derived.Test.YtoongglmgpilfaaDoorLx12
namespace Go.Proofs.YtoongglmgpilfaaDoor.L
set_option linter.unusedVariables false
set_option linter.unusedSimpArgs false
open Go.RowKit Go.Proofs.YtoongglmgpilfaaDoorW.PrintWords Go.Proofs.YtoongglmgpilfaaDoorW.PrintLast Lx

theorem app_list (a b : ByteArray) : (a ++ b).data.toList = a.data.toList ++ b.data.toList := by
  rw [ByteArray.data_append, Array.toList_append]
theorem lexR_none {s : ByteArray} {z : List Tok × Option Nat} (h : z.2 = none) : lexR s 0 [] z = some (z.1.map conv ++ [endT s], 0, 0) := by
  unfold lexR; rw [h]; rfl
theorem lexR_some {s : ByteArray} {z : List Tok × Option Nat} {e : Nat} (h : z.2 = some e) : lexR s 0 [] z = some ([], (e : Int), 5) := by
  unfold lexR; rw [h]
theorem take0_list (s : ByteArray) (n : Nat) : (s.extract 0 n).data.toList = s.data.toList.take n := by
  rw [ext_list, List.drop_zero, Nat.sub_zero]
theorem errors_long (A : List S39) (e c : Int) (A' : List S39) (x5 : Bool) : ∀ (m : Nat) (acc : ByteArray), 8000 < acc.size + 85 * m → acc.size ≤ 9000 → ∀ k, m + 1 ≤ k → wireloomlaw08_LexerErrors.l0 k x5 acc A e c A' e c = some x5 := by
  intro m
  induction m with
  | zero =>
    intro acc h1 h2 k hk
    obtain ⟨k, rfl⟩ : ∃ j, k = j + 1 := ⟨k - 1, by omega⟩
    rw [wireloomlaw08_LexerErrors.l0, if_neg (by omega), if_pos rfl, if_pos rfl, lexed_big _ (by omega), Option.bind_some, if_pos rfl]
  | succ m ih =>
    intro acc h1 h2 k hk
    obtain ⟨k, rfl⟩ : ∃ j, k = j + 1 := ⟨k - 1, by omega⟩
    by_cases hs : acc.size ≤ 8000
    · rw [wireloomlaw08_LexerErrors.l0, if_pos (by omega), if_pos (by omega)]
      refine ih _ ?_ ?_ k (by omega)
      · rw [ByteArray.size_append]; show 8000 < acc.size + 85 + 85 * m; omega
      · rw [ByteArray.size_append]; show acc.size + 85 ≤ 9000; omega
    · rw [wireloomlaw08_LexerErrors.l0, if_neg (by omega), if_pos rfl, if_pos rfl, lexed_big _ (by omega), Option.bind_some, if_pos rfl]
theorem errors_pure : wireloomlaw08_LexerErrors.Pure := by
  intro l0 a1 _ _ hu _
  obtain ⟨t, ht, hm⟩ := made_ok hu
  refine ⟨2000, ?_⟩
  rw [wireloomlaw08_LexerErrors.f, examples_ok, Option.bind_some, if_pos rfl]
  by_cases h3 : (a1.size : Int) > 300
  · rw [decide_eq_true h3, wireloomlaw08_LexerErrors.j0, if_pos rfl]
  · rw [decide_eq_false h3, wireloomlaw08_LexerErrors.j0, if_neg (by decide), hm 1999 (by omega), Option.bind_some, lexed_ok t (by omega)]
    have hd := data_size t
    cases hz : (lex 0 t.data.toList).2 with
    | none =>
      rw [lexR_none hz, Option.bind_some, if_pos rfl, if_pos rfl]
    | some e =>
      obtain ⟨_, e1, e2, e3⟩ := lex_err _ 0 e hz
      rw [hd] at e1
      rw [Nat.sub_zero] at e2
      rw [lexR_some hz, Option.bind_some, if_neg (by show ¬ (5 : Int) = 0; decide), if_neg (by show ¬ (e : Int) < 0; omega), if_neg (by show ¬ (e : Int) ≥ (t.size : Int); omega), if_pos (by show (0 : Int) ≤ (e : Int); omega), if_pos (by show (e : Int) ≤ (t.size : Int); omega)]
      rw [show ((e : Int)).toNat = e by omega, lexed_ok _ (by simp only [ByteArray.size_extract]; omega), take0_list, lexR_none e2, Option.bind_some]
      rw [show (((0 : Int) != 0)) = false from rfl, wireloomlaw08_LexerErrors.j1, if_neg (by decide), if_pos (by omega), if_pos (by rw [ByteArray.size_append]; show t.size + 1 + a1.size ≤ _; omega)]
      have hl : ((t ++ (⟨#[32]⟩ : ByteArray)) ++ a1).data.toList = t.data.toList ++ 32 :: a1.data.toList := by
        rw [app_list, app_list, List.append_assoc]
        rfl
      rw [lexed_ok _ (by rw [ByteArray.size_append, ByteArray.size_append]; show t.size + 1 + a1.size ≤ _; omega), hl, lexR_some (e3 32 _ (Or.inl rfl)), Option.bind_some]
      exact errors_long _ _ _ _ true 95 _ (by decide) (by decide) _ (by decide)
end Go.Proofs.YtoongglmgpilfaaDoor.L
