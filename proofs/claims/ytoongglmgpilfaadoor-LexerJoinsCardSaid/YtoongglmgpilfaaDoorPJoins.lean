import Derived.Test.YtoongglmgpilfaaDoorPMore
import Derived.Test.YtoongglmgpilfaaDoorLx10
namespace Go.Proofs.YtoongglmgpilfaaDoor.L
set_option linter.unusedVariables false
set_option linter.unusedSimpArgs false
open Go.RowKit Go.Proofs.YtoongglmgpilfaaDoorW.PrintWords Go.Proofs.YtoongglmgpilfaaDoorW.PrintLast Lx

theorem joined_eq : ∀ ts : List Tok, joined ts = Lib.join (ts.map Tok.text) [32]
  | [] => rfl
  | [t] => by rw [joined]; simp [Lib.join, List.intercalate]
  | t :: u :: r => by
    rw [joined, joined_eq (u :: r)]
    unfold Lib.join
    simp [List.intercalate]
theorem joined_len (a : Tok) (r : List Tok) : (joined (a :: r)).length ≤ a.text.length + 1 + (joined r).length := by
  cases r with
  | nil => show a.text.length ≤ a.text.length + 1 + 0; omega
  | cons b r => rw [joined]; simp only [List.length_append, List.length_cons]; omega
theorem lex_join_len : ∀ l : List UInt8, ∀ at_, (joined (lex at_ l).1).length ≤ 2 * l.length := by
  refine lex_induct ?_ ?_ ?_ ?_
  · intro at_; rw [lex_nil, joined]; exact Nat.zero_le _
  · intro l n hl hs h1 h2 ih at_
    rw [lex_skip at_ hs]
    have := ih (at_ + n)
    rw [List.length_drop] at this; omega
  · intro l k n hl hs h1 h2 ih at_
    rw [lex_tok at_ hs]
    have := ih (at_ + n)
    have h := joined_len ⟨k, l.take n, at_⟩ (lex (at_ + n) (l.drop n)).1
    have h3 : (l.take n).length = n := by rw [List.length_take]; omega
    rw [List.length_drop] at this
    have h' : (joined (⟨k, l.take n, at_⟩ :: (lex (at_ + n) (l.drop n)).1)).length ≤ (l.take n).length + 1 + (joined (lex (at_ + n) (l.drop n)).1).length := h
    simp only [] at h' ⊢
    omega
  · intro l hl hs at_
    rw [lex_bad at_ hl hs, joined]
    exact Nat.zero_le _

/-- the texts of tokens, joined -/
def jo (ts : List Tok) : ByteArray := ⟨(joined ts).toArray⟩
theorem jo_eq (ts : List Tok) : joinB (ts.map fun t => (conv t).f1) ⟨#[32]⟩ = jo ts := by
  unfold joinB jo
  rw [joined_eq, List.map_map]
  rfl
theorem join_loop (ts : List Tok) (hts : ∀ t ∈ ts, Alone t) (hl : ts.length ≤ 4000) (hj : (joined ts).length ≤ 8000) (s : ByteArray) : ∀ (m i : Nat), i + m = ts.length → ∀ k, m + 2 ≤ k →
    lexer_Join.l0 k ((ts.take i).map fun t => (conv t).f1) (ts.map conv ++ [endT s]) ((ts.map conv ++ [endT s]).length : Int) i = some (jo ts) := by
  intro m
  have hlen : (ts.map conv ++ [endT s]).length = ts.length + 1 := by simp
  induction m with
  | zero =>
    intro i hi k hk
    obtain ⟨k, rfl⟩ : ∃ j, k = j + 1 + 1 := ⟨k - 2, by omega⟩
    have hi' : i = ts.length := by omega
    subst hi'
    have hrd : rd_T39 (ts.map conv ++ [endT s]) ts.length = endT s := by
      unfold rd_T39
      rw [List.getD_eq_getElem?_getD, Int.toNat_natCast, List.getElem?_append_right (by rw [List.length_map]; exact Nat.le_refl _), List.length_map, Nat.sub_self]
      rfl
    have hw : wrap64 ((ts.length : Int) + 1) = ((ts.length + 1 : Nat) : Int) := by rw [w64 (by omega)]; omega
    rw [lexer_Join.l0, hrd, if_pos (by rw [hlen]; omega), if_pos (by omega), if_pos (by rw [hlen]; omega), if_pos (show (endT s).f0 = 4 from rfl), hw, lexer_Join.l0, if_neg (by rw [hlen]; omega), List.take_length]
    unfold strings_Join.f
    rw [jo_eq, if_pos ⟨by rw [List.length_map]; omega, by show (joined ts).toArray.size ≤ _; rw [List.size_toArray]; omega⟩]
    rfl
  | succ m ih =>
    intro i hi k hk
    obtain ⟨k, rfl⟩ : ∃ j, k = j + 1 := ⟨k - 1, by omega⟩
    have hlt : i < ts.length := by omega
    have hw : wrap64 ((i : Int) + 1) = ((i + 1 : Nat) : Int) := by rw [w64 (by omega)]; omega
    have hrd : rd_T39 (ts.map conv ++ [endT s]) i = conv ts[i] := by
      unfold rd_T39
      rw [List.getD_eq_getElem?_getD, Int.toNat_natCast, List.getElem?_append_left (by rw [List.length_map]; exact hlt), List.getElem?_map, List.getElem?_eq_getElem hlt]
      rfl
    have ha := alone_kind (hts ts[i] (List.getElem_mem hlt))
    have h4 : ¬ (conv ts[i]).f0 = 4 := by show ¬ ts[i].kind = 4; omega
    have ihn := ih (i + 1) (by omega) k (by omega)
    rw [List.take_add_one, List.getElem?_eq_getElem hlt, List.map_append] at ihn
    rw [lexer_Join.l0, hrd, if_pos (by rw [hlen]; omega), if_pos (by omega), if_pos (by rw [hlen]; omega), if_neg h4, hw, if_pos (by rw [List.length_map, List.length_take]; omega)]
    exact ihn
theorem Join_ok (ts : List Tok) (hts : ∀ t ∈ ts, Alone t) (hl : ts.length ≤ 4000) (hj : (joined ts).length ≤ 8000) (s : ByteArray) (k : Nat) (hk : 4002 ≤ k) : lexer_Join.f k (ts.map conv ++ [endT s]) = some (jo ts) := by
  have := join_loop ts hts hl hj s ts.length 0 (by omega) k (by omega)
  exact this
theorem joins_loop (x5 : Bool) (L L' : List S39) (hL : L.length ≤ 9000) (h : L.map (fun t => (t.f0, t.f1)) = L'.map (fun t => (t.f0, t.f1))) : ∀ (m i : Nat), i + m = L.length → ∀ k, m + 1 ≤ k →
    wireloomlaw08_LexerJoins.l0 k x5 i L 0 0 L' 0 0 = some x5 := by
  have hll : L.length = L'.length := by simpa using congrArg List.length h
  intro m
  induction m with
  | zero =>
    intro i hi k hk
    obtain ⟨k, rfl⟩ : ∃ j, k = j + 1 := ⟨k - 1, by omega⟩
    rw [wireloomlaw08_LexerJoins.l0, if_neg (by omega)]
  | succ m ih =>
    intro i hi k hk
    obtain ⟨k, rfl⟩ : ∃ j, k = j + 1 := ⟨k - 1, by omega⟩
    have hw : wrap64 ((i : Int) + 1) = ((i + 1 : Nat) : Int) := by rw [w64 (by omega)]; omega
    have h1 : i < L.length := by omega
    have h2 : i < L'.length := by omega
    have hr1 : rd_T39 L i = L[i] := by
      unfold rd_T39
      rw [List.getD_eq_getElem?_getD, Int.toNat_natCast, List.getElem?_eq_getElem h1]
      rfl
    have hr2 : rd_T39 L' i = L'[i] := by
      unfold rd_T39
      rw [List.getD_eq_getElem?_getD, Int.toNat_natCast, List.getElem?_eq_getElem h2]
      rfl
    have he : (L[i].f0, L[i].f1) = (L'[i].f0, L'[i].f1) := by
      have := congrArg (fun l => l[i]?) h
      simp only [List.getElem?_map, List.getElem?_eq_getElem h1, List.getElem?_eq_getElem h2, Option.map_some, Option.some.injEq] at this
      exact this
    injection he with he1 he2
    rw [wireloomlaw08_LexerJoins.l0, if_pos (by omega), if_pos (by omega), if_pos (by omega), hr1, hr2, if_pos he1, if_pos (by rw [he2]), hw]
    exact ih (i + 1) (by omega) k (by omega)
theorem joins_pure : wireloomlaw08_LexerJoins.Pure := by
  intro l0 a1 _ _ hu _
  obtain ⟨t, ht, hm⟩ := made_ok hu
  refine ⟨20000, ?_⟩
  rw [wireloomlaw08_LexerJoins.f, examples_ok2, Option.bind_some, if_pos rfl]
  by_cases h3 : (a1.size : Int) > 300
  · rw [decide_eq_true h3, wireloomlaw08_LexerJoins.j0, if_pos rfl]
  · have hs0 : (t ++ a1).size ≤ 900 := by rw [ByteArray.size_append]; omega
    rw [decide_eq_false h3, wireloomlaw08_LexerJoins.j0, if_neg (by decide), hm 19999 (by omega), Option.bind_some, if_pos (by omega), lexed_ok _ (by omega)]
    have hd := data_size (t ++ a1)
    cases hz : (lex 0 (t ++ a1).data.toList).2 with
    | some e => rw [lexR_some hz, Option.bind_some, if_neg (by show ¬ (5 : Int) = 0; decide)]
    | none =>
      have hal := lex_alone (t ++ a1).data.toList 0
      have hct := lex_count (t ++ a1).data.toList 0
      have hjl := lex_join_len (t ++ a1).data.toList 0
      rw [lexR_none hz, Option.bind_some, if_pos rfl]
      generalize (lex 0 (t ++ a1).data.toList).1 = ts at hal hct hjl
      rw [Join_ok ts hal (by omega) (by omega) _ 19999 (by omega), Option.bind_some]
      obtain ⟨g1, g2⟩ := lex_joined ts hal 0
      have hjs : (jo ts).size = (joined ts).length := by show (joined ts).toArray.size = _; rw [List.size_toArray]
      have hjd : (jo ts).data.toList = joined ts := rfl
      rw [lexed_ok _ (by omega), hjd, lexR_none g1, Option.bind_some, if_pos rfl]
      have hal' := lex_alone (joined ts) 0
      generalize (lex 0 (joined ts)).1 = ts' at g2 hal'
      have hlen : ts'.length = ts.length := by simpa using congrArg List.length g2
      have htx : ts'.map (fun t => (conv t).f1) = ts.map (fun t => (conv t).f1) := by
        have := congrArg (List.map (fun x : Int × List UInt8 => (⟨x.2.toArray⟩ : ByteArray))) g2
        simpa [List.map_map, Function.comp_def, conv] using this
      have hjo : jo ts' = jo ts := by rw [← jo_eq, htx, jo_eq]
      have hjl' : (joined ts').length ≤ 8000 := by
        have : (jo ts').size = (joined ts').length := by show (joined ts').toArray.size = _; rw [List.size_toArray]
        rw [← this, hjo, hjs]; omega
      rw [if_pos (by simp [hlen]), Join_ok ts' hal' (by omega) hjl' _ 19999 (by omega), Option.bind_some, hjo]
      rw [show ((jo ts).toList != (jo ts).toList) = false by simp, wireloomlaw08_LexerJoins.j1, if_neg (by decide)]
      refine joins_loop true _ _ (by simp; omega) ?_ (ts.length + 1) 0 (by simp) 19998 (by omega)
      simp only [List.map_append, List.map_cons, List.map_nil, List.map_map]
      have hc : ((fun t : S39 => (t.f0, t.f1)) ∘ conv) = (fun x : Int × List UInt8 => (x.1, (⟨x.2.toArray⟩ : ByteArray))) ∘ (fun t : Tok => (t.kind, t.text)) := rfl
      rw [hc, ← List.map_map, ← List.map_map, g2]
      rfl
end Go.Proofs.YtoongglmgpilfaaDoor.L
