import Derived.Test.YtoongglmgpilfaaDoorPMore
import Derived.Test.YtoongglmgpilfaaDoorLcc
namespace Go.Proofs.YtoongglmgpilfaaDoor.L
set_option linter.unusedVariables false
set_option linter.unusedSimpArgs false
open Go.RowKit Go.Proofs.YtoongglmgpilfaaDoorW.PrintWords Go.Proofs.YtoongglmgpilfaaDoorW.PrintLast Lx

/-- Behind a file without an error, and a line feed, another file lexes as if it stood alone. -/
theorem lex_cat : ∀ l : List UInt8, ∀ at_ m, (lex at_ l).2 = none → lex at_ (l ++ 10 :: m) = ((lex at_ l).1 ++ (lex (at_ + l.length + 1) m).1, (lex (at_ + l.length + 1) m).2) := by
  refine lex_induct ?_ ?_ ?_ ?_
  · intro at_ m _
    rw [List.nil_append, lex_white (Or.inr rfl), lex_nil]
    rfl
  · intro l n hl hs h1 h2 ih at_ m h
    rw [lex_skip at_ hs] at h
    rcases step_ext (m := m) (Or.inr rfl) hl with hx | ⟨hx, _⟩
    · rw [lex_skip at_ (hx.trans hs), lex_skip at_ hs, List.drop_append_of_le_length h2, ih (at_ + n) m h, List.length_drop, show at_ + n + (l.length - n) + 1 = at_ + l.length + 1 by omega]
    · exact absurd hx (by decide)
  · intro l k n hl hs h1 h2 ih at_ m h
    rw [lex_tok at_ hs] at h
    rcases step_ext (m := m) (Or.inr rfl) hl with hx | ⟨hx, _⟩
    · rw [lex_tok at_ (hx.trans hs), lex_tok at_ hs, List.drop_append_of_le_length h2, ih (at_ + n) m h, List.length_drop, show at_ + n + (l.length - n) + 1 = at_ + l.length + 1 by omega, List.take_append_of_le_length h2]
      rfl
    · exact absurd hx (by decide)
  · intro l hl hs at_ m h
    rw [lex_bad at_ hl hs] at h
    cases h
def shift (d : Nat) (t : Tok) : Tok := ⟨t.kind, t.text, t.off + d⟩
theorem lex_shift (d : Nat) : ∀ l : List UInt8, ∀ at_, lex (at_ + d) l = ((lex at_ l).1.map (shift d), (lex at_ l).2.map (· + d)) := by
  refine lex_induct ?_ ?_ ?_ ?_
  · intro at_; rw [lex_nil, lex_nil]; rfl
  · intro l n hl hs h1 h2 ih at_
    rw [lex_skip _ hs, lex_skip _ hs, show at_ + d + n = at_ + n + d by omega, ih]
  · intro l k n hl hs h1 h2 ih at_
    rw [lex_tok _ hs, lex_tok _ hs, show at_ + d + n = at_ + n + d by omega, ih]
    rfl
  · intro l hl hs at_
    rw [lex_bad _ hl hs, lex_bad _ hl hs]
    rfl
theorem lex_off : ∀ l : List UInt8, ∀ at_, ∀ t ∈ (lex at_ l).1, t.off ≤ at_ + l.length := by
  refine lex_induct ?_ ?_ ?_ ?_
  · intro at_ t h; rw [lex_nil] at h; simp at h
  · intro l n hl hs h1 h2 ih at_ t h
    rw [lex_skip at_ hs] at h
    have := ih _ t h
    rw [List.length_drop] at this; omega
  · intro l k n hl hs h1 h2 ih at_ t h
    rw [lex_tok at_ hs] at h
    simp only [List.mem_cons] at h
    rcases h with rfl | h
    · show at_ ≤ _; omega
    · have := ih _ t h
      rw [List.length_drop] at this; omega
  · intro l hl hs at_ t h
    rw [lex_bad at_ hl hs] at h
    simp at h

theorem same_loop (L L' : List S39) (by_ : Int) (hll : L.length = L'.length) (hL : L.length ≤ 9000)
    (h : ∀ i (h1 : i < L.length) (h2 : i < L'.length), L[i].f0 = L'[i].f0 ∧ L[i].f1 = L'[i].f1 ∧ wrap64 (L[i].f2 + by_) = L'[i].f2) : ∀ (m i : Nat), i + m = L.length → ∀ k, m + 1 ≤ k →
    wireloomref08_Same.l0 k L L' by_ i = some true := by
  intro m
  induction m with
  | zero =>
    intro i hi k hk
    obtain ⟨k, rfl⟩ : ∃ j, k = j + 1 := ⟨k - 1, by omega⟩
    rw [wireloomref08_Same.l0, if_neg (by omega)]
  | succ m ih =>
    intro i hi k hk
    obtain ⟨k, rfl⟩ : ∃ j, k = j + 1 := ⟨k - 1, by omega⟩
    have hw : wrap64 ((i : Int) + 1) = ((i + 1 : Nat) : Int) := by rw [w64 (by omega)]; omega
    have h1 : i < L.length := by omega
    have h2 : i < L'.length := by omega
    have hr1 : rd_T39 L i = L[i] := by
      unfold rd_T39
      rw [List.getD_eq_getElem?_getD, Int.toNat_natCast, List.getElem?_eq_getElem h1]
      rfl
    have hr2 : rd_T39 L' i = L'[i] := by
      unfold rd_T39
      rw [List.getD_eq_getElem?_getD, Int.toNat_natCast, List.getElem?_eq_getElem h2]
      rfl
    obtain ⟨a1, a2, a3⟩ := h i h1 h2
    rw [wireloomref08_Same.l0, if_pos (by omega), if_pos (by omega), if_pos (by omega), hr1, hr2, if_pos a1, if_pos (by rw [a2]), if_pos a3, hw]
    exact ih (i + 1) (by omega) k (by omega)
theorem same_ok (L L' : List S39) (by_ : Int) (hll : L.length = L'.length) (hL : L.length ≤ 9000)
    (h : ∀ i (h1 : i < L.length) (h2 : i < L'.length), L[i].f0 = L'[i].f0 ∧ L[i].f1 = L'[i].f1 ∧ wrap64 (L[i].f2 + by_) = L'[i].f2) (k : Nat) (hk : 9001 ≤ k) : wireloomref08_Same.f k L L' by_ = some true := by
  unfold wireloomref08_Same.f
  rw [if_pos (by omega)]
  exact same_loop L L' by_ hll hL h L.length 0 (by omega) k (by omega)

theorem cat_j {l1 : List Int} (hu1 : ∀ x ∈ l1, (Lit.int .u8 x).wf = true) (s : ByteArray) (hs : s.size ≤ 600) (a2 : Bool) (hc : a2 = true → (lex 0 s.data.toList).2 = none) :
    wireloomlaw08_LexerConcatenates.j0 20000 l1 a2 true s = some true := by
  obtain ⟨t, ht, hm⟩ := made_ok hu1
  have hds := data_size s
  have hdt := data_size t
  have hl : ((s ++ (⟨#[10]⟩ : ByteArray)) ++ t).data.toList = s.data.toList ++ 10 :: t.data.toList := by
    rw [app_list, app_list, List.append_assoc]
    rfl
  have hzs : ((s ++ (⟨#[10]⟩ : ByteArray)) ++ t).size = s.size + 1 + t.size := by rw [ByteArray.size_append, ByteArray.size_append]; rfl
  rw [wireloomlaw08_LexerConcatenates.j0, hm _ (by decide), Option.bind_some, lexed_ok s (by omega), lexed_ok t (by omega), lexed_ok _ (by omega), hl]
  cases hx : (lex 0 s.data.toList).2 with
  | some e =>
    have ha : a2 = false := by
      cases a2 with
      | false => rfl
      | true => have := hc rfl; rw [hx] at this; cases this
    obtain ⟨_, _, _, e3⟩ := lex_err _ 0 e hx
    have hz := e3 10 t.data.toList (Or.inr rfl)
    subst ha
    rw [lexR_some hx, lexR_some hz, Option.bind_some]
    cases hy : (lex 0 t.data.toList).2 with
    | some e' =>
      rw [lexR_some hy, Option.bind_some, if_pos (by omega), if_pos (by rw [ByteArray.size_append]; show s.size + 1 + t.size ≤ _; omega), Option.bind_some, if_neg (by decide), wireloomlaw08_LexerConcatenates.j1, if_neg (by decide), if_neg (by show ¬ (5 : Int) = 0; decide), if_pos rfl, if_pos rfl]
    | none =>
      rw [lexR_none hy, Option.bind_some, if_pos (by omega), if_pos (by rw [ByteArray.size_append]; show s.size + 1 + t.size ≤ _; omega), Option.bind_some, if_neg (by decide), wireloomlaw08_LexerConcatenates.j1, if_neg (by decide), if_neg (by show ¬ (5 : Int) = 0; decide), if_pos rfl, if_pos rfl]
  | none =>
    have hcat := lex_cat _ 0 t.data.toList hx
    have hsh := lex_shift (s.size + 1) t.data.toList 0
    rw [Nat.zero_add] at hsh
    rw [Nat.zero_add, hds, hsh] at hcat
    have hoff := lex_off t.data.toList 0
    have hoffs := lex_off s.data.toList 0
    have hcs := lex_count s.data.toList 0
    have hct := lex_count t.data.toList 0
    rw [hds] at hcs hoffs
    rw [hdt] at hct hoff
    have hj1 : ∀ (k : Nat) (A : List S39) (a b : Int) (B : List S39) (c d : Int) (C : List S39) (e f : Int), wireloomlaw08_LexerConcatenates.j1 k true s false A a b B c d C e f = some true →
        (if a2 = true then wireloomlaw08_LexerConcatenates.j1 k true s ((0 : Int) != 0) A a b B c d C e f else wireloomlaw08_LexerConcatenates.j1 k true s false A a b B c d C e f) = some true := by
      intro k A a b B c d C e f h
      split
      · exact h
      · exact h
    cases hy : (lex 0 t.data.toList).2 with
    | some e =>
      obtain ⟨_, e1, _, _⟩ := lex_err _ 0 e hy
      have hz : (lex 0 (s.data.toList ++ 10 :: t.data.toList)).2 = some (e + (s.size + 1)) := by rw [hcat, hy]; rfl
      rw [lexR_none hx, lexR_some hy, lexR_some hz, Option.bind_some, Option.bind_some, if_pos (by omega), if_pos (by rw [ByteArray.size_append]; show s.size + 1 + t.size ≤ _; omega), Option.bind_some]
      apply hj1
      rw [wireloomlaw08_LexerConcatenates.j1, if_neg (by decide), if_pos rfl, if_neg (by show ¬ (5 : Int) = 0; decide), if_pos rfl, if_pos (by
        show ((e + (s.size + 1) : Nat) : Int) = wrap64 (wrap64 ((e : Int) + (s.size : Int)) + 1)
        rw [w64 (n := (e : Int) + (s.size : Int)) (by omega), w64 (by omega)]; omega), if_pos (by rfl)]
    | none =>
      have hz : (lex 0 (s.data.toList ++ 10 :: t.data.toList)).2 = none := by rw [hcat, hy]; rfl
      rw [lexR_none hx, lexR_none hy, lexR_none hz, Option.bind_some, Option.bind_some, if_pos (by omega), if_pos (by rw [ByteArray.size_append]; show s.size + 1 + t.size ≤ _; omega), Option.bind_some]
      apply hj1
      rw [hcat]
      generalize (lex 0 s.data.toList).1 = X at hoffs hcs
      generalize (lex 0 t.data.toList).1 = Y at hoff hct
      have hn : wrap64 (((X.map conv ++ [endT s]).length : Int) - 1) = (X.length : Int) := by
        rw [List.length_append, List.length_map, List.length_singleton, w64 (by omega)]; omega
      have hYl : (Y.map conv ++ [endT t]).length = Y.length + 1 := by simp
      have hZl : (((X ++ Y.map (shift (s.size + 1))).map conv ++ [endT ((s ++ (⟨#[10]⟩ : ByteArray)) ++ t)])).length = X.length + Y.length + 1 := by simp; omega
      have hXl : (X.map conv ++ [endT s]).length = X.length + 1 := by simp
      have htk1 : (X.map conv ++ [endT s]).take X.length = X.map conv := by rw [List.take_append_of_le_length (by simp), List.take_of_length_le (by simp)]
      have htk2 : ((X ++ Y.map (shift (s.size + 1))).map conv ++ [endT ((s ++ (⟨#[10]⟩ : ByteArray)) ++ t)]).take X.length = X.map conv := by
        rw [List.map_append, List.append_assoc, List.take_append_of_le_length (by simp), List.take_of_length_le (by simp)]
      have hdr : ((X ++ Y.map (shift (s.size + 1))).map conv ++ [endT ((s ++ (⟨#[10]⟩ : ByteArray)) ++ t)]).drop X.length = (Y.map (shift (s.size + 1))).map conv ++ [endT ((s ++ (⟨#[10]⟩ : ByteArray)) ++ t)] := by
        rw [List.map_append, List.append_assoc, List.drop_append_of_le_length (by simp), List.drop_of_length_le (by simp), List.nil_append]
      rw [wireloomlaw08_LexerConcatenates.j1, if_neg (by decide), if_pos rfl, if_pos rfl, hn, if_pos (by omega), if_pos rfl, hZl, hYl, hXl, w64 (by omega), if_pos (by omega), if_pos (by omega), if_pos (by omega), if_pos (by omega)]
      rw [Int.toNat_natCast, htk1, htk2, hdr]
      rw [same_ok (X.map conv) (X.map conv) 0 rfl (by simp; omega) (fun i h1 h2 => by
        refine ⟨rfl, rfl, ?_⟩
        have hi : i < X.length := by simpa using h1
        have := hoffs X[i] (List.getElem_mem hi)
        simp only [List.getElem_map, conv]
        rw [w64 (by omega)]; omega) _ (by decide), Option.bind_some, if_pos rfl]
      rw [same_ok (Y.map conv ++ [endT t]) _ _ (by simp) (by simp; omega) (fun i h1 h2 => by
        by_cases hi : i < Y.length
        · have := hoff Y[i] (List.getElem_mem hi)
          rw [List.getElem_append_left (by simpa using hi), List.getElem_append_left (by simpa using hi)]
          simp only [List.getElem_map, conv, shift]
          refine ⟨by trivial, by trivial, ?_⟩
          rw [w64 (n := (s.size : Int) + 1) (by omega), w64 (by omega)]; omega
        · have hi' : i = Y.length := by rw [hYl] at h1; omega
          subst hi'
          rw [List.getElem_append_right (by simp), List.getElem_append_right (by simp)]
          simp only [List.length_map, Nat.sub_self, List.getElem_cons_zero, endT]
          refine ⟨by trivial, by trivial, ?_⟩
          rw [hzs, w64 (n := (s.size : Int) + 1) (by omega), w64 (by omega)]; omega) _ (by decide), Option.bind_some, if_pos rfl]
theorem concatenates_pure : wireloomlaw08_LexerConcatenates.Pure := by
  intro l0 l1 a2 _ _ hu0 _ _ hu1
  obtain ⟨s, hs, hm⟩ := made_ok hu0
  obtain ⟨s', hs', hcl, hm'⟩ := clean_ok hu0
  refine ⟨20000, ?_⟩
  rw [wireloomlaw08_LexerConcatenates.f, examples_ok2, Option.bind_some, if_pos rfl, hm 20000 (by decide), Option.bind_some]
  cases a2 with
  | true =>
    rw [if_pos rfl, hm' 20000 (by decide), Option.bind_some]
    exact cat_j hu1 s' hs' true (fun _ => hcl 0)
  | false =>
    rw [if_neg (by decide)]
    exact cat_j hu1 s hs false (fun h => by cases h)
end Go.Proofs.YtoongglmgpilfaaDoor.L
