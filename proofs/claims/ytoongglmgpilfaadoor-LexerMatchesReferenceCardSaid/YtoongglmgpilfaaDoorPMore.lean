import Derived.Test.YtoongglmgpilfaaDoorPLex
namespace Go.Proofs.YtoongglmgpilfaaDoor.L
set_option linter.unusedVariables false
set_option linter.unusedSimpArgs false
open Go.RowKit Go.Proofs.YtoongglmgpilfaaDoorW.PrintWords Go.Proofs.YtoongglmgpilfaaDoorW.PrintLast Lx

theorem app_list (a b : ByteArray) : (a ++ b).data.toList = a.data.toList ++ b.data.toList := by
  rw [ByteArray.data_append, Array.toList_append]
theorem lexR_none {s : ByteArray} {z : List Tok × Option Nat} (h : z.2 = none) : lexR s 0 [] z = some (z.1.map conv ++ [endT s], 0, 0) := by
  unfold lexR; rw [h]; rfl
theorem lexR_some {s : ByteArray} {z : List Tok × Option Nat} {e : Nat} (h : z.2 = some e) : lexR s 0 [] z = some ([], (e : Int), 5) := by
  unfold lexR; rw [h]
theorem take0_list (s : ByteArray) (n : Nat) : (s.extract 0 n).data.toList = s.data.toList.take n := by
  rw [ext_list, List.drop_zero, Nat.sub_zero]
theorem wk_vals (l : List UInt8) : wk l = 0 ∨ wk l = 1 ∨ wk l = 2 := by
  unfold wk
  split
  · exact Or.inl rfl
  · split
    · exact Or.inr (Or.inl rfl)
    · split
      · split
        · exact Or.inr (Or.inr rfl)
        · exact Or.inl rfl
      · exact Or.inl rfl
theorem tok_kind {l : List UInt8} {k : Int} {n : Nat} (h : Lx.step l = .tok k n) : k = 1 ∨ k = 2 ∨ k = 3 := by
  unfold Lx.step at h
  split at h
  · cases h
  · split at h
    · cases h
    · split at h
      · cases h
      · split at h
        · rename_i h3
          injection h with h _
          subst h
          rcases wk_vals (List.takeWhile isWord (_ :: _)) with e | e | e
          · exact absurd e h3
          · exact Or.inl e
          · exact Or.inr (Or.inl e)
        · split at h
          · injection h with h _
            exact Or.inr (Or.inr h.symm)
          · cases h

/-! ### Clean -/
def Good (m : List UInt8) : Prop := ∀ at_, (lex at_ m).2 = none ∧ (lex at_ (m.dropWhile notNl)).2 = none
theorem lex_white {c : UInt8} (hc : c = 32 ∨ c = 10) (at_ : Nat) (m : List UInt8) : lex at_ (c :: m) = lex (at_ + 1) m := by
  have hw : Lx.step (c :: m) = .skip 1 := by rw [step_cons, if_pos (by rcases hc with rfl | rfl <;> decide)]
  rw [lex_skip _ hw, List.drop_succ_cons, List.drop_zero]
theorem good_nil : Good [] := fun at_ => ⟨by rw [lex_nil], by rw [List.dropWhile_nil, lex_nil]⟩
theorem drop_sep {c : UInt8} (hc : c = 32 ∨ c = 10) {m : List UInt8} (h : Good m) (at_ : Nat) : (lex at_ ((c :: m).dropWhile notNl)).2 = none := by
  rcases hc with rfl | rfl
  · rw [List.dropWhile_cons, if_pos (by decide)]
    exact (h at_).2
  · rw [List.dropWhile_cons, if_neg (by decide), lex_white (Or.inr rfl)]
    exact (h _).1
theorem drop_all {X m : List UInt8} (h : ∀ a ∈ X, notNl a = true) : (X ++ m).dropWhile notNl = m.dropWhile notNl := by
  induction X with
  | nil => rfl
  | cons a r ih =>
    rw [List.cons_append, List.dropWhile_cons, if_pos (h a (by simp))]
    exact ih (fun b hb => h b (by simp [hb]))
theorem drop_tw (p : UInt8 → Bool) (l : List UInt8) : l.drop (l.takeWhile p).length = l.dropWhile p := by
  induction l with
  | nil => rfl
  | cons a r ih =>
    rw [List.takeWhile_cons, List.dropWhile_cons]
    split
    · rw [List.length_cons, List.drop_succ_cons]; exact ih
    · rfl
def tokB (X : List UInt8) : Bool := match Lx.step X with | .tok _ n => (n == X.length) && X.all notNl | _ => false
theorem good_tok {X m : List UInt8} {c : UInt8} (hc : c = 32 ∨ c = 10) (hX : tokB X = true) (h : Good m) : Good (X ++ c :: m) := by
  unfold tokB at hX
  intro at_
  cases hs : Lx.step X with
  | skip n => rw [hs] at hX; cases hX
  | bad => rw [hs] at hX; cases hX
  | tok k n =>
    rw [hs] at hX
    simp only [Bool.and_eq_true, beq_iff_eq, List.all_eq_true] at hX
    obtain ⟨rfl, h2⟩ := hX
    have hne : X ≠ [] := by rintro rfl; simp [Lx.step] at hs
    have hx : Lx.step (X ++ c :: m) = .tok k X.length := by
      rcases step_ext (m := m) hc hne with hx | ⟨_, hx, _⟩
      · exact hx.trans hs
      · rw [hs] at hx; cases hx
    refine ⟨?_, ?_⟩
    · rw [lex_tok at_ hx, List.drop_left, lex_white hc]
      exact (h _).1
    · rw [drop_all h2]
      exact drop_sep hc h _
theorem good_cons {m : List UInt8} (c : UInt8) (hc : c = 32 ∨ c = 10) (h : Good m) : Good (c :: m) := fun at_ => ⟨by rw [lex_white hc]; exact (h _).1, drop_sep hc h _⟩
theorem good_com {m : List UInt8} {c : UInt8} (hc : c = 32 ∨ c = 10) (h : Good m) : Good (47 :: 47 :: c :: m) := by
  intro at_
  have hd : (47 :: 47 :: c :: m).dropWhile notNl = (c :: m).dropWhile notNl := drop_all (X := [47, 47]) (by decide)
  have hs : Lx.step (47 :: 47 :: c :: m) = .skip ((47 :: 47 :: c :: m).takeWhile notNl).length := by
    rw [step_cons, if_neg (by decide), if_pos (by simp [isCom])]
  refine ⟨?_, ?_⟩
  · rw [lex_skip _ hs, drop_tw, hd]
    exact drop_sep hc h _
  · rw [hd]
    exact drop_sep hc h _
theorem good_note {m : List UInt8} (h : Good m) : Good (32 :: 47 :: 47 :: 32 :: 110 :: 111 :: 116 :: 101 :: 10 :: m) := by
  apply good_cons 32 (Or.inl rfl)
  intro at_
  have hd : (47 :: 47 :: 32 :: 110 :: 111 :: 116 :: 101 :: 10 :: m).dropWhile notNl = (10 :: m).dropWhile notNl := drop_all (X := [47, 47, 32, 110, 111, 116, 101]) (by decide)
  have hs : Lx.step (47 :: 47 :: 32 :: 110 :: 111 :: 116 :: 101 :: 10 :: m) = .skip ((47 :: 47 :: 32 :: 110 :: 111 :: 116 :: 101 :: 10 :: m).takeWhile notNl).length := by
    rw [step_cons, if_neg (by decide), if_pos (by simp [isCom])]
  refine ⟨?_, ?_⟩
  · rw [lex_skip _ hs, drop_tw, hd]
    exact drop_sep (Or.inr rfl) h _
  · rw [hd]
    exact drop_sep (Or.inr rfl) h _
theorem pcs_tok : ∀ q : Fin 36, tokB (pc (q.val : Int)).data.toList = true := by decide +kernel
theorem good_pc {m : List UInt8} {c : UInt8} (hc : c = 32 ∨ c = 10) (h : Good m) (q : Int) (h0 : 0 ≤ q) (h1 : q < 40) : Good ((pc q).data.toList ++ c :: m) := by
  obtain ⟨n, rfl⟩ : ∃ n : Nat, q = n := ⟨q.toNat, by omega⟩
  by_cases hn : n < 36
  · exact good_tok hc (pcs_tok ⟨n, hn⟩) h
  · rcases (show n = 36 ∨ n = 37 ∨ n = 38 ∨ n = 39 by omega) with rfl | rfl | rfl | rfl
    · exact good_cons 32 (Or.inl rfl) (good_cons c hc h)
    · exact good_cons 10 (Or.inr rfl) (good_cons c hc h)
    · exact good_note (good_cons c hc h)
    · exact good_com hc h
theorem clean_j {l0 : List Int} (hu : ∀ x ∈ l0, (Lit.int .u8 x).wf = true) (i : Nat) (hi : (i : Int) < l0.length) (acc : ByteArray) (ha : acc.size ≤ 1000) :
    ∃ (q : Int) (c : UInt8), 0 ≤ q ∧ q < 40 ∧ (c = 32 ∨ c = 10) ∧ ∀ k, wireloomref08_Clean.j1 (k + 1) l0 pcs acc i true = wireloomref08_Clean.l0 k l0 pcs ((acc ++ pc q) ++ ⟨#[c]⟩) (wrap64 (i + 1)) := by
  obtain ⟨h0, h1⟩ := rd_u8 hu i
  have e0 : wrap64 (rd l0 i) = rd l0 i := w64 (by omega)
  have hp : (pcs.length : Int) = 50 := by rw [pcs_length]; rfl
  obtain ⟨t2, t3⟩ := tmod_range h0 40 (by decide)
  have hs := pc_size (Int.tmod (rd l0 i) 40)
  by_cases hm : rd l0 i ≥ 200
  · refine ⟨Int.tmod (rd l0 i) 40, 10, t2, t3, Or.inr rfl, fun k => ?_⟩
    simp only [wireloomref08_Clean.j1, e0, hp]
    rw [if_pos (by trivial), if_pos (by omega), if_pos hi, if_pos (by omega), if_pos (by omega), if_pos (by change acc.size + (pc _).size ≤ _; omega), if_pos hm, if_pos (by simp only [ByteArray.size_append]; change acc.size + (pc _).size + 1 ≤ _; omega)]
    rfl
  · refine ⟨Int.tmod (rd l0 i) 40, 32, t2, t3, Or.inl rfl, fun k => ?_⟩
    simp only [wireloomref08_Clean.j1, e0, hp]
    rw [if_pos (by trivial), if_pos (by omega), if_pos hi, if_pos (by omega), if_pos (by omega), if_pos (by change acc.size + (pc _).size ≤ _; omega), if_neg hm, if_pos (by simp only [ByteArray.size_append]; change acc.size + (pc _).size + 1 ≤ _; omega)]
    rfl
theorem clean_run {l0 : List Int} (hu : ∀ x ∈ l0, (Lit.int .u8 x).wf = true) : ∀ (n i : Nat) (acc : ByteArray), i + n = 60 → acc.size ≤ 10 * i →
    ∃ (s : ByteArray) (m : List UInt8), s.data.toList = acc.data.toList ++ m ∧ Good m ∧ s.size ≤ 600 ∧ ∀ k, 2 * n + 2 ≤ k → wireloomref08_Clean.l0 k l0 pcs acc i = some s := by
  intro n
  induction n with
  | zero =>
    intro i acc hi ha
    refine ⟨acc, [], by simp, good_nil, by omega, fun k hk => ?_⟩
    obtain ⟨k, rfl⟩ : ∃ j, k = j + 1 + 1 := ⟨k - 2, by omega⟩
    have hd : decide ((i : Int) < 60) = false := decide_eq_false (by omega)
    rw [wireloomref08_Clean.l0, hd, ite_self, wireloomref08_Clean.j1, if_neg (by simp)]
  | succ n ih =>
    intro i acc hi ha
    have hd : decide ((i : Int) < 60) = true := decide_eq_true (by omega)
    have hw : wrap64 ((i : Int) + 1) = ((i + 1 : Nat) : Int) := by rw [w64 (by omega)]; omega
    by_cases hl : (i : Int) < l0.length
    · obtain ⟨q, c, q0, q1, hc, h2⟩ := clean_j hu i hl acc (by omega)
      have hs := pc_size q
      obtain ⟨s, m, hm, hg, hs', hk⟩ := ih (i + 1) ((acc ++ pc q) ++ ⟨#[c]⟩) (by omega) (by simp only [ByteArray.size_append]; show acc.size + (pc q).size + 1 ≤ _; omega)
      refine ⟨s, (pc q).data.toList ++ c :: m, ?_, good_pc hc hg q q0 q1, hs', fun k hk' => ?_⟩
      · rw [hm, app_list, app_list]
        simp
      · obtain ⟨k, rfl⟩ : ∃ j, k = j + 1 + 1 := ⟨k - 2, by omega⟩
        rw [wireloomref08_Clean.l0, if_pos hl, hd, h2, hw]
        exact hk k (by omega)
    · refine ⟨acc, [], by simp, good_nil, by omega, fun k hk => ?_⟩
      obtain ⟨k, rfl⟩ : ∃ j, k = j + 1 + 1 := ⟨k - 2, by omega⟩
      rw [wireloomref08_Clean.l0, if_neg hl, wireloomref08_Clean.j1]
      simp
theorem clean_ok {l0 : List Int} (hu : ∀ x ∈ l0, (Lit.int .u8 x).wf = true) : ∃ s : ByteArray, s.size ≤ 600 ∧ (∀ at_, (lex at_ s.data.toList).2 = none) ∧ ∀ k, 122 ≤ k → wireloomref08_Clean.f k l0 = some s := by
  obtain ⟨s, m, h1, h2, h3, h4⟩ := clean_run hu 60 0 ⟨#[]⟩ rfl (Nat.zero_le _)
  have e : s.data.toList = m := by rw [h1]; rfl
  exact ⟨s, h3, fun at_ => by rw [e]; exact (h2 at_).1, fun k hk => by rw [wireloomref08_Clean.f, pcs_eq]; exact h4 k hk⟩

theorem lex_count : ∀ l : List UInt8, ∀ at_, (lex at_ l).1.length ≤ l.length := by
  refine lex_induct ?_ ?_ ?_ ?_
  · intro at_; rw [lex_nil]; exact Nat.le_refl _
  · intro l n hl hs h1 h2 ih at_
    rw [lex_skip at_ hs]
    have := ih (at_ + n)
    rw [List.length_drop] at this; omega
  · intro l k n hl hs h1 h2 ih at_
    rw [lex_tok at_ hs]
    have := ih (at_ + n)
    rw [List.length_drop] at this
    simp only [List.length_cons]; omega
  · intro l hl hs at_
    rw [lex_bad at_ hl hs]
    exact Nat.zero_le _
theorem text_list (t : Tok) : (conv t).f1.data.toList = t.text := rfl
theorem alone_kind {t : Tok} (h : Alone t) : t.kind = 1 ∨ t.kind = 2 ∨ t.kind = 3 := tok_kind h.2
end Go.Proofs.YtoongglmgpilfaaDoor.L
