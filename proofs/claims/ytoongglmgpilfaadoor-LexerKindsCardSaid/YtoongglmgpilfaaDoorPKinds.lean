import Derived.Test.YtoongglmgpilfaaDoorPErrors
import Derived.Test.YtoongglmgpilfaaDoorLx11
namespace Go.Proofs.YtoongglmgpilfaaDoor.L
set_option linter.unusedVariables false
set_option linter.unusedSimpArgs false
open Go.RowKit Go.Proofs.YtoongglmgpilfaaDoorW.PrintWords Go.Proofs.YtoongglmgpilfaaDoorW.PrintLast Lx

theorem wk_vals (l : List UInt8) : wk l = 0 ∨ wk l = 1 ∨ wk l = 2 := by
  unfold wk
  split
  · exact Or.inl rfl
  · split
    · exact Or.inr (Or.inl rfl)
    · split
      · split
        · exact Or.inr (Or.inr rfl)
        · exact Or.inl rfl
      · exact Or.inl rfl
theorem tok_kind {l : List UInt8} {k : Int} {n : Nat} (h : Lx.step l = .tok k n) : k = 1 ∨ k = 2 ∨ k = 3 := by
  unfold Lx.step at h
  split at h
  · cases h
  · split at h
    · cases h
    · split at h
      · cases h
      · split at h
        · rename_i h3
          injection h with h _
          subst h
          rcases wk_vals (List.takeWhile isWord (_ :: _)) with e | e | e
          · exact absurd e h3
          · exact Or.inl e
          · exact Or.inr (Or.inl e)
        · split at h
          · injection h with h _
            exact Or.inr (Or.inr h.symm)
          · cases h

/-! ### Clean -/
def Good (m : List UInt8) : Prop := ∀ at_, (lex at_ m).2 = none ∧ (lex at_ (m.dropWhile notNl)).2 = none
theorem lex_white {c : UInt8} (hc : c = 32 ∨ c = 10) (at_ : Nat) (m : List UInt8) : lex at_ (c :: m) = lex (at_ + 1) m := by
  have hw : Lx.step (c :: m) = .skip 1 := by rw [step_cons, if_pos (by rcases hc with rfl | rfl <;> decide)]
  rw [lex_skip _ hw, List.drop_succ_cons, List.drop_zero]
theorem good_nil : Good [] := fun at_ => ⟨by rw [lex_nil], by rw [List.dropWhile_nil, lex_nil]⟩
theorem drop_sep {c : UInt8} (hc : c = 32 ∨ c = 10) {m : List UInt8} (h : Good m) (at_ : Nat) : (lex at_ ((c :: m).dropWhile notNl)).2 = none := by
  rcases hc with rfl | rfl
  · rw [List.dropWhile_cons, if_pos (by decide)]
    exact (h at_).2
  · rw [List.dropWhile_cons, if_neg (by decide), lex_white (Or.inr rfl)]
    exact (h _).1
theorem drop_all {X m : List UInt8} (h : ∀ a ∈ X, notNl a = true) : (X ++ m).dropWhile notNl = m.dropWhile notNl := by
  induction X with
  | nil => rfl
  | cons a r ih =>
    rw [List.cons_append, List.dropWhile_cons, if_pos (h a (by simp))]
    exact ih (fun b hb => h b (by simp [hb]))
theorem drop_tw (p : UInt8 → Bool) (l : List UInt8) : l.drop (l.takeWhile p).length = l.dropWhile p := by
  induction l with
  | nil => rfl
  | cons a r ih =>
    rw [List.takeWhile_cons, List.dropWhile_cons]
    split
    · rw [List.length_cons, List.drop_succ_cons]; exact ih
    · rfl
def tokB (X : List UInt8) : Bool := match Lx.step X with | .tok _ n => (n == X.length) && X.all notNl | _ => false
theorem good_tok {X m : List UInt8} {c : UInt8} (hc : c = 32 ∨ c = 10) (hX : tokB X = true) (h : Good m) : Good (X ++ c :: m) := by
  unfold tokB at hX
  intro at_
  cases hs : Lx.step X with
  | skip n => rw [hs] at hX; cases hX
  | bad => rw [hs] at hX; cases hX
  | tok k n =>
    rw [hs] at hX
    simp only [Bool.and_eq_true, beq_iff_eq, List.all_eq_true] at hX
    obtain ⟨rfl, h2⟩ := hX
    have hne : X ≠ [] := by rintro rfl; simp [Lx.step] at hs
    have hx : Lx.step (X ++ c :: m) = .tok k X.length := by
      rcases step_ext (m := m) hc hne with hx | ⟨_, hx, _⟩
      · exact hx.trans hs
      · rw [hs] at hx; cases hx
    refine ⟨?_, ?_⟩
    · rw [lex_tok at_ hx, List.drop_left, lex_white hc]
      exact (h _).1
    · rw [drop_all h2]
      exact drop_sep hc h _
theorem good_cons {m : List UInt8} (c : UInt8) (hc : c = 32 ∨ c = 10) (h : Good m) : Good (c :: m) := fun at_ => ⟨by rw [lex_white hc]; exact (h _).1, drop_sep hc h _⟩
theorem good_com {m : List UInt8} {c : UInt8} (hc : c = 32 ∨ c = 10) (h : Good m) : Good (47 :: 47 :: c :: m) := by
  intro at_
  have hd : (47 :: 47 :: c :: m).dropWhile notNl = (c :: m).dropWhile notNl := drop_all (X := [47, 47]) (by decide)
  have hs : Lx.step (47 :: 47 :: c :: m) = .skip ((47 :: 47 :: c :: m).takeWhile notNl).length := by
    rw [step_cons, if_neg (by decide), if_pos (by simp [isCom])]
  refine ⟨?_, ?_⟩
  · rw [lex_skip _ hs, drop_tw, hd]
    exact drop_sep hc h _
  · rw [hd]
    exact drop_sep hc h _
theorem good_note {m : List UInt8} (h : Good m) : Good (32 :: 47 :: 47 :: 32 :: 110 :: 111 :: 116 :: 101 :: 10 :: m) := by
  apply good_cons 32 (Or.inl rfl)
  intro at_
  have hd : (47 :: 47 :: 32 :: 110 :: 111 :: 116 :: 101 :: 10 :: m).dropWhile notNl = (10 :: m).dropWhile notNl := drop_all (X := [47, 47, 32, 110, 111, 116, 101]) (by decide)
  have hs : Lx.step (47 :: 47 :: 32 :: 110 :: 111 :: 116 :: 101 :: 10 :: m) = .skip ((47 :: 47 :: 32 :: 110 :: 111 :: 116 :: 101 :: 10 :: m).takeWhile notNl).length := by
    rw [step_cons, if_neg (by decide), if_pos (by simp [isCom])]
  refine ⟨?_, ?_⟩
  · rw [lex_skip _ hs, drop_tw, hd]
    exact drop_sep (Or.inr rfl) h _
  · rw [hd]
    exact drop_sep (Or.inr rfl) h _
theorem pcs_tok : ∀ q : Fin 36, tokB (pc (q.val : Int)).data.toList = true := by decide +kernel
theorem good_pc {m : List UInt8} {c : UInt8} (hc : c = 32 ∨ c = 10) (h : Good m) (q : Int) (h0 : 0 ≤ q) (h1 : q < 40) : Good ((pc q).data.toList ++ c :: m) := by
  obtain ⟨n, rfl⟩ : ∃ n : Nat, q = n := ⟨q.toNat, by omega⟩
  by_cases hn : n < 36
  · exact good_tok hc (pcs_tok ⟨n, hn⟩) h
  · rcases (show n = 36 ∨ n = 37 ∨ n = 38 ∨ n = 39 by omega) with rfl | rfl | rfl | rfl
    · exact good_cons 32 (Or.inl rfl) (good_cons c hc h)
    · exact good_cons 10 (Or.inr rfl) (good_cons c hc h)
    · exact good_note (good_cons c hc h)
    · exact good_com hc h
theorem clean_j {l0 : List Int} (hu : ∀ x ∈ l0, (Lit.int .u8 x).wf = true) (i : Nat) (hi : (i : Int) < l0.length) (acc : ByteArray) (ha : acc.size ≤ 1000) :
    ∃ (q : Int) (c : UInt8), 0 ≤ q ∧ q < 40 ∧ (c = 32 ∨ c = 10) ∧ ∀ k, wireloomref08_Clean.j1 (k + 1) l0 pcs acc i true = wireloomref08_Clean.l0 k l0 pcs ((acc ++ pc q) ++ ⟨#[c]⟩) (wrap64 (i + 1)) := by
  obtain ⟨h0, h1⟩ := rd_u8 hu i
  have e0 : wrap64 (rd l0 i) = rd l0 i := w64 (by omega)
  have hp : (pcs.length : Int) = 50 := by rw [pcs_length]; rfl
  obtain ⟨t2, t3⟩ := tmod_range h0 40 (by decide)
  have hs := pc_size (Int.tmod (rd l0 i) 40)
  by_cases hm : rd l0 i ≥ 200
  · refine ⟨Int.tmod (rd l0 i) 40, 10, t2, t3, Or.inr rfl, fun k => ?_⟩
    simp only [wireloomref08_Clean.j1, e0, hp]
    rw [if_pos (by trivial), if_pos (by omega), if_pos hi, if_pos (by omega), if_pos (by omega), if_pos (by change acc.size + (pc _).size ≤ _; omega), if_pos hm, if_pos (by simp only [ByteArray.size_append]; change acc.size + (pc _).size + 1 ≤ _; omega)]
    rfl
  · refine ⟨Int.tmod (rd l0 i) 40, 32, t2, t3, Or.inl rfl, fun k => ?_⟩
    simp only [wireloomref08_Clean.j1, e0, hp]
    rw [if_pos (by trivial), if_pos (by omega), if_pos hi, if_pos (by omega), if_pos (by omega), if_pos (by change acc.size + (pc _).size ≤ _; omega), if_neg hm, if_pos (by simp only [ByteArray.size_append]; change acc.size + (pc _).size + 1 ≤ _; omega)]
    rfl
theorem clean_run {l0 : List Int} (hu : ∀ x ∈ l0, (Lit.int .u8 x).wf = true) : ∀ (n i : Nat) (acc : ByteArray), i + n = 60 → acc.size ≤ 10 * i →
    ∃ (s : ByteArray) (m : List UInt8), s.data.toList = acc.data.toList ++ m ∧ Good m ∧ s.size ≤ 600 ∧ ∀ k, 2 * n + 2 ≤ k → wireloomref08_Clean.l0 k l0 pcs acc i = some s := by
  intro n
  induction n with
  | zero =>
    intro i acc hi ha
    refine ⟨acc, [], by simp, good_nil, by omega, fun k hk => ?_⟩
    obtain ⟨k, rfl⟩ : ∃ j, k = j + 1 + 1 := ⟨k - 2, by omega⟩
    have hd : decide ((i : Int) < 60) = false := decide_eq_false (by omega)
    rw [wireloomref08_Clean.l0, hd, ite_self, wireloomref08_Clean.j1, if_neg (by simp)]
  | succ n ih =>
    intro i acc hi ha
    have hd : decide ((i : Int) < 60) = true := decide_eq_true (by omega)
    have hw : wrap64 ((i : Int) + 1) = ((i + 1 : Nat) : Int) := by rw [w64 (by omega)]; omega
    by_cases hl : (i : Int) < l0.length
    · obtain ⟨q, c, q0, q1, hc, h2⟩ := clean_j hu i hl acc (by omega)
      have hs := pc_size q
      obtain ⟨s, m, hm, hg, hs', hk⟩ := ih (i + 1) ((acc ++ pc q) ++ ⟨#[c]⟩) (by omega) (by simp only [ByteArray.size_append]; show acc.size + (pc q).size + 1 ≤ _; omega)
      refine ⟨s, (pc q).data.toList ++ c :: m, ?_, good_pc hc hg q q0 q1, hs', fun k hk' => ?_⟩
      · rw [hm, app_list, app_list]
        simp
      · obtain ⟨k, rfl⟩ : ∃ j, k = j + 1 + 1 := ⟨k - 2, by omega⟩
        rw [wireloomref08_Clean.l0, if_pos hl, hd, h2, hw]
        exact hk k (by omega)
    · refine ⟨acc, [], by simp, good_nil, by omega, fun k hk => ?_⟩
      obtain ⟨k, rfl⟩ : ∃ j, k = j + 1 + 1 := ⟨k - 2, by omega⟩
      rw [wireloomref08_Clean.l0, if_neg hl, wireloomref08_Clean.j1]
      simp
theorem clean_ok {l0 : List Int} (hu : ∀ x ∈ l0, (Lit.int .u8 x).wf = true) : ∃ s : ByteArray, s.size ≤ 600 ∧ (∀ at_, (lex at_ s.data.toList).2 = none) ∧ ∀ k, 122 ≤ k → wireloomref08_Clean.f k l0 = some s := by
  obtain ⟨s, m, h1, h2, h3, h4⟩ := clean_run hu 60 0 ⟨#[]⟩ rfl (Nat.zero_le _)
  have e : s.data.toList = m := by rw [h1]; rfl
  exact ⟨s, h3, fun at_ => by rw [e]; exact (h2 at_).1, fun k hk => by rw [wireloomref08_Clean.f, pcs_eq]; exact h4 k hk⟩

theorem lex_count : ∀ l : List UInt8, ∀ at_, (lex at_ l).1.length ≤ l.length := by
  refine lex_induct ?_ ?_ ?_ ?_
  · intro at_; rw [lex_nil]; exact Nat.le_refl _
  · intro l n hl hs h1 h2 ih at_
    rw [lex_skip at_ hs]
    have := ih (at_ + n)
    rw [List.length_drop] at this; omega
  · intro l k n hl hs h1 h2 ih at_
    rw [lex_tok at_ hs]
    have := ih (at_ + n)
    rw [List.length_drop] at this
    simp only [List.length_cons]; omega
  · intro l hl hs at_
    rw [lex_bad at_ hl hs]
    exact Nat.zero_le _
/-! ### the law -/
theorem text_list (t : Tok) : (conv t).f1.data.toList = t.text := rfl
theorem alone_kind {t : Tok} (h : Alone t) : t.kind = 1 ∨ t.kind = 2 ∨ t.kind = 3 := tok_kind h.2
theorem kinds_loop (x5 : Bool) (ts : List Tok) (hbig : ts.length ≤ 1000) (hts : ∀ t ∈ ts, Alone t ∧ t.text.length ≤ 600) (s : ByteArray) : ∀ (m i : Nat), i + m = ts.length → ∀ k, m + 1 ≤ k →
    wireloomlaw08_LexerKinds.l0 k x5 i (ts.map conv ++ [endT s]) 0 0 = some x5 := by
  intro m
  induction m with
  | zero =>
    intro i hi k hk
    obtain ⟨k, rfl⟩ : ∃ j, k = j + 1 := ⟨k - 1, by omega⟩
    rw [wireloomlaw08_LexerKinds.l0, if_neg (by unfold wrap64; simp only [List.length_append, List.length_map, List.length_cons, List.length_nil]; omega), if_pos rfl]
  | succ m ih =>
    intro i hi k hk
    · obtain ⟨k, rfl⟩ : ∃ j, k = j + 1 := ⟨k - 1, by omega⟩
      have hw : wrap64 ((i : Int) + 1) = ((i + 1 : Nat) : Int) := by rw [w64 (by omega)]; omega
      have hlt : i < ts.length := by omega
      have hrd : rd_T39 (ts.map conv ++ [endT s]) i = conv ts[i] := by
        unfold rd_T39
        rw [List.getD_eq_getElem?_getD, Int.toNat_natCast, List.getElem?_append_left (by rw [List.length_map]; exact hlt), List.getElem?_map, List.getElem?_eq_getElem hlt]
        rfl
      obtain ⟨ha, hsz⟩ := hts ts[i] (List.getElem_mem hlt)
      have hlen : (ts.map conv ++ [endT s]).length = ts.length + 1 := by simp
      have hsz' : (conv ts[i]).f1.size ≤ 600 := by rw [← data_size, text_list]; exact hsz
      have hk1 : kd (conv ts[i]).f1.data.toList = ts[i].kind := kd_alone ha
      have ihn := ih (i + 1) (by omega) k (by omega)
      rw [wireloomlaw08_LexerKinds.l0, hw, hrd, if_pos (by rw [hlen]; omega), if_pos (by omega), if_pos (by rw [hlen]; omega), Kind_ok _ (by omega), Option.bind_some, hk1, if_pos (show ts[i].kind = (conv ts[i]).f0 from rfl)]
      rcases alone_kind ha with e | e | e
      · rw [if_pos e]; exact ihn
      · rw [if_neg (by omega), if_pos e]; exact ihn
      · rw [if_neg (by omega), if_neg (by omega), if_pos e]; exact ihn
theorem kinds_pure : wireloomlaw08_LexerKinds.Pure := by
  intro l0 a1 _ _ hu _
  obtain ⟨t, ht, hcl, hm⟩ := clean_ok hu
  refine ⟨2000, ?_⟩
  rw [wireloomlaw08_LexerKinds.f, examples_ok, Option.bind_some, if_pos rfl]
  by_cases h3 : (a1.size : Int) > 300
  · rw [decide_eq_true h3, wireloomlaw08_LexerKinds.j0, if_pos rfl]
  · rw [decide_eq_false h3, wireloomlaw08_LexerKinds.j0, if_neg (by decide), lexed_ok a1 (by omega)]
    have hd := data_size a1
    have hj2 : ∀ k, 1990 ≤ k → wireloomlaw08_LexerKinds.j2 k l0 true false = some true := by
      intro k hk
      obtain ⟨k, rfl⟩ : ∃ j, k = j + 1 := ⟨k - 1, by omega⟩
      rw [wireloomlaw08_LexerKinds.j2, if_neg (by decide), hm k (by omega), Option.bind_some, lexed_ok t (by omega), lexR_none (hcl 0), Option.bind_some]
      have hc := lex_count t.data.toList 0
      rw [data_size] at hc
      refine kinds_loop true _ (by omega) (fun u hu => ⟨lex_alone _ 0 u hu, ?_⟩) t (lex 0 t.data.toList).1.length 0 (by omega) k (by omega)
      have := lex_sub _ 0 u hu
      rw [data_size] at this
      omega
    -- one token with this text, or not
    have hj1 : ∀ (L : List S39) (at_ e : Int), kd a1.data.toList = 0 → wireloomlaw08_LexerKinds.j1 1999 l0 a1 true false L at_ e = some true := by
      intro L at_ e hk
      rw [wireloomlaw08_LexerKinds.j1, Kind_ok a1 (by omega), Option.bind_some, hk, if_neg (by decide), if_neg (by decide)]
      exact hj2 _ (by decide)
    by_cases hk : kd a1.data.toList = 0
    · cases hz : (lex 0 a1.data.toList).2 with
      | some e =>
        rw [lexR_some hz, Option.bind_some, if_neg (by show ¬ (5 : Int) = 0; decide)]
        exact hj1 _ _ _ hk
      | none =>
        rw [lexR_none hz, Option.bind_some, if_pos rfl]
        cases hts : (lex 0 a1.data.toList).1 with
        | nil =>
          rw [if_neg (by simp)]
          exact hj1 _ _ _ hk
        | cons u r =>
          cases r with
          | cons v r =>
            rw [if_neg (by simp; omega)]
            exact hj1 _ _ _ hk
          | nil =>
            rw [if_pos (by simp), if_pos (by simp)]
            have hal : Alone u := lex_alone _ 0 u (by rw [hts]; simp)
            have hne : ((conv u).f1.toList == a1.toList) = false := by
              rw [beq_eq_false_iff_ne]
              intro he
              have he : u.text = a1.data.toList := by
                have h1 := ByteArray.toList_eq (conv u).f1
                have h2 := ByteArray.toList_eq a1
                rw [text_list] at h1
                rw [← h1, ← h2, he]
              have := one_kd a1.data.toList u (by rw [← hts, ← hz]) he (by rw [← he]; exact hal.1)
              rcases alone_kind hal with e | e | e <;> omega
            have hrd : rd_T39 ([u].map conv ++ [endT a1]) 0 = conv u := rfl
            rw [hrd, hne]
            exact hj1 _ _ _ hk
    · have h1 := kd_one _ hk
      have e1 : (lex 0 a1.data.toList).1 = [⟨kd a1.data.toList, a1.data.toList, 0⟩] := by rw [h1]
      have e2 : (lex 0 a1.data.toList).2 = none := by rw [h1]
      rw [lexR_none e2, Option.bind_some, if_pos rfl, e1, if_pos (by simp), if_pos (by simp)]
      have hrd : rd_T39 ([(⟨kd a1.data.toList, a1.data.toList, 0⟩ : Tok)].map conv ++ [endT a1]) 0 = ⟨kd a1.data.toList, a1, 0⟩ := rfl
      rw [hrd, beq_self_eq_true, wireloomlaw08_LexerKinds.j1, Kind_ok a1 (by omega), Option.bind_some, if_neg (by simp [hk]), if_pos rfl, if_pos (by simp), Option.bind_some, hrd]
      rw [show (kd a1.data.toList != kd a1.data.toList) = false by simp]
      exact hj2 _ (by decide)
end Go.Proofs.YtoongglmgpilfaaDoor.L
