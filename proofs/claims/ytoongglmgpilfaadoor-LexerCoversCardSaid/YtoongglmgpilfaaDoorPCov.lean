/- The tokens of a file stand in it, with nothing but white space between them: the plain law of LexerCovers. -/
import Derived.Test.YtoongglmgpilfaaDoorPRef
import Derived.Test.YtoongglmgpilfaaDoorPMore
import Derived.Test.YtoongglmgpilfaaDoorLcv
namespace Go.Proofs.YtoongglmgpilfaaDoor.L
set_option linter.unusedVariables false
set_option linter.unusedSimpArgs false
open Go.RowKit Go.Proofs.YtoongglmgpilfaaDoorW.PrintWords Go.Proofs.YtoongglmgpilfaaDoorW.PrintLast Lx

/-- white space: blanks, line feeds, comments up to a line feed or the end -/
inductive WSeg : List UInt8 → Prop
  | nil : WSeg []
  | white (c : UInt8) (r : List UInt8) : isWhite c = true → WSeg r → WSeg (c :: r)
  | com (X r : List UInt8) : isCom X = true → (∀ a ∈ X, notNl a = true) → (r = [] ∨ ∃ m, r = 10 :: m) → WSeg r → WSeg (X ++ r)
theorem wseg_nl {m : List UInt8} (h : WSeg (10 :: m)) : WSeg m := by
  generalize e : 10 :: m = l at h
  cases h with
  | nil => cases e
  | white c r hc hr => injection e with e1 e2; subst e2; exact hr
  | com X r hX ha hr hw =>
    cases X with
    | nil => simp [isCom] at hX
    | cons a X =>
      injection e with e1 e2
      subst e1
      simp [isCom] at hX
theorem com_two {X : List UInt8} (h : isCom X = true) : ∃ r, X = 47 :: 47 :: r := by
  match X, h with
  | [], h => simp [isCom] at h
  | [a], h => simp [isCom] at h
  | a :: b :: r, h =>
    simp [isCom] at h
    obtain ⟨rfl, rfl⟩ := h
    exact ⟨r, rfl⟩
theorem white_line (s : ByteArray) (hs : s.size ≤ 100000) : ∀ (X r : List UInt8) (p : Nat), s.data.toList.drop p = X ++ r → (∀ a ∈ X, notNl a = true) → (r = [] ∨ ∃ m, r = 10 :: m) → p ≤ s.size → ∀ k,
    wireloomlaw08_white.l1 (k + X.length + 1) s p = wireloomlaw08_white.l0 k s ((p + X.length + 1 : Nat) : Int) := by
  intro X
  induction X with
  | nil =>
    intro r p e ha hr hp k
    rw [List.nil_append] at e
    rw [List.length_nil, Nat.add_zero, Nat.add_zero, wireloomlaw08_white.l1]
    rcases hr with rfl | ⟨m, rfl⟩
    · have hl := congrArg List.length e
      rw [List.length_drop, data_size, List.length_nil] at hl
      rw [if_neg (by omega), w1 p (by omega)]
    · obtain ⟨b1, b2, b3, b4⟩ := bt_drop e
      rw [if_pos (by omega), if_pos (by omega), b2, if_pos (by decide), w1 p (by omega)]
  | cons a X ih =>
    intro r p e ha hr hp k
    obtain ⟨b1, b2, b3, b4⟩ := bt_drop e
    have hn : ¬ (a.toNat : Int) = 10 := by
      intro h
      have h1 := ha a List.mem_cons_self
      have : a = 10 := toNat_eq.1 (by simpa using h)
      subst this
      simp [notNl] at h1
    rw [List.length_cons, show k + (X.length + 1) + 1 = (k + X.length + 1) + 1 by omega, wireloomlaw08_white.l1, if_pos (by omega), if_pos (by omega), b2, if_neg hn, w1 p (by omega)]
    rw [ih r (p + 1) b3 (fun b hb => ha b (List.mem_cons_of_mem _ hb)) hr (by omega) k]
    rw [show p + 1 + X.length + 1 = p + (X.length + 1) + 1 by omega]
theorem white_ok (s : ByteArray) (hs : s.size ≤ 100000) : ∀ (n : Nat) (S : List UInt8), S.length ≤ n → WSeg S → ∀ p : Nat, s.data.toList.drop p = S → p ≤ s.size → ∀ k, 3 * (s.size - p) + 5 ≤ k → wireloomlaw08_white.l0 k s p = some true := by
  intro n
  induction n with
  | zero =>
    intro S hS hw p e hp k hk
    obtain ⟨k, rfl⟩ : ∃ j, k = j + 1 := ⟨k - 1, by omega⟩
    have hl := congrArg List.length e
    rw [List.length_drop, data_size] at hl
    rw [wireloomlaw08_white.l0, if_neg (by omega)]
  | succ n ih =>
    intro S hS hw p e hp k hk
    have hl := congrArg List.length e
    rw [List.length_drop, data_size] at hl
    cases hw with
    | nil =>
      obtain ⟨k, rfl⟩ : ∃ j, k = j + 1 := ⟨k - 1, by omega⟩
      rw [List.length_nil] at hl
      rw [wireloomlaw08_white.l0, if_neg (by omega)]
    | white c r hc hr =>
      obtain ⟨k, rfl⟩ : ∃ j, k = j + 1 + 1 := ⟨k - 2, by omega⟩
      obtain ⟨b1, b2, b3, b4⟩ := bt_drop e
      simp only [List.length_cons] at hS hl
      have hrec := ih r (by omega) hr (p + 1) b3 (by omega) k (by omega)
      rw [wireloomlaw08_white.l0, if_pos (by omega), if_pos (by omega), b2]
      simp only [isWhite, Bool.or_eq_true, beq_iff_eq] at hc
      rcases hc with rfl | rfl
      · rw [if_pos (by decide), wireloomlaw08_white.j1, if_pos rfl, w1 p (by omega), hrec]
      · rw [if_neg (by decide), wireloomlaw08_white.j1, if_pos (by decide), w1 p (by omega), hrec]
    | com X r hX ha hr hw2 =>
      obtain ⟨Y, rfl⟩ := com_two hX
      have e2 : s.data.toList.drop p = 47 :: (47 :: Y ++ r) := e
      obtain ⟨b1, b2, b3, b4⟩ := bt_drop e2
      obtain ⟨c1, c2, c3, c4⟩ := bt_drop b3
      simp only [List.length_append, List.length_cons] at hS hl
      obtain ⟨k, rfl⟩ : ∃ j, k = j + (47 :: 47 :: Y).length + 1 + 1 + 1 + 1 := ⟨k - ((47 :: 47 :: Y).length + 4), by simp only [List.length_cons]; omega⟩
      have hline := white_line s hs (47 :: 47 :: Y) r p e ha hr (by omega) k
      rw [wireloomlaw08_white.l0, if_pos (by omega), if_pos (by omega), b2, if_neg (by decide), wireloomlaw08_white.j1, if_neg (by decide), if_pos (by omega), if_pos (by omega), b2, if_pos (by decide), w1 p (by omega), if_neg (by omega), if_pos (by omega), if_pos (by omega), c2,
        wireloomlaw08_white.j2, if_neg (by decide), hline]
      simp only [List.length_cons] at hk ⊢
      rcases hr with rfl | ⟨m, rfl⟩
      · obtain ⟨k, rfl⟩ : ∃ j, k = j + 1 := ⟨k - 1, by omega⟩
        simp only [List.length_nil] at hl
        rw [wireloomlaw08_white.l0, if_neg (by omega)]
      · simp only [List.length_cons] at hl hS
        have e3 : s.data.toList.drop (p + (Y.length + 1 + 1) + 1) = m := by
          have : s.data.toList.drop (p + (Y.length + 1 + 1) + 1) = (s.data.toList.drop p).drop (Y.length + 1 + 1 + 1) := by rw [List.drop_drop]; congr 1
          rw [this, e]
          have : (47 :: 47 :: Y ++ 10 :: m) = (47 :: 47 :: Y ++ [10]) ++ m := by simp
          rw [this, List.drop_append]
          simp
        exact ih m (by omega) (wseg_nl hw2) _ e3 (by omega) k (by omega)

/-- the tokens stand where they say, with white space ahead of each and behind the last -/
def Cov : Nat → List UInt8 → List Tok → Prop
  | _, l, [] => WSeg l
  | at_, l, t :: ts => ∃ n, t.off = at_ + n ∧ n + t.text.length ≤ l.length ∧ WSeg (l.take n) ∧ t.text = (l.drop n).take t.text.length ∧ Cov (at_ + n + t.text.length) (l.drop (n + t.text.length)) ts
theorem wseg_front {l : List UInt8} {n : Nat} (h : Lx.step l = .skip n) (q : Nat) (hw : WSeg ((l.drop n).take q)) : WSeg (l.take (n + q)) := by
  cases l with
  | nil => simp [Lx.step] at h
  | cons c r =>
    rw [step_cons] at h
    by_cases h1 : isWhite c = true
    · rw [if_pos h1] at h
      injection h with h; subst h
      rw [show 1 + q = q + 1 by omega, List.take_succ_cons]
      exact .white c _ h1 (by simpa using hw)
    · rw [if_neg h1] at h
      by_cases h2 : isCom (c :: r) = true
      · rw [if_pos h2] at h
        injection h with h; subst h
        have hc := com_pos h2
        have hX : (c :: r).take ((c :: r).takeWhile notNl).length = (c :: r).takeWhile notNl := take_tw _ _
        rw [List.take_add, hX]
        obtain ⟨Y, hY⟩ := com_two h2
        refine .com _ _ ?_ ?_ ?_ hw
        · rw [hY]
          rfl
        · intro a ha
          exact List.all_eq_true.1 List.all_takeWhile a ha
        · rw [drop_tw]
          cases hd : (c :: r).dropWhile notNl with
          | nil => left; simp
          | cons b m =>
            cases q with
            | zero => left; simp
            | succ q =>
              right
              have hb : notNl b = false := by
                have := List.head?_dropWhile_not notNl (c :: r)
                rw [hd] at this
                simpa using this
              have hb10 : b = 10 := by
                simp [notNl] at hb
                exact hb
              subst hb10
              exact ⟨m.take q, by simp⟩
      · rw [if_neg h2] at h
        split at h
        · cases h
        · split at h <;> cases h
theorem lex_cov : ∀ l : List UInt8, ∀ at_, (lex at_ l).2 = none → Cov at_ l (lex at_ l).1 := by
  intro l
  induction hn : l.length using Nat.strongRecOn generalizing l with
  | _ n ih =>
    intro at_ hz
    cases l with
    | nil => rw [lex_nil]; exact .nil
    | cons c r =>
      cases hst : Lx.step (c :: r) with
      | bad => rw [lex_bad at_ (by simp) hst] at hz; cases hz
      | skip m =>
        have hp := step_pos_skip hst
        have hle := step_le (c :: r)
        rw [hst] at hle
        simp only [St.len] at hle
        rw [lex_skip at_ hst] at hz ⊢
        have h1 := ih ((c :: r).drop m).length (by rw [← hn, List.length_drop]; simp only [List.length_cons]; omega) ((c :: r).drop m) rfl (at_ + m) hz
        generalize (lex (at_ + m) ((c :: r).drop m)).1 = ts at h1
        cases ts with
        | nil =>
          have h2 : WSeg (((c :: r).drop m).take ((c :: r).length - m)) := by
            rw [List.take_of_length_le (by rw [List.length_drop]; omega)]
            exact h1
          have := wseg_front hst ((c :: r).length - m) h2
          rw [List.take_of_length_le (by omega)] at this
          exact this
        | cons t ts =>
          obtain ⟨q, h2, h3, h4, h5, h6⟩ := h1
          rw [List.length_drop] at h3
          refine ⟨m + q, by omega, by omega, wseg_front hst q h4, ?_, ?_⟩
          · rw [← List.drop_drop]; exact h5
          · rw [List.drop_drop] at h6
            rw [show at_ + (m + q) + t.text.length = at_ + m + q + t.text.length by omega, show m + q + t.text.length = m + (q + t.text.length) by omega]
            exact h6
      | tok K m =>
        have hp := step_pos_tok hst
        have hle := step_le (c :: r)
        rw [hst] at hle
        simp only [St.len] at hle
        rw [lex_tok at_ hst] at hz ⊢
        have h1 := ih ((c :: r).drop m).length (by rw [← hn, List.length_drop]; simp only [List.length_cons]; omega) ((c :: r).drop m) rfl (at_ + m) hz
        have hl : ((c :: r).take m).length = m := by rw [List.length_take]; omega
        refine ⟨0, rfl, ?_, .nil, ?_, ?_⟩
        · show 0 + ((c :: r).take m).length ≤ _
          omega
        · show (c :: r).take m = ((c :: r).drop 0).take ((c :: r).take m).length
          rw [hl]; rfl
        · show Cov (at_ + 0 + ((c :: r).take m).length) ((c :: r).drop (0 + ((c :: r).take m).length)) _
          rw [hl, Nat.zero_add, Nat.add_zero]
          exact h1
theorem rd39 {L : List S39} {i : Nat} {x : S39} {r : List S39} (h : L.drop i = x :: r) : rd_T39 L (i : Int) = x ∧ i < L.length ∧ L.drop (i + 1) = r := by
  have hl := congrArg List.length h
  rw [List.length_drop, List.length_cons] at hl
  refine ⟨?_, by omega, ?_⟩
  · unfold rd_T39
    rw [Int.toNat_natCast, List.getD_eq_getElem?_getD]
    have : L[i]? = (L.drop i)[0]? := by rw [List.getElem?_drop, Nat.add_zero]
    rw [this, h]
    rfl
  · rw [show i + 1 = i + 1 from rfl, ← List.drop_drop, h]
    rfl
theorem white_seg (s : ByteArray) (hs : s.size ≤ 100000) (a b : Nat) (hab : a ≤ b) (hb : b ≤ s.size) (hw : WSeg ((s.data.toList.drop a).take (b - a))) (k : Nat) (hk : 3 * s.size + 5 ≤ k) :
    wireloomlaw08_white.f k (s.extract ((a : Int)).toNat ((b : Int)).toNat) = some true := by
  have he := ext_list s a b
  have hz : (s.extract a b).size = b - a := by simp only [ByteArray.size_extract]; omega
  unfold wireloomlaw08_white.f
  rw [Int.toNat_natCast, Int.toNat_natCast]
  exact white_ok (s.extract a b) (by omega) _ _ (Nat.le_refl _) hw 0 (by rw [List.drop_zero]; exact he) (by omega) k (by omega)
theorem cov_l0 (s : ByteArray) (k : Nat) (at_ i z : Int) (L : List S39) (x : S39) (b : Bool) (h1 : i < (L.length : Int)) (h0 : 0 ≤ i) (r1 : rd_T39 L i = x) (hz : wrap64 (x.f2 + (x.f1.size : Int)) = z) (g1 : ¬ x.f2 < at_) (g2 : ¬ z > (s.size : Int)) (g3 : 0 ≤ x.f2) (g4 : x.f2 ≤ z) (g5 : z ≤ (s.size : Int))
    (hx : (s.extract (x.f2).toNat z.toNat).toList = (x.f1).toList) (g6 : 0 ≤ at_) (g7 : at_ ≤ x.f2) (g8 : x.f2 ≤ (s.size : Int)) (hw : wireloomlaw08_white.f k (s.extract at_.toNat (x.f2).toNat) = some true) (h4 : (x.f0 == 4) = b) (hl : (i == wrap64 ((L.length : Int) - 1)) = b) (h5 : (z == x.f2) = b) :
    wireloomlaw08_LexerCovers.l0 (k + 1) true s at_ i L 0 0 = wireloomlaw08_LexerCovers.j2 k true s i z false L 0 0 := by
  have hb : (b != b) = false := by cases b <;> rfl
  have hb' : ¬ false = true := by decide
  rw [wireloomlaw08_LexerCovers.l0, if_pos h1, if_pos h0, r1, hz, if_neg g1, if_neg g2, if_pos g3, if_pos g4, if_pos g5, if_pos hx, if_pos g6, if_pos g7, if_pos g8, hw, Option.bind_some, if_pos rfl, h4, hl, h5, hb, if_neg hb']
theorem cov_j2 (s : ByteArray) (k i : Nat) (z : Int) (L : List S39) (hi : i ≤ 100000) : wireloomlaw08_LexerCovers.j2 (k + 1) true s i z false L 0 0 = wireloomlaw08_LexerCovers.l0 k true s z ((i + 1 : Nat) : Int) L 0 0 := by
  rw [wireloomlaw08_LexerCovers.j2, if_neg (by decide), w1 i hi]
theorem last_ne (i n : Nat) (h : i + 1 < n) (hn : n ≤ 100000) : ((i : Int) == wrap64 ((n : Int) - 1)) = false := by rw [w64 (by omega), beq_eq_false_iff_ne]; omega
theorem last_eq (i n : Nat) (h : i + 1 = n) (hn : n ≤ 100000) : ((i : Int) == wrap64 ((n : Int) - 1)) = true := by rw [w64 (by omega), beq_iff_eq]; omega
theorem kind_ne {K : Int} (h : K = 1 ∨ K = 2 ∨ K = 3) : (K == 4) = false := by rcases h with rfl | rfl | rfl <;> rfl
theorem to_ne (a b : Nat) (h : 0 < b) : (((a + b : Nat) : Int) == (a : Int)) = false := by rw [beq_eq_false_iff_ne]; omega
theorem cov_run (s : ByteArray) (hs : s.size ≤ 8000) (L : List S39) (hL : L.length ≤ 9000) : ∀ (ts : List Tok) (i at_ : Nat), L.drop i = ts.map conv ++ [endT s] → at_ ≤ s.size → Cov at_ (s.data.toList.drop at_) ts → (∀ t ∈ ts, Alone t) →
    ∀ k, 3 * s.size + 2 * ts.length + 20 ≤ k → wireloomlaw08_LexerCovers.l0 k true s at_ i L 0 0 = some true := by
  intro ts
  induction ts with
  | nil =>
    intro i at_ e ha hc hal k hk
    obtain ⟨k, rfl⟩ : ∃ j, k = j + 1 + 1 + 1 := ⟨k - 3, by omega⟩
    obtain ⟨r1, r2, r3⟩ := rd39 (x := endT s) (r := []) e
    have hl := congrArg List.length e
    simp only [List.length_drop, List.map_nil, List.nil_append, List.length_cons, List.length_nil] at hl
    clear e r3
    have hz : wrap64 ((endT s).f2 + ((endT s).f1.size : Int)) = (s.size : Int) := by
      show wrap64 ((s.size : Int) + 0) = _
      rw [w64 (by omega)]; omega
    have hx : (s.extract ((endT s).f2).toNat ((s.size : Nat) : Int).toNat).toList = ((endT s).f1).toList := by
      congr 1
      apply ByteArray.ext
      apply Array.ext'
      have := ext_list s s.size s.size
      rw [Nat.sub_self, List.take_zero] at this
      exact this
    have hwf := white_seg s (by omega) at_ s.size ha (Nat.le_refl _) (by rw [List.take_of_length_le (by rw [List.length_drop, data_size]; omega)]; exact hc) (k + 1 + 1) (by omega)
    have hne : L.length ≠ 0 := by omega
    have q1 : (i : Int) < (L.length : Int) := by omega
    have q2 : (0 : Int) ≤ (i : Int) := by omega
    have q3 : ¬ (s.size : Int) < (at_ : Int) := by omega
    have q4 : (0 : Int) ≤ (s.size : Int) := by omega
    have q5 : (0 : Int) ≤ (at_ : Int) := by omega
    have q6 : (at_ : Int) ≤ (s.size : Int) := by omega
    have q7 : ¬ ((i + 1 : Nat) : Int) < (L.length : Int) := by omega
    have q8 : (L.length : Int) > 0 := by omega
    rw [cov_l0 s (k + 1 + 1) at_ i (s.size : Int) L (endT s) true q1 q2 r1 hz q3 (Int.lt_irrefl _) q4 (Int.le_refl _) (Int.le_refl _) hx q5 q6 (Int.le_refl _) hwf rfl (last_eq i L.length (by omega) (by omega)) (beq_iff_eq.2 rfl),
      cov_j2 s (k + 1) i _ L (by omega), wireloomlaw08_LexerCovers.l0, if_neg q7, if_pos rfl, if_pos q8]
  | cons t ts ih =>
    intro i at_ e ha hc hal k hk
    obtain ⟨k, rfl⟩ : ∃ j, k = j + 1 + 1 := ⟨k - 2, by omega⟩
    obtain ⟨r1, r2, r3⟩ := rd39 (x := conv t) (r := ts.map conv ++ [endT s]) e
    have hl := congrArg List.length e
    simp only [List.length_drop, List.map_cons, List.cons_append, List.length_cons, List.length_append, List.length_nil, List.length_map] at hl hk
    clear e
    obtain ⟨n, c1, c2, c3, c4, c5⟩ := hc
    rw [List.length_drop, data_size] at c2
    have hka := alone_kind (hal t List.mem_cons_self)
    have hne := (hal t List.mem_cons_self).1
    have hpos : 0 < t.text.length := by
      cases hh : t.text with
      | nil => exact absurd hh hne
      | cons a b => simp
    have hwf := white_seg s (by omega) at_ t.off (by omega) (by omega) (by rw [show t.off - at_ = n by omega]; exact c3) (k + 1) (by omega)
    have hrec := ih (i + 1) (t.off + t.text.length) r3 (by omega) (by
        rw [List.drop_drop] at c5
        rw [show t.off + t.text.length = at_ + n + t.text.length by omega, show at_ + n + t.text.length = at_ + (n + t.text.length) by omega]
        rw [show at_ + n + t.text.length = at_ + (n + t.text.length) by omega] at c5
        exact c5) (fun u hu => hal u (List.mem_cons_of_mem _ hu)) k (by omega)
    have q1 : (i : Int) < (L.length : Int) := by omega
    have q2 : (0 : Int) ≤ (i : Int) := by omega
    have q3 : ¬ (t.off : Int) < (at_ : Int) := by omega
    have q4 : (0 : Int) ≤ (t.off : Int) := by omega
    have q5 : (0 : Int) ≤ (at_ : Int) := by omega
    have q6 : (at_ : Int) ≤ (t.off : Int) := by omega
    have q7 : ¬ ((t.off + t.text.length : Nat) : Int) > (s.size : Int) := by omega
    have q8 : ((t.off + t.text.length : Nat) : Int) ≤ (s.size : Int) := by omega
    have q9 : (t.off : Int) ≤ ((t.off + t.text.length : Nat) : Int) := by omega
    have qa : (t.off : Int) ≤ (s.size : Int) := by omega
    have hle := last_ne i L.length (by omega) (by omega)
    have hi9 : i ≤ 100000 := by omega
    have hov : -9223372036854775808 ≤ (t.off : Int) + (t.text.length : Int) ∧ (t.off : Int) + (t.text.length : Int) ≤ 9223372036854775807 := by omega
    have hca : (t.off : Int) + (t.text.length : Int) = ((t.off + t.text.length : Nat) : Int) := by omega
    have hk4 : ((conv t).f0 == 4) = false := kind_ne hka
    have hto : (((t.off + t.text.length : Nat) : Int) == (conv t).f2) = false := to_ne t.off t.text.length hpos
    have hsz : (((conv t).f1).size : Int) = (t.text.length : Int) := by
      show ((t.text.toArray.size : Nat) : Int) = _
      rw [List.size_toArray]
    have hz : wrap64 ((conv t).f2 + ((conv t).f1.size : Int)) = ((t.off + t.text.length : Nat) : Int) := by
      rw [hsz]
      show wrap64 ((t.off : Int) + _) = _
      rw [w64 hov, hca]
    have hx : (s.extract ((conv t).f2).toNat (((t.off + t.text.length : Nat) : Int)).toNat).toList = ((conv t).f1).toList := by
      congr 1
      have := ext_tok s t.off t.text.length
      rw [hca] at this
      show s.extract ((t.off : Int)).toNat _ = (⟨t.text.toArray⟩ : ByteArray)
      rw [this]
      congr 2
      rw [c1, ← List.drop_drop]
      exact c4.symm
    rw [cov_l0 s (k + 1) at_ i _ L (conv t) false q1 q2 r1 hz q3 q7 q4 q9 q8 hx q5 q6 qa hwf hk4 hle hto, cov_j2 s k i _ L hi9, hrec]
theorem examples_ok4 : wireloomlaw08_examples.f 100000 = some true := by kernel_rfl
theorem covers_pure : wireloomlaw08_LexerCovers.Pure := by
  intro l0 a1 _ _ hu _
  obtain ⟨t, ht, hm⟩ := made_ok hu
  refine ⟨100000, ?_⟩
  rw [wireloomlaw08_LexerCovers.f, examples_ok4, Option.bind_some, if_pos rfl]
  by_cases h3 : (a1.size : Int) > 300
  · rw [decide_eq_true h3, wireloomlaw08_LexerCovers.j0, if_pos rfl]
  · have hca : (t ++ a1).size = t.size + a1.size := ByteArray.size_append ..
    rw [decide_eq_false h3, wireloomlaw08_LexerCovers.j0, if_neg (by decide), hm _ (by decide), Option.bind_some, if_pos (by omega), lexed_ok _ (by omega)]
    generalize t ++ a1 = s at hca
    have hd := data_size s
    cases hz : (lex 0 s.data.toList).2 with
    | none =>
      have hct := lex_count s.data.toList 0
      have hcv := lex_cov s.data.toList 0 hz
      have hal := lex_alone s.data.toList 0
      rw [lexR_none hz, Option.bind_some, if_pos rfl]
      generalize (lex 0 s.data.toList).1 = ts at hct hcv hal
      refine cov_run s (by omega) (ts.map conv ++ [endT s]) ?_ ts 0 0 rfl (by omega) hcv hal _ ?_
      · rw [List.length_append, List.length_map]; simp only [List.length_cons, List.length_nil]; omega
      · omega
    | some e =>
      obtain ⟨_, e1, e2, e3⟩ := lex_err _ 0 e hz
      rw [lexR_some hz, Option.bind_some, if_neg (by show ¬ (5 : Int) = 0; decide), if_pos rfl, if_pos (by show (e : Int) ≥ 0; omega), if_pos (by show (e : Int) < (s.size : Int); omega)]
      rfl
end Go.Proofs.YtoongglmgpilfaaDoor.L
