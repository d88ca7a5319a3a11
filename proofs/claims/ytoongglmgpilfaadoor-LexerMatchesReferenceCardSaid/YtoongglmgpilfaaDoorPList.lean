import Derived.Test.YtoongglmgpilfaaDoorPBase
namespace Go.Proofs.YtoongglmgpilfaaDoor.L
set_option linter.unusedVariables false
set_option linter.unusedSimpArgs false
namespace Lx
def isLow (c : UInt8) : Bool := 97 ≤ c && c ≤ 122
def isDig (c : UInt8) : Bool := 48 ≤ c && c ≤ 57
def isWord (c : UInt8) : Bool := isLow c || isDig c
def isWhite (c : UInt8) : Bool := c == 32 || c == 10
def signs : List UInt8 := [40, 41, 123, 125, 91, 93, 44, 59, 58, 61, 43, 45, 38, 124, 94, 126, 60, 63, 64, 35, 46]
def isSign (c : UInt8) : Bool := signs.contains c
def notNl (c : UInt8) : Bool := c != 10

/-- length of a sign at the head -/
def signLen (l : List UInt8) : Nat :=
  match l with
  | [] => 0
  | c :: r =>
    if (c == 45 && r.head? == some 62) || (c == 61 && r.head? == some 61) then 2
    else if isSign c then 1 else 0

inductive St where
  | skip (n : Nat)
  | tok (k : Int) (n : Nat)
  | bad

theorem signLen_cons (c : UInt8) (r : List UInt8) : signLen (c :: r) = if (c == 45 && r.head? == some 62) || (c == 61 && r.head? == some 61) then 2 else if isSign c then 1 else 0 := rfl

/-- is it a comment -/
def isCom (l : List UInt8) : Bool := l.head? == some 47 && (l.drop 1).head? == some 47

/-- what a file that isn't empty begins with -/
def step (l : List UInt8) : St :=
  match l with
  | [] => .bad
  | c :: r =>
    if isWhite c then .skip 1
    else if isCom (c :: r) then .skip ((c :: r).takeWhile notNl).length
    else if wk ((c :: r).takeWhile isWord) ≠ 0 then .tok (wk ((c :: r).takeWhile isWord)) ((c :: r).takeWhile isWord).length
    else if signLen (c :: r) ≠ 0 then .tok 3 (signLen (c :: r))
    else .bad

structure Tok where
  kind : Int
  text : List UInt8
  off : Nat
  deriving DecidableEq

/-- the tokens, and the offset of the error -/
def run : Nat → Nat → List UInt8 → List Tok × Option Nat
  | 0, _, _ => ([], none)
  | f + 1, at_, l =>
    match l with
    | [] => ([], none)
    | _ :: _ =>
      match step l with
      | .skip n => run f (at_ + n) (l.drop n)
      | .tok k n => let z := run f (at_ + n) (l.drop n); (⟨k, l.take n, at_⟩ :: z.1, z.2)
      | .bad => ([], some at_)

/-- what a step takes: at least one byte, and not more than there are -/
def St.len : St → Nat
  | .skip n => n
  | .tok _ n => n
  | .bad => 0

theorem takeWhile_le (p : UInt8 → Bool) (l : List UInt8) : (l.takeWhile p).length ≤ l.length := by induction l with
  | nil => simp
  | cons c r ih => rw [List.takeWhile_cons]; split <;> simp; exact ih

theorem signLen_le (l : List UInt8) : signLen l ≤ l.length := by
  unfold signLen
  split
  · simp
  · rename_i c r
    split
    · rename_i h
      cases r with
      | nil => simp at h
      | cons d r => simp
    · split <;> simp

theorem step_le (l : List UInt8) : (step l).len ≤ l.length := by
  unfold step
  split
  · simp [St.len]
  · rename_i c r
    split
    · simp [St.len]
    · split
      · exact takeWhile_le _ _
      · split
        · exact takeWhile_le _ _
        · split
          · simp only [St.len]; exact signLen_le (c :: r)
          · simp [St.len]

theorem com_pos {c : UInt8} {r : List UInt8} (h : isCom (c :: r) = true) : 1 ≤ ((c :: r).takeWhile notNl).length := by
  simp [isCom] at h
  rw [List.takeWhile_cons]
  simp [notNl, h.1]

theorem step_pos_skip {l : List UInt8} {n : Nat} (h : step l = .skip n) : 1 ≤ n := by
  unfold step at h
  split at h
  · cases h
  · rename_i c r
    split at h
    · injection h with h; omega
    · split at h
      · rename_i h2
        injection h with h
        have := com_pos h2
        omega
      · split at h
        · cases h
        · split at h <;> cases h

theorem step_pos_tok {l : List UInt8} {k : Int} {n : Nat} (h : step l = .tok k n) : 1 ≤ n := by
  unfold step at h
  split at h
  · cases h
  · rename_i c r
    split at h
    · cases h
    · split at h
      · cases h
      · split at h
        · rename_i h3
          injection h with _ h
          cases e : (c :: r).takeWhile isWord with
          | nil => rw [e] at h3; exact absurd rfl h3
          | cons a b => rw [e] at h; simp at h; omega
        · split at h
          · injection h with _ h; omega
          · cases h

/-- enough rounds are enough -/
theorem run_fuel : ∀ (f g at_ : Nat) (l : List UInt8), l.length ≤ f → l.length ≤ g → run f at_ l = run g at_ l := by
  intro f
  induction f with
  | zero =>
    intro g at_ l hf hg
    have : l = [] := List.length_eq_zero_iff.1 (by omega)
    subst this
    cases g <;> simp [run]
  | succ f ih =>
    intro g at_ l hf hg
    cases g with
    | zero =>
      have : l = [] := List.length_eq_zero_iff.1 (by omega)
      subst this
      simp [run]
    | succ g =>
      cases l with
      | nil => simp [run]
      | cons c r =>
        simp only [run]
        cases h : step (c :: r) with
        | skip n =>
          have := step_pos_skip h
          simp only [List.length_cons] at hf hg
          exact ih g _ _ (by simp; omega) (by simp; omega)
        | tok k n =>
          have := step_pos_tok h
          simp only [List.length_cons] at hf hg
          simp only []
          rw [ih g _ _ (by simp; omega) (by simp; omega)]
        | bad => rfl

def lex (at_ : Nat) (l : List UInt8) : List Tok × Option Nat := run l.length at_ l

theorem lex_nil (at_ : Nat) : lex at_ [] = ([], none) := by simp [lex, run]
theorem lex_skip {l : List UInt8} {n : Nat} (at_ : Nat) (h : step l = .skip n) : lex at_ l = lex (at_ + n) (l.drop n) := by
  have := step_pos_skip h
  cases l with
  | nil => simp [step] at h
  | cons c r =>
    unfold lex
    simp only [List.length_cons, run, h]
    exact run_fuel _ _ _ _ (by simp; omega) (by simp)
theorem lex_tok {l : List UInt8} {k : Int} {n : Nat} (at_ : Nat) (h : step l = .tok k n) :
    lex at_ l = (⟨k, l.take n, at_⟩ :: (lex (at_ + n) (l.drop n)).1, (lex (at_ + n) (l.drop n)).2) := by
  have := step_pos_tok h
  cases l with
  | nil => simp [step] at h
  | cons c r =>
    unfold lex
    simp only [List.length_cons, run, h]
    rw [run_fuel r.length ((c :: r).drop n).length _ _ (by simp; omega) (by simp)]
theorem lex_bad {l : List UInt8} (at_ : Nat) (hl : l ≠ []) (h : step l = .bad) : lex at_ l = ([], some at_) := by
  cases l with
  | nil => exact absurd rfl hl
  | cons c r => unfold lex; simp only [List.length_cons, run, h]

/-- Induction along the steps of a file. -/
theorem lex_induct {P : List UInt8 → Prop} (h0 : P [])
    (hs : ∀ l n, l ≠ [] → step l = .skip n → 1 ≤ n → n ≤ l.length → P (l.drop n) → P l)
    (ht : ∀ l k n, l ≠ [] → step l = .tok k n → 1 ≤ n → n ≤ l.length → P (l.drop n) → P l)
    (hb : ∀ l, l ≠ [] → step l = .bad → P l) : ∀ l, P l := by
  intro l
  generalize hn : l.length = N
  induction N using Nat.strongRecOn generalizing l with
  | _ N ih =>
    by_cases hl : l = []
    · subst hl; exact h0
    · cases h : step l with
      | skip n =>
        have h1 := step_pos_skip h
        have h2 : n ≤ l.length := by have := step_le l; rw [h] at this; exact this
        have h3 : 0 < l.length := List.length_pos_iff.2 hl
        exact hs l n hl h h1 h2 (ih (l.length - n) (by omega) _ (by simp))
      | tok k n =>
        have h1 := step_pos_tok h
        have h2 : n ≤ l.length := by have := step_le l; rw [h] at this; exact this
        have h3 : 0 < l.length := List.length_pos_iff.2 hl
        exact ht l k n hl h h1 h2 (ih (l.length - n) (by omega) _ (by simp))
      | bad => exact hb l hl h

/-! ### what stands behind -/
theorem takeWhile_ext (p : UInt8 → Bool) (l m : List UInt8) (c : UInt8) (hc : p c = false) : (l ++ c :: m).takeWhile p = l.takeWhile p := by
  induction l with
  | nil => simp [hc]
  | cons a r ih => simp only [List.cons_append, List.takeWhile_cons, ih]
theorem takeWhile_more (p : UInt8 → Bool) (l x : List UInt8) (h : (l.takeWhile p).length < l.length) : (l ++ x).takeWhile p = l.takeWhile p := by
  induction l with
  | nil => simp at h
  | cons a r ih =>
    simp only [List.cons_append, List.takeWhile_cons] at h ⊢
    split
    · rename_i ha
      rw [ha] at h
      simp at h
      rw [ih h]
    · rfl
theorem takeWhile_all (p : UInt8 → Bool) (l : List UInt8) (h : ¬ (l.takeWhile p).length < l.length) : l.takeWhile p = l := by
  have h1 := takeWhile_le p l
  have h2 := List.takeWhile_prefix p (l := l)
  exact h2.eq_of_length (by omega)
theorem takeWhile_take (p : UInt8 → Bool) (l : List UInt8) : ∀ q, (l.take q).takeWhile p = (l.takeWhile p).take q := by
  induction l with
  | nil => intro q; simp
  | cons a r ih =>
    intro q
    cases q with
    | zero => simp
    | succ q =>
      simp only [List.take_succ_cons, List.takeWhile_cons]
      split
      · simp [ih q]
      · simp
theorem signs_word : ∀ c ∈ signs, isWord c = false := by decide
theorem sign_head {a : UInt8} {r : List UInt8} (h : signLen (a :: r) ≠ 0) : isWord a = false := by
  unfold signLen at h
  simp only [] at h
  split at h
  · rename_i h1
    have : a = 45 ∨ a = 61 := by
      simp at h1
      rcases h1 with ⟨h1, _⟩ | ⟨h1, _⟩
      · exact Or.inl h1
      · exact Or.inr h1
    rcases this with rfl | rfl <;> decide
  · split at h
    · rename_i h2
      exact signs_word a (by simpa [isSign] using h2)
    · exact absurd rfl h
theorem signLen_ext {l m : List UInt8} {c : UInt8} (hc : c = 32 ∨ c = 10) (hl : l ≠ []) : signLen (l ++ c :: m) = signLen l := by
  match l, hl with
  | [a], _ =>
    have h1 : (some c == some (62 : UInt8)) = false := by rcases hc with rfl | rfl <;> decide
    have h2 : (some c == some (61 : UInt8)) = false := by rcases hc with rfl | rfl <;> decide
    simp only [List.singleton_append, signLen, List.head?_cons, h1, h2, List.head?_nil]
    rfl
  | a :: b :: r, _ => simp [signLen]
theorem com_ext {l m : List UInt8} {c : UInt8} (hc : c = 32 ∨ c = 10) (hl : l ≠ []) : isCom (l ++ c :: m) = isCom l := by
  match l, hl with
  | [a], _ =>
    have h1 : (some c == some (47 : UInt8)) = false := by rcases hc with rfl | rfl <;> decide
    simp only [List.singleton_append, isCom, List.head?_cons, List.drop_succ_cons, List.drop_zero, h1, List.head?_nil]
    rfl
  | a :: b :: r, _ => simp [isCom]
theorem sep_word {c : UInt8} (hc : c = 32 ∨ c = 10) : isWord c = false := by rcases hc with rfl | rfl <;> decide

theorem step_cons (c : UInt8) (r : List UInt8) : step (c :: r) = if isWhite c then .skip 1
    else if isCom (c :: r) then .skip ((c :: r).takeWhile notNl).length
    else if wk ((c :: r).takeWhile isWord) ≠ 0 then .tok (wk ((c :: r).takeWhile isWord)) ((c :: r).takeWhile isWord).length
    else if signLen (c :: r) ≠ 0 then .tok 3 (signLen (c :: r))
    else .bad := rfl

/-- A separator behind a file's rest leaves its first step as it was, but for a comment without an end. -/
theorem step_ext {l m : List UInt8} {c : UInt8} (hc : c = 32 ∨ c = 10) (hl : l ≠ []) : step (l ++ c :: m) = step l ∨ (c = 32 ∧ step l = .skip l.length ∧ isCom l = true ∧ l.takeWhile notNl = l) := by
  match l, hl with
  | a :: r, hl =>
    have e1 := com_ext (m := m) hc hl
    have e2 := signLen_ext (m := m) hc hl
    have e3 := takeWhile_ext isWord (a :: r) m c (sep_word hc)
    have hs := step_cons a r
    have hs' := step_cons a (r ++ c :: m)
    rw [← List.cons_append] at hs'
    rw [e1, e2, e3] at hs'
    by_cases hw : isWhite a = true
    · left; rw [hs, hs', if_pos hw, if_pos hw]
    · by_cases hcm : isCom (a :: r) = true
      · by_cases h10 : c = 10
        · left
          rw [hs, hs', if_neg hw, if_neg hw, if_pos hcm, if_pos hcm, takeWhile_ext notNl (a :: r) m c (by subst h10; decide)]
        · by_cases hlt : ((a :: r).takeWhile notNl).length < (a :: r).length
          · left
            rw [hs, hs', if_neg hw, if_neg hw, if_pos hcm, if_pos hcm, takeWhile_more notNl (a :: r) _ hlt]
          · right
            have ha := takeWhile_all notNl _ hlt
            refine ⟨hc.resolve_right h10, ?_, hcm, ha⟩
            rw [hs, if_neg hw, if_pos hcm, ha]
      · left; rw [hs, hs', if_neg hw, if_neg hw, if_neg hcm, if_neg hcm]

/-- As much of a file as its first step takes, or more, has the same first step. -/
theorem step_take {l : List UInt8} {q : Nat} (hq : (step l).len ≤ q) (hn : step l ≠ .bad) : step (l.take q) = step l := by
  match l with
  | [] => simp
  | a :: r =>
    have hs := step_cons a r
    have hp : 1 ≤ (step (a :: r)).len := by
      cases h : step (a :: r) with
      | skip n => exact step_pos_skip h
      | tok k n => exact step_pos_tok h
      | bad => exact absurd h hn
    obtain ⟨q, rfl⟩ : ∃ j, q = j + 1 := ⟨q - 1, by omega⟩
    have hs' := step_cons a (r.take q)
    rw [← List.take_succ_cons, takeWhile_take, takeWhile_take] at hs'
    by_cases hw : isWhite a = true
    · rw [hs, hs', if_pos hw, if_pos hw]
    · by_cases hcm : isCom (a :: r) = true
      · rw [if_neg hw, if_pos hcm] at hs
        rw [hs] at hq
        simp only [St.len] at hq
        have h2 : 2 ≤ ((a :: r).takeWhile notNl).length := by
          simp [isCom] at hcm
          obtain ⟨rfl, h47⟩ := hcm
          cases r with
          | nil => simp at h47
          | cons b r =>
            simp at h47
            subst h47
            simp [List.takeWhile_cons, notNl]
        have hcm' : isCom ((a :: r).take (q + 1)) = true := by
          cases r with
          | nil => simp [isCom] at hcm
          | cons b r =>
            obtain ⟨q, rfl⟩ : ∃ j, q = j + 1 := ⟨q - 1, by omega⟩
            simpa [isCom] using hcm
        rw [hs, hs', if_neg hw, if_pos hcm', List.take_of_length_le hq]
      · have hcm' : ¬ isCom ((a :: r).take (q + 1)) = true := by
          intro h
          apply hcm
          cases r with
          | nil => simp [isCom] at h
          | cons b r =>
            cases q with
            | zero => simp [isCom] at h
            | succ q => simpa [isCom] using h
        rw [if_neg hw, if_neg hcm] at hs
        rw [if_neg hw, if_neg hcm'] at hs'
        by_cases hk : wk ((a :: r).takeWhile isWord) ≠ 0
        · rw [if_pos hk] at hs
          rw [hs] at hq
          rw [List.take_of_length_le hq, if_pos hk] at hs'
          rw [hs, hs']
        · rw [if_neg hk] at hs
          by_cases hsg : signLen (a :: r) ≠ 0
          · rw [if_pos hsg] at hs
            rw [hs] at hq
            simp only [St.len] at hq
            have hnw := sign_head hsg
            have e : (a :: r).takeWhile isWord = [] := by simp [hnw]
            have hsg' : signLen ((a :: r).take (q + 1)) = signLen (a :: r) := by
              cases q with
              | succ q =>
                cases r with
                | nil => simp
                | cons b r => simp [signLen]
              | zero =>
                have h1 : signLen (a :: r) = 1 := by omega
                rw [h1]
                rw [signLen_cons] at h1
                rw [List.take_succ_cons, List.take_zero, signLen_cons]
                by_cases hx : ((a == 45 && r.head? == some 62) || (a == 61 && r.head? == some 61)) = true
                · rw [if_pos hx] at h1; cases h1
                · rw [if_neg hx] at h1
                  rw [if_neg (by simp)]
                  exact h1
            rw [e] at hs' hk
            rw [List.take_nil, if_neg hk, hsg', if_pos hsg] at hs'
            rw [hs, hs']
          · rw [if_neg hsg] at hs
            exact absurd hs hn

/-! ### the laws -/
/-- What stands before an error lexes; what comes behind a separator does not change it. -/
theorem lex_err : ∀ l : List UInt8, ∀ at_ e, (lex at_ l).2 = some e → at_ ≤ e ∧ e < at_ + l.length ∧ (lex at_ (l.take (e - at_))).2 = none ∧ ∀ c m, c = 32 ∨ c = 10 → (lex at_ (l ++ c :: m)).2 = some e := by
  refine lex_induct ?_ ?_ ?_ ?_
  · intro at_ e h; rw [lex_nil] at h; cases h
  · intro l n hl hs h1 h2 ih at_ e h
    rw [lex_skip at_ hs] at h
    obtain ⟨a, b, c, d⟩ := ih _ _ h
    rw [List.length_drop] at b
    refine ⟨by omega, by omega, ?_, ?_⟩
    · rw [lex_skip at_ ((step_take (by rw [hs]; show n ≤ e - at_; omega) (by rw [hs]; simp)).trans hs), List.drop_take]
      rw [show e - at_ - n = e - (at_ + n) by omega]
      exact c
    · intro c' m hc'
      rcases step_ext (m := m) hc' hl with hx | ⟨_, hx, _⟩
      · rw [lex_skip at_ (hx.trans hs), List.drop_append_of_le_length h2]
        exact d c' m hc'
      · rw [hs] at hx
        injection hx with hx
        omega
  · intro l k n hl hs h1 h2 ih at_ e h
    rw [lex_tok at_ hs] at h
    obtain ⟨a, b, c, d⟩ := ih _ _ h
    rw [List.length_drop] at b
    refine ⟨by omega, by omega, ?_, ?_⟩
    · rw [lex_tok at_ ((step_take (by rw [hs]; show n ≤ e - at_; omega) (by rw [hs]; simp)).trans hs), List.drop_take]
      rw [show e - at_ - n = e - (at_ + n) by omega]
      exact c
    · intro c' m hc'
      rcases step_ext (m := m) hc' hl with hx | ⟨_, hx, _⟩
      · rw [lex_tok at_ (hx.trans hs), List.drop_append_of_le_length h2]
        exact d c' m hc'
      · rw [hs] at hx
        cases hx
  · intro l hl hs at_ e h
    rw [lex_bad at_ hl hs] at h
    have h3 : 0 < l.length := List.length_pos_iff.2 hl
    injection h with h
    subst h
    refine ⟨by omega, by omega, ?_, ?_⟩
    · rw [Nat.sub_self, List.take_zero, lex_nil]
    · intro c' m hc'
      rcases step_ext (m := m) hc' hl with hx | ⟨_, hx, _⟩
      · rw [lex_bad at_ (by simp) (hx.trans hs)]
      · rw [hs] at hx; cases hx

/-- a token that stands alone -/
def Alone (t : Tok) : Prop := t.text ≠ [] ∧ step t.text = .tok t.kind t.text.length
theorem lex_alone : ∀ l : List UInt8, ∀ at_, ∀ t ∈ (lex at_ l).1, Alone t := by
  refine lex_induct ?_ ?_ ?_ ?_
  · intro at_ t h; rw [lex_nil] at h; simp at h
  · intro l n hl hs h1 h2 ih at_ t h
    rw [lex_skip at_ hs] at h
    exact ih _ t h
  · intro l k n hl hs h1 h2 ih at_ t h
    rw [lex_tok at_ hs] at h
    simp only [List.mem_cons] at h
    rcases h with rfl | h
    · have hlen : (l.take n).length = n := by rw [List.length_take]; omega
      refine ⟨fun e => ?_, ?_⟩
      · have e : l.take n = [] := e
        rw [e] at hlen; simp at hlen; omega
      · show step (l.take n) = .tok k (l.take n).length
        rw [hlen]
        exact (step_take (by rw [hs]; exact Nat.le_refl _) (by rw [hs]; simp)).trans hs
    · exact ih _ t h
  · intro l hl hs at_ t h
    rw [lex_bad at_ hl hs] at h
    simp at h

/-- the texts, with a blank between them -/
def joined : List Tok → List UInt8
  | [] => []
  | [t] => t.text
  | t :: u :: r => t.text ++ 32 :: joined (u :: r)
theorem lex_joined : ∀ (ts : List Tok), (∀ t ∈ ts, Alone t) → ∀ at_, (lex at_ (joined ts)).2 = none ∧ (lex at_ (joined ts)).1.map (fun t => (t.kind, t.text)) = ts.map (fun t => (t.kind, t.text)) := by
  intro ts
  induction ts with
  | nil => intro _ at_; rw [joined, lex_nil]; exact ⟨rfl, rfl⟩
  | cons t r ih =>
    intro h at_
    obtain ⟨hne, hst⟩ := h t (by simp)
    cases r with
    | nil =>
      rw [joined, lex_tok at_ hst, List.drop_length, lex_nil]
      simp
    | cons u r =>
      obtain ⟨i1, i2⟩ := ih (fun t ht => h t (by simp at ht ⊢; right; exact ht)) (at_ + t.text.length + 1)
      rw [joined]
      have hx : step (t.text ++ 32 :: joined (u :: r)) = .tok t.kind t.text.length := by
        rcases step_ext (m := joined (u :: r)) (Or.inl rfl) hne with hx | ⟨_, hx, _⟩
        · exact hx.trans hst
        · rw [hst] at hx; cases hx
      rw [lex_tok at_ hx, List.drop_left, List.take_left]
      have hw : step (32 :: joined (u :: r)) = .skip 1 := by rw [step_cons, if_pos (by decide)]
      rw [lex_skip _ hw, List.drop_succ_cons, List.drop_zero]
      exact ⟨i1, by rw [List.map_cons, List.map_cons, i2]⟩

/-- the kind of a whole string -/
def kd (l : List UInt8) : Int := match step l with | .tok k n => if n = l.length then k else 0 | _ => 0
theorem kd_alone {t : Tok} (h : Alone t) : kd t.text = t.kind := by unfold kd; rw [h.2]; simp
theorem lex_sub : ∀ l : List UInt8, ∀ at_, ∀ t ∈ (lex at_ l).1, t.text.length ≤ l.length := by
  refine lex_induct ?_ ?_ ?_ ?_
  · intro at_ t h; rw [lex_nil] at h; simp at h
  · intro l n hl hs h1 h2 ih at_ t h
    rw [lex_skip at_ hs] at h
    have := ih _ t h
    rw [List.length_drop] at this; omega
  · intro l k n hl hs h1 h2 ih at_ t h
    rw [lex_tok at_ hs] at h
    simp only [List.mem_cons] at h
    rcases h with rfl | h
    · rw [List.length_take]; omega
    · have := ih _ t h
      rw [List.length_drop] at this; omega
  · intro l hl hs at_ t h
    rw [lex_bad at_ hl hs] at h
    simp at h
theorem kd_one (l : List UInt8) : kd l ≠ 0 → lex 0 l = ([⟨kd l, l, 0⟩], none) := by
  intro h
  unfold kd at h ⊢
  cases hs : step l with
  | skip n => rw [hs] at h; exact absurd rfl h
  | bad => rw [hs] at h; exact absurd rfl h
  | tok k n =>
    rw [hs] at h
    simp only [] at h ⊢
    split at h
    · rename_i e
      rw [if_pos e, lex_tok 0 hs, e, List.drop_length, lex_nil, List.take_length]
    · exact absurd rfl h
theorem one_kd (l : List UInt8) (t : Tok) (h : lex 0 l = ([t], none)) (ht : t.text = l) (hl : l ≠ []) : kd l = t.kind := by
  have h3 : 0 < l.length := List.length_pos_iff.2 hl
  cases hs : step l with
  | skip n =>
    rw [lex_skip 0 hs] at h
    have h1 := step_pos_skip hs
    have := lex_sub (l.drop n) (0 + n) t (by rw [h]; simp)
    rw [ht, List.length_drop] at this
    omega
  | bad => rw [lex_bad 0 hl hs] at h; cases h
  | tok k n =>
    rw [lex_tok 0 hs] at h
    simp only [Prod.mk.injEq, List.cons.injEq] at h
    obtain ⟨⟨rfl, _⟩, _⟩ := h
    have ht : l.take n = l := ht
    have h2 : n = l.length := by
      have e1 : (l.take n).length = l.length := by rw [ht]
      have e2 := step_le l
      rw [hs] at e2
      simp only [St.len] at e2
      rw [List.length_take] at e1
      omega
    unfold kd
    rw [hs]
    simp only []
    rw [if_pos h2]
end Lx
end Go.Proofs.YtoongglmgpilfaaDoor.L
