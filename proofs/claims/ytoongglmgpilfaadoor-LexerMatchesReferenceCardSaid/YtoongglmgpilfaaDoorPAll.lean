/- Several texts of this claim in one (wip/merge.py). -/
import Derived.Test.YtoongglmgpilfaaDoorPMore
import Derived.Test.YtoongglmgpilfaaDoorLx2
import Derived.Test.YtoongglmgpilfaaDoorPBase
import Derived.Test.YtoongglmgpilfaaDoorPRef
import Derived.Test.YtoongglmgpilfaaDoorLx8
import Derived.Test.YtoongglmgpilfaaDoorLmr
namespace Go.Proofs.YtoongglmgpilfaaDoor.L
set_option linter.unusedVariables false
set_option linter.unusedSimpArgs false
open Go.RowKit Go.Proofs.YtoongglmgpilfaaDoorW.PrintWords Go.Proofs.YtoongglmgpilfaaDoorW.PrintLast Lx

theorem joined_eq : ∀ ts : List Tok, joined ts = Lib.join (ts.map Tok.text) [32]
  | [] => rfl
  | [t] => by rw [joined]; simp [Lib.join, List.intercalate]
  | t :: u :: r => by
    rw [joined, joined_eq (u :: r)]
    unfold Lib.join
    simp [List.intercalate]
theorem joined_len (a : Tok) (r : List Tok) : (joined (a :: r)).length ≤ a.text.length + 1 + (joined r).length := by
  cases r with
  | nil => show a.text.length ≤ a.text.length + 1 + 0; omega
  | cons b r => rw [joined]; simp only [List.length_append, List.length_cons]; omega
theorem lex_join_len : ∀ l : List UInt8, ∀ at_, (joined (lex at_ l).1).length ≤ 2 * l.length := by
  refine lex_induct ?_ ?_ ?_ ?_
  · intro at_; rw [lex_nil, joined]; exact Nat.zero_le _
  · intro l n hl hs h1 h2 ih at_
    rw [lex_skip at_ hs]
    have := ih (at_ + n)
    rw [List.length_drop] at this; omega
  · intro l k n hl hs h1 h2 ih at_
    rw [lex_tok at_ hs]
    have := ih (at_ + n)
    have h := joined_len ⟨k, l.take n, at_⟩ (lex (at_ + n) (l.drop n)).1
    have h3 : (l.take n).length = n := by rw [List.length_take]; omega
    rw [List.length_drop] at this
    have h' : (joined (⟨k, l.take n, at_⟩ :: (lex (at_ + n) (l.drop n)).1)).length ≤ (l.take n).length + 1 + (joined (lex (at_ + n) (l.drop n)).1).length := h
    simp only [] at h' ⊢
    omega
  · intro l hl hs at_
    rw [lex_bad at_ hl hs, joined]
    exact Nat.zero_le _

/-- the texts of tokens, joined -/
def jo (ts : List Tok) : ByteArray := ⟨(joined ts).toArray⟩
theorem jo_eq (ts : List Tok) : joinB (ts.map fun t => (conv t).f1) ⟨#[32]⟩ = jo ts := by
  unfold joinB jo
  rw [joined_eq, List.map_map]
  rfl
theorem join_loop (ts : List Tok) (hts : ∀ t ∈ ts, Alone t) (hl : ts.length ≤ 4000) (hj : (joined ts).length ≤ 8000) (s : ByteArray) : ∀ (m i : Nat), i + m = ts.length → ∀ k, m + 2 ≤ k →
    lexer_Join.l0 k ((ts.take i).map fun t => (conv t).f1) (ts.map conv ++ [endT s]) ((ts.map conv ++ [endT s]).length : Int) i = some (jo ts) := by
  intro m
  have hlen : (ts.map conv ++ [endT s]).length = ts.length + 1 := by simp
  induction m with
  | zero =>
    intro i hi k hk
    obtain ⟨k, rfl⟩ : ∃ j, k = j + 1 + 1 := ⟨k - 2, by omega⟩
    have hi' : i = ts.length := by omega
    subst hi'
    have hrd : rd_T39 (ts.map conv ++ [endT s]) ts.length = endT s := by
      unfold rd_T39
      rw [List.getD_eq_getElem?_getD, Int.toNat_natCast, List.getElem?_append_right (by rw [List.length_map]; exact Nat.le_refl _), List.length_map, Nat.sub_self]
      rfl
    have hw : wrap64 ((ts.length : Int) + 1) = ((ts.length + 1 : Nat) : Int) := by rw [w64 (by omega)]; omega
    rw [lexer_Join.l0, hrd, if_pos (by rw [hlen]; omega), if_pos (by omega), if_pos (by rw [hlen]; omega), if_pos (show (endT s).f0 = 4 from rfl), hw, lexer_Join.l0, if_neg (by rw [hlen]; omega), List.take_length]
    unfold strings_Join.f
    rw [jo_eq, if_pos ⟨by rw [List.length_map]; omega, by show (joined ts).toArray.size ≤ _; rw [List.size_toArray]; omega⟩]
    rfl
  | succ m ih =>
    intro i hi k hk
    obtain ⟨k, rfl⟩ : ∃ j, k = j + 1 := ⟨k - 1, by omega⟩
    have hlt : i < ts.length := by omega
    have hw : wrap64 ((i : Int) + 1) = ((i + 1 : Nat) : Int) := by rw [w64 (by omega)]; omega
    have hrd : rd_T39 (ts.map conv ++ [endT s]) i = conv ts[i] := by
      unfold rd_T39
      rw [List.getD_eq_getElem?_getD, Int.toNat_natCast, List.getElem?_append_left (by rw [List.length_map]; exact hlt), List.getElem?_map, List.getElem?_eq_getElem hlt]
      rfl
    have ha := alone_kind (hts ts[i] (List.getElem_mem hlt))
    have h4 : ¬ (conv ts[i]).f0 = 4 := by show ¬ ts[i].kind = 4; omega
    have ihn := ih (i + 1) (by omega) k (by omega)
    rw [List.take_add_one, List.getElem?_eq_getElem hlt, List.map_append] at ihn
    rw [lexer_Join.l0, hrd, if_pos (by rw [hlen]; omega), if_pos (by omega), if_pos (by rw [hlen]; omega), if_neg h4, hw, if_pos (by rw [List.length_map, List.length_take]; omega)]
    exact ihn
theorem Join_ok (ts : List Tok) (hts : ∀ t ∈ ts, Alone t) (hl : ts.length ≤ 4000) (hj : (joined ts).length ≤ 8000) (s : ByteArray) (k : Nat) (hk : 4002 ≤ k) : lexer_Join.f k (ts.map conv ++ [endT s]) = some (jo ts) := by
  have := join_loop ts hts hl hj s ts.length 0 (by omega) k (by omega)
  exact this
end Go.Proofs.YtoongglmgpilfaaDoor.L
namespace Go.Proofs.YtoongglmgpilfaaDoor.L
set_option linter.unusedVariables false
set_option linter.unusedSimpArgs false
open Go.RowKit Go.Proofs.YtoongglmgpilfaaDoorW.PrintWords Go.Proofs.YtoongglmgpilfaaDoorW.PrintLast Lx

theorem lex_off : ∀ l : List UInt8, ∀ at_, ∀ t ∈ (lex at_ l).1, t.off ≤ at_ + l.length := by
  refine lex_induct ?_ ?_ ?_ ?_
  · intro at_ t h; rw [lex_nil] at h; simp at h
  · intro l n hl hs h1 h2 ih at_ t h
    rw [lex_skip at_ hs] at h
    have := ih _ t h
    rw [List.length_drop] at this; omega
  · intro l k n hl hs h1 h2 ih at_ t h
    rw [lex_tok at_ hs] at h
    simp only [List.mem_cons] at h
    rcases h with rfl | h
    · show at_ ≤ _; omega
    · have := ih _ t h
      rw [List.length_drop] at this; omega
  · intro l hl hs at_ t h
    rw [lex_bad at_ hl hs] at h
    simp at h

theorem same_loop (L L' : List S39) (by_ : Int) (hll : L.length = L'.length) (hL : L.length ≤ 9000)
    (h : ∀ i (h1 : i < L.length) (h2 : i < L'.length), L[i].f0 = L'[i].f0 ∧ L[i].f1 = L'[i].f1 ∧ wrap64 (L[i].f2 + by_) = L'[i].f2) : ∀ (m i : Nat), i + m = L.length → ∀ k, m + 1 ≤ k →
    wireloomref08_Same.l0 k L L' by_ i = some true := by
  intro m
  induction m with
  | zero =>
    intro i hi k hk
    obtain ⟨k, rfl⟩ : ∃ j, k = j + 1 := ⟨k - 1, by omega⟩
    rw [wireloomref08_Same.l0, if_neg (by omega)]
  | succ m ih =>
    intro i hi k hk
    obtain ⟨k, rfl⟩ : ∃ j, k = j + 1 := ⟨k - 1, by omega⟩
    have hw : wrap64 ((i : Int) + 1) = ((i + 1 : Nat) : Int) := by rw [w64 (by omega)]; omega
    have h1 : i < L.length := by omega
    have h2 : i < L'.length := by omega
    have hr1 : rd_T39 L i = L[i] := by
      unfold rd_T39
      rw [List.getD_eq_getElem?_getD, Int.toNat_natCast, List.getElem?_eq_getElem h1]
      rfl
    have hr2 : rd_T39 L' i = L'[i] := by
      unfold rd_T39
      rw [List.getD_eq_getElem?_getD, Int.toNat_natCast, List.getElem?_eq_getElem h2]
      rfl
    obtain ⟨a1, a2, a3⟩ := h i h1 h2
    rw [wireloomref08_Same.l0, if_pos (by omega), if_pos (by omega), if_pos (by omega), hr1, hr2, if_pos a1, if_pos (by rw [a2]), if_pos a3, hw]
    exact ih (i + 1) (by omega) k (by omega)
theorem same_ok (L L' : List S39) (by_ : Int) (hll : L.length = L'.length) (hL : L.length ≤ 9000)
    (h : ∀ i (h1 : i < L.length) (h2 : i < L'.length), L[i].f0 = L'[i].f0 ∧ L[i].f1 = L'[i].f1 ∧ wrap64 (L[i].f2 + by_) = L'[i].f2) (k : Nat) (hk : 9001 ≤ k) : wireloomref08_Same.f k L L' by_ = some true := by
  unfold wireloomref08_Same.f
  rw [if_pos (by omega)]
  exact same_loop L L' by_ hll hL h L.length 0 (by omega) k (by omega)

end Go.Proofs.YtoongglmgpilfaaDoor.L
namespace Go.Proofs.YtoongglmgpilfaaDoor.L
set_option linter.unusedVariables false
set_option linter.unusedSimpArgs false
open Go.RowKit Go.Proofs.YtoongglmgpilfaaDoorW.PrintWords Go.Proofs.YtoongglmgpilfaaDoorW.PrintLast

theorem ext0_list (s : ByteArray) (n : Nat) : (s.extract 0 n).data.toList = s.data.toList.take n := by
  rw [ByteArray.data_extract, Array.toList_extract]
  simp
theorem count_step (s : ByteArray) (n : Nat) (h : n < s.size) :
    (Lib.countByte (s.extract 0 (n + 1)).data.toList 10 : Int) = Lib.countByte (s.extract 0 n).data.toList 10 + (if bt s n = 10 then 1 else 0) := by
  rw [ext0_list, ext0_list, List.take_add_one]
  unfold Lib.countByte
  rw [List.count_append, bt_get s n h]
  have hl : n < s.data.toList.length := by rw [data_size]; exact h
  rw [List.getElem?_eq_getElem hl]
  generalize s.data.toList[n] = b
  have hb : ((b.toNat : Int) = 10) ↔ b = 10 := by
    constructor
    · intro e
      apply UInt8.toNat_inj.1
      show b.toNat = 10
      omega
    · rintro rfl
      rfl
  by_cases e : b = 10
  · rw [if_pos (hb.2 e)]
    subst e
    simp
  · rw [if_neg (fun x => e (hb.1 x))]
    simp [List.count_cons, e]
theorem count_le (s : ByteArray) (n : Nat) (h : n ≤ s.size) : Lib.countByte (s.extract 0 n).data.toList 10 ≤ n := by
  rw [ext0_list]
  unfold Lib.countByte
  refine Nat.le_trans (List.count_le_length) ?_
  rw [List.length_take]
  exact Nat.min_le_left _ _
theorem lastIdx_congr (s t : ByteArray) (c : Int) (k : Nat) (h : ∀ j, j < k → s.data[j]! = t.data[j]!) : Lib.lastIdx s c k = Lib.lastIdx t c k := by
  induction k with
  | zero => rfl
  | succ k ih =>
    unfold Lib.lastIdx
    rw [h k (by omega), ih (fun j hj => h j (by omega))]
theorem lastIdx_lt (s : ByteArray) (c : Int) (k : Nat) : -1 ≤ Lib.lastIdx s c k ∧ Lib.lastIdx s c k < k := by
  rcases Lib.lastIdx_spec s c k with ⟨e, _⟩ | ⟨i, hi, e, _⟩ <;> omega
theorem ext0_get (s : ByteArray) (n j : Nat) (hj : j < n) (hn : n ≤ s.size) : (s.extract 0 n).data[j]! = s.data[j]! := by
  rw [ByteArray.data_extract, getElem!_def, getElem!_def, Array.getElem?_extract]
  have : n ≤ s.data.size := hn
  rw [if_pos (show j < min n s.data.size - 0 by omega), Nat.zero_add]
theorem last_eq (s : ByteArray) (n : Nat) (hn : n ≤ s.size) : Lib.lastIndexByte (s.extract 0 n) 10 = Lib.lastIdx s 10 n := by
  unfold Lib.lastIndexByte
  rw [show (s.extract 0 n).size = n by simp only [ByteArray.size_extract]; omega]
  exact lastIdx_congr _ _ _ _ (fun j hj => ext0_get s n j hj hn)
theorem last_step (s : ByteArray) (n : Nat) (h : n < s.size) :
    Lib.lastIndexByte (s.extract 0 (n + 1)) 10 = if bt s n = 10 then (n : Int) else Lib.lastIndexByte (s.extract 0 n) 10 := by
  rw [last_eq s (n + 1) (by omega), last_eq s n (by omega), Lib.lastIdx]
  have : ((s.data[n]!).toNat : Int) = bt s n := by
    rw [bt_get s n h]
    have hl : n < s.data.size := h
    rw [getElem!_def, Array.getElem?_eq_getElem hl]
    simp
  rw [this]

theorem ln_eq (s : ByteArray) (n : Nat) (hn : n ≤ s.size) (hs : s.size ≤ 100000) : lnOf s n = (1 + (Lib.countByte (s.extract 0 n).data.toList 10 : Int), n - Lib.lastIndexByte (s.extract 0 n) 10) := by
  have h1 := count_le s n hn
  have h2 := lastIdx_lt s 10 n
  rw [← last_eq s n hn] at h2
  unfold lnOf
  rw [Int.toNat_natCast, w64 (by omega), w64 (by omega)]
theorem ln_step (s : ByteArray) (n : Nat) (hn : n < s.size) (hs : s.size ≤ 100000) : lnOf s ((n + 1 : Nat) : Int) = if bt s n = 10 then ((lnOf s n).1 + 1, 1) else ((lnOf s n).1, (lnOf s n).2 + 1) := by
  rw [ln_eq s (n + 1) (by omega) hs, ln_eq s n (by omega) hs, count_step s n hn, last_step s n hn]
  by_cases e : bt s n = 10
  · rw [if_pos e, if_pos e, if_pos e]
    exact Prod.ext (by show (1 : Int) + (_ + 1) = _ + 1; omega) (by show ((n + 1 : Nat) : Int) - n = 1; omega)
  · rw [if_neg e, if_neg e, if_neg e]
    exact Prod.ext (by show (1 : Int) + (_ + 0) = _; omega) (by show ((n + 1 : Nat) : Int) - _ = _; omega)
end Go.Proofs.YtoongglmgpilfaaDoor.L
namespace Go.Proofs.YtoongglmgpilfaaDoor.L
set_option linter.unusedVariables false
set_option linter.unusedSimpArgs false
open Go.RowKit Go.Proofs.YtoongglmgpilfaaDoorW.PrintWords Go.Proofs.YtoongglmgpilfaaDoorW.PrintLast Lx

theorem kindR_cons (c : UInt8) (r : List UInt8) : kindR (c :: r) = if isDig c = true then wk (c :: r) else if (c :: r).all isWord = true then 1 else 0 := rfl
theorem kindR_word {l : List UInt8} (h : ∀ c ∈ l, isWord c = true) : kindR l = wk l := by
  cases l with
  | nil => rfl
  | cons c r =>
    rw [kindR_cons]
    by_cases hd : isDig c = true
    · rw [if_pos hd]
    · have hw := h c (by simp)
      have hl : isLow c = true := by
        unfold isWord at hw
        simp only [Bool.not_eq_true] at hd
        rw [hd, Bool.or_false] at hw
        exact hw
      rw [if_neg hd, if_pos (List.all_eq_true.2 h), wk_low c r hl]
theorem tw_word (l : List UInt8) : ∀ c ∈ l.takeWhile isWord, isWord c = true := by
  intro c hc
  induction l with
  | nil => simp at hc
  | cons a r ih =>
    rw [List.takeWhile_cons] at hc
    split at hc
    · rename_i ha
      rcases List.mem_cons.1 hc with rfl | hc
      · exact ha
      · exact ih hc
    · simp at hc
/-! ### Kind -/
theorem all_tw {p : UInt8 → Bool} {l : List UInt8} (h : l.all p = true) : l.takeWhile p = l := by
  induction l with
  | nil => rfl
  | cons a r ih =>
    simp only [List.all_cons, Bool.and_eq_true] at h
    rw [List.takeWhile_cons, if_pos h.1, ih h.2]
theorem tw_all {p : UInt8 → Bool} {l : List UInt8} (h : l.takeWhile p = l) : l.all p = true := by
  induction l with
  | nil => rfl
  | cons a r ih =>
    rw [List.takeWhile_cons] at h
    by_cases ha : p a = true
    · rw [if_pos ha] at h
      injection h with _ h
      rw [List.all_cons, ha, ih h]
      rfl
    · rw [if_neg ha] at h
      cases h
theorem kindR_not {a : UInt8} {r : List UInt8} (h : ¬ (a :: r).all isWord = true) : kindR (a :: r) = 0 := by
  rw [kindR_cons]
  by_cases hd : isDig a = true
  · rw [if_pos hd, wk_dig a r hd, if_neg]
    rintro ⟨h1, _⟩
    apply h
    refine List.all_eq_true.2 (fun c hc => ?_)
    unfold isWord
    rw [List.all_eq_true.1 h1 c hc, Bool.or_true]
  · rw [if_neg hd, if_neg h]
theorem kd_ref (l : List UInt8) : kd l = if l ≠ [] ∧ signLen l = l.length then 3 else kindR l := by
  cases l with
  | nil => rfl
  | cons a r =>
    have hlen : (a :: r).length = r.length + 1 := rfl
    have hwd : isWord a = true → signLen (a :: r) = 0 := by
      intro hw
      by_cases hg : signLen (a :: r) ≠ 0
      · rw [sign_head hg] at hw; cases hw
      · omega
    unfold kd
    rw [step_cons]
    by_cases hw : isWhite a = true
    · have ha : a = 32 ∨ a = 10 := by simpa [isWhite] using hw
      have h1 : signLen (a :: r) = 0 := by rcases ha with rfl | rfl <;> rfl
      have h2 : ¬ (a :: r).all isWord = true := by
        intro h
        rw [List.all_cons, Bool.and_eq_true] at h
        rcases ha with rfl | rfl <;> exact absurd h.1 (by decide)
      rw [if_pos hw, if_neg (by omega), kindR_not h2]
    · rw [if_neg hw]
      by_cases hc : isCom (a :: r) = true
      · have ha : a = 47 := by simp [isCom] at hc; exact hc.1
        have h1 : signLen (a :: r) = 0 := by subst ha; rfl
        have h2 : ¬ (a :: r).all isWord = true := by subst ha; rw [List.all_cons]; intro h; rw [Bool.and_eq_true] at h; exact absurd h.1 (by decide)
        rw [if_pos hc, if_neg (by omega), kindR_not h2]
      · rw [if_neg hc]
        by_cases hA : (a :: r).all isWord = true
        · have htw := all_tw hA
          have hk : kindR (a :: r) = wk (a :: r) := kindR_word (List.all_eq_true.1 hA)
          have hwa : isWord a = true := List.all_eq_true.1 hA a (by simp)
          have h1 := hwd hwa
          rw [htw, h1]
          by_cases h0 : wk (a :: r) ≠ 0
          · rw [if_pos h0]
            simp only []
            rw [if_pos trivial, if_neg (by omega), hk]
          · rw [if_neg h0, if_neg (by omega), if_neg (by omega), hk]
            simp only []
            omega
        · rw [kindR_not hA]
          have hne : ((a :: r).takeWhile isWord).length ≠ (a :: r).length := by
            intro h
            exact hA (tw_all (takeWhile_all isWord _ (by omega)))
          by_cases h0 : wk ((a :: r).takeWhile isWord) ≠ 0
          · have hwa : isWord a = true := by
              by_cases ha : isWord a = true
              · exact ha
              · exfalso
                apply h0
                rw [List.takeWhile_cons, if_neg ha]
                rfl
            rw [if_pos h0, hwd hwa]
            simp only []
            rw [if_neg hne, if_neg (by omega)]
          · rw [if_neg h0]
            by_cases hg : signLen (a :: r) ≠ 0
            · rw [if_pos hg]
              simp only []
              by_cases hl : signLen (a :: r) = (a :: r).length
              · rw [if_pos hl, if_pos ⟨by simp, hl⟩]
              · rw [if_neg hl, if_neg (fun h => hl h.2)]
            · rw [if_neg hg, if_neg (by omega)]
theorem RKind_ok (s : ByteArray) (hs : s.size ≤ 8000) (k : Nat) (hk : 70000 ≤ k) : wireloomref08_Kind.f k s = some (kd s.data.toList) := by
  have hd := data_size s
  unfold wireloomref08_Kind.f
  rw [kd_ref]
  by_cases h0 : (s.size : Int) > 0
  · have hne : s.data.toList ≠ [] := by intro e; rw [e] at hd; simp at hd; omega
    have hsg : wireloomref08_sign.f k s 0 = some (signLen s.data.toList : Int) := sign_ok s (by omega) 0 (by omega) k (by omega)
    rw [if_pos h0, hsg, Option.bind_some]
    by_cases hl : signLen s.data.toList = s.data.toList.length
    · rw [if_pos (by omega), if_pos ⟨hne, hl⟩]
    · rw [if_neg (by omega), if_neg (fun h => hl h.2), kind_ok s (by omega) k (by omega)]
      rfl
  · rw [if_neg h0, kind_ok s (by omega) k (by omega)]
    have e : s.data.toList = [] := List.length_eq_zero_iff.1 (by omega)
    rw [e]
    rfl

/-! ### LineIn -/
theorem linein_loop (s : ByteArray) (hs : s.size ≤ 8000) (a : Nat) (ha : a ≤ s.size) : ∀ (m n : Nat), n + m = a → ∀ k, m + 2 ≤ k → wireloomref08_LineIn.l0 k s a n (lnOf s n).1 (lnOf s n).2 = some (lnOf s a) := by
  intro m
  induction m with
  | zero =>
    intro n hn k hk
    obtain ⟨k, rfl⟩ : ∃ j, k = j + 1 := ⟨k - 1, by omega⟩
    have : n = a := by omega
    subst this
    rw [wireloomref08_LineIn.l0, if_neg (by omega)]
  | succ m ih =>
    intro n hn k hk
    obtain ⟨k, rfl⟩ : ∃ j, k = j + 1 := ⟨k - 1, by omega⟩
    have hb1 := count_le s n (by omega)
    have hb2 := lastIdx_lt s 10 n
    rw [← last_eq s n (by omega)] at hb2
    have he := ln_eq s n (by omega) (by omega)
    have hw1' : wrap64 ((lnOf s n).1 + 1) = (lnOf s n).1 + 1 := w64 (by rw [he]; show _ ≤ (1 + _ : Int) + 1 ∧ (1 + _ : Int) + 1 ≤ _; omega)
    have hw2' : wrap64 ((lnOf s n).2 + 1) = (lnOf s n).2 + 1 := w64 (by rw [he]; show _ ≤ ((n : Int) - _) + 1 ∧ ((n : Int) - _) + 1 ≤ _; omega)
    have hst := ln_step s n (by omega) (by omega)
    have ihn := ih (n + 1) (by omega) k (by omega)
    rw [wireloomref08_LineIn.l0, if_pos (by omega), if_pos (by omega), if_pos (by omega), w1 n (by omega), hw1', hw2']
    by_cases e : bt s n = 10
    · rw [if_pos e] at hst
      rw [if_pos e]
      rw [hst] at ihn
      exact ihn
    · rw [if_neg e] at hst
      rw [if_neg e]
      rw [hst] at ihn
      exact ihn
theorem LineIn_ok (s : ByteArray) (hs : s.size ≤ 8000) (a : Int) (k : Nat) (hk : 70000 ≤ k) : wireloomref08_LineIn.f k s a = some (if a < 0 ∨ (s.size : Int) < a then (0, 0) else lnOf s a) := by
  obtain ⟨k, rfl⟩ : ∃ j, k = j + 1 := ⟨k - 1, by omega⟩
  unfold wireloomref08_LineIn.f
  by_cases h0 : a < 0
  · rw [if_pos h0, if_pos (Or.inl h0), wireloomref08_LineIn.j0, if_pos rfl]
  · rw [if_neg h0]
    by_cases h1 : (s.size : Int) < a
    · rw [if_pos (Or.inr h1), decide_eq_true (show a > (s.size : Int) by omega), wireloomref08_LineIn.j0, if_pos rfl]
    · rw [if_neg (by omega), decide_eq_false (show ¬ a > (s.size : Int) by omega), wireloomref08_LineIn.j0, if_neg (by decide)]
      obtain ⟨n, rfl⟩ : ∃ n : Nat, a = n := ⟨a.toNat, by omega⟩
      have h0 : lnOf s ((0 : Nat) : Int) = (1, 1) := by
        rw [ln_eq s 0 (by omega) (by omega)]
        have h1 := count_le s 0 (by omega)
        have h2 := lastIdx_lt s 10 0
        rw [← last_eq s 0 (by omega)] at h2
        exact Prod.ext (by show (1 : Int) + _ = 1; omega) (by show ((0 : Nat) : Int) - _ = 1; omega)
      have := linein_loop s hs n (by omega) n 0 (by omega) k (by omega)
      rw [h0] at this
      exact this

/-! ### Join -/
/-- what stands behind a text -/
def jt : List Tok → List UInt8
  | [] => []
  | t :: r => 32 :: (t.text ++ jt r)
theorem joined_jt : ∀ (r : List Tok) (t : Tok), joined (t :: r) = t.text ++ jt r
  | [], t => by rw [joined, jt, List.append_nil]
  | u :: r, t => by rw [joined, joined_jt r u, jt]
theorem rjoin_loop (ts : List Tok) (hts : ∀ t ∈ ts, Alone t) (hl : ts.length ≤ 4000) (s : ByteArray) : ∀ (m i : Nat) (acc : ByteArray), i + m = ts.length → acc.size + (jt (ts.drop i)).length ≤ 100000 → ∀ k, m + 2 ≤ k →
    wireloomref08_Join.l0 k (ts.map conv ++ [endT s]) acc false i = some (acc ++ ⟨(jt (ts.drop i)).toArray⟩) := by
  intro m
  have hlen : (ts.map conv ++ [endT s]).length = ts.length + 1 := by simp
  induction m with
  | zero =>
    intro i acc hi hsz k hk
    obtain ⟨k, rfl⟩ : ∃ j, k = j + 1 + 1 := ⟨k - 2, by omega⟩
    have hi' : i = ts.length := by omega
    subst hi'
    have hrd : rd_T39 (ts.map conv ++ [endT s]) ts.length = endT s := by
      unfold rd_T39
      rw [List.getD_eq_getElem?_getD, Int.toNat_natCast, List.getElem?_append_right (by rw [List.length_map]; exact Nat.le_refl _), List.length_map, Nat.sub_self]
      rfl
    rw [wireloomref08_Join.l0, hrd, if_pos (by rw [hlen]; omega), if_pos (by omega), if_pos (show (endT s).f0 = 4 from rfl), w1 _ (by omega), wireloomref08_Join.l0, if_neg (by rw [hlen]; omega), List.drop_length]
    congr 1
    apply bytes_ext
    rw [app_list]
    exact (List.append_nil _).symm
  | succ m ih =>
    intro i acc hi hsz k hk
    obtain ⟨k, rfl⟩ : ∃ j, k = j + 1 := ⟨k - 1, by omega⟩
    have hlt : i < ts.length := by omega
    have hrd : rd_T39 (ts.map conv ++ [endT s]) i = conv ts[i] := by
      unfold rd_T39
      rw [List.getD_eq_getElem?_getD, Int.toNat_natCast, List.getElem?_append_left (by rw [List.length_map]; exact hlt), List.getElem?_map, List.getElem?_eq_getElem hlt]
      rfl
    have ha := alone_kind (hts ts[i] (List.getElem_mem hlt))
    have h4 : ¬ (conv ts[i]).f0 = 4 := by show ¬ ts[i].kind = 4; omega
    have hdr : ts.drop i = ts[i] :: ts.drop (i + 1) := List.drop_eq_getElem_cons hlt
    rw [hdr, jt, List.length_cons, List.length_append] at hsz
    have hszc : (conv ts[i]).f1.size = ts[i].text.length := by rw [← data_size, text_list]
    have hs2 : ((acc ++ (⟨#[32]⟩ : ByteArray)) ++ (conv ts[i]).f1).size = acc.size + 1 + ts[i].text.length := by rw [ByteArray.size_append, ByteArray.size_append, hszc]; rfl
    rw [wireloomref08_Join.l0, hrd, if_pos (by rw [hlen]; omega), if_pos (by omega), if_neg h4, if_neg (by decide), if_pos (by omega), if_pos (by rw [ByteArray.size_append, hszc]; show acc.size + 1 + _ ≤ _; omega), w1 i (by omega),
      ih (i + 1) _ (by omega) (by rw [hs2]; omega) k (by omega)]
    congr 1
    apply bytes_ext
    rw [app_list, app_list, app_list, app_list, hdr, jt, text_list]
    simp
theorem RJoin_ok (ts : List Tok) (hts : ∀ t ∈ ts, Alone t) (hl : ts.length ≤ 4000) (hj : (joined ts).length ≤ 8000) (s : ByteArray) (k : Nat) (hk : 70000 ≤ k) : wireloomref08_Join.f k (ts.map conv ++ [endT s]) = some (jo ts) := by
  unfold wireloomref08_Join.f
  obtain ⟨k, rfl⟩ : ∃ j, k = j + 1 + 1 := ⟨k - 2, by omega⟩
  cases ts with
  | nil =>
    have hrd : rd_T39 (([] : List Tok).map conv ++ [endT s]) 0 = endT s := rfl
    rw [wireloomref08_Join.l0, hrd, if_pos (by simp), if_pos (by omega), if_pos (show (endT s).f0 = 4 from rfl), show wrap64 (0 + 1) = ((0 + 1 : Nat) : Int) by rw [w64 (by omega)]; rfl, wireloomref08_Join.l0, if_neg (by simp)]
    rfl
  | cons t r =>
    have hrd : rd_T39 ((t :: r).map conv ++ [endT s]) 0 = conv t := rfl
    have ha := alone_kind (hts t (by simp))
    have h4 : ¬ (conv t).f0 = 4 := by show ¬ t.kind = 4; omega
    rw [joined_jt, List.length_append] at hj
    have hszc : (conv t).f1.size = t.text.length := by rw [← data_size, text_list]
    have hs0 : ((⟨#[]⟩ : ByteArray) ++ (conv t).f1).size = t.text.length := by rw [ByteArray.size_append, hszc]; show 0 + _ = _; omega
    have := rjoin_loop (t :: r) hts hl s r.length 1 ((⟨#[]⟩ : ByteArray) ++ (conv t).f1) (by simp; omega) (by rw [hs0]; show _ + (jt r).length ≤ _; omega) (k + 1) (by simp only [List.length_cons] at hl; omega)
    rw [wireloomref08_Join.l0, hrd, if_pos (by simp; omega), if_pos (by omega), if_neg h4, if_pos rfl, if_pos (by rw [hszc]; show 0 + _ ≤ _; omega), show wrap64 (0 + 1) = ((1 : Nat) : Int) by rw [w64 (by omega)]; rfl, this]
    congr 1
    apply bytes_ext
    rw [app_list, app_list, text_list]
    show [] ++ t.text ++ jt r = joined (t :: r)
    rw [joined_jt, List.nil_append]

end Go.Proofs.YtoongglmgpilfaaDoor.L
namespace Go.Proofs.YtoongglmgpilfaaDoor.L
set_option linter.unusedVariables false
set_option linter.unusedSimpArgs false
open Go.RowKit Go.Proofs.YtoongglmgpilfaaDoorW.PrintWords Go.Proofs.YtoongglmgpilfaaDoorW.PrintLast Lx

/-! ### LexIn -/
theorem lexin_l1 (s : ByteArray) (hs : s.size ≤ 100000) (p0 : Nat) (toks : List S39) (A B : Int) : ∀ (l : List UInt8) (q : Nat), s.data.toList.drop q = l → q ≤ s.size → ∀ k,
    wireloomref08_LexIn.l1 (k + (l.takeWhile isWord).length + 1) s p0 q toks A B = wireloomref08_LexIn.j2 k s p0 ((q + (l.takeWhile isWord).length : Nat) : Int) toks A B := by
  intro l
  induction l with
  | nil =>
    intro q e hq k
    have hl := congrArg List.length e
    rw [List.length_drop, data_size, List.length_nil] at hl
    rw [List.takeWhile_nil, List.length_nil, wireloomref08_LexIn.l1, if_neg (by omega)]
    rfl
  | cons a r ih =>
    intro q e hq k
    obtain ⟨b1, b2, b3, b4⟩ := bt_drop e
    rw [List.takeWhile_cons]
    cases ha : isWord a with
    | false =>
      rw [if_neg (by decide), List.length_nil, wireloomref08_LexIn.l1, if_pos (by omega), if_pos (by omega), b2, rword, Option.bind_some, ha, if_neg (by decide)]
      rfl
    | true =>
      rw [if_pos rfl, List.length_cons, show k + ((r.takeWhile isWord).length + 1) + 1 = (k + (r.takeWhile isWord).length + 1) + 1 by omega, wireloomref08_LexIn.l1, if_pos (by omega), if_pos (by omega), b2, rword, Option.bind_some, ha, if_pos rfl, w1 q (by omega), ih (q + 1) b3 (by omega) k]
      rw [show q + 1 + (r.takeWhile isWord).length = q + ((r.takeWhile isWord).length + 1) by omega]
theorem lexin_tok (s : ByteArray) (p n j : Nat) (K : Int) (toks : List S39) (l : List UInt8) (z : List Tok × Option Nat) (e : s.data.toList.drop p = l) (hst : Lx.step l = .tok K n) (hz : lex (p + n) (s.data.toList.drop (p + n)) = z) :
    lexR s j (toks ++ [(⟨K, s.extract ((p : Int)).toNat (((p + n : Nat) : Int)).toNat, (p : Int)⟩ : S39)]) z = lexR s p toks (lex p l) := by
  have hext := ext_tok s p n
  rw [show ((p : Int) + (n : Int)) = ((p + n : Nat) : Int) by omega, e] at hext
  rw [lex_tok p hst, ← e, List.drop_drop, hz, hext, e]
  unfold lexR
  simp only [List.map_cons, List.append_assoc, List.cons_append, List.nil_append]
  rfl
theorem j2_word (s : ByteArray) (k p W : Nat) (j K : Int) (toks : List S39) (hW : W ≠ 0) (h : p + W ≤ s.size) (ht : toks.length < 4398046511104)
    (hk : wireloomref08_kind.f k (s.extract ((p : Int)).toNat (((p + W : Nat) : Int)).toNat) = some K) (hK : K ≠ 0) (hb : wireloomref08_blank.f k s ((p + W : Nat) : Int) = some j) :
    wireloomref08_LexIn.j2 (k + 1) s p ((p + W : Nat) : Int) toks 0 0 = wireloomref08_LexIn.l0 k s j (toks ++ [(⟨K, s.extract ((p : Int)).toNat (((p + W : Nat) : Int)).toNat, (p : Int)⟩ : S39)]) 0 0 := by
  have h1 : (0 : Int) ≤ (p : Int) := by omega
  have h2 : (p : Int) ≤ ((p + W : Nat) : Int) := by omega
  have h3 : ((p + W : Nat) : Int) ≤ (s.size : Int) := by omega
  have h4 : ¬ ((p + W : Nat) : Int) = (p : Int) := by omega
  rw [wireloomref08_LexIn.j2, if_pos h1, if_pos h2, if_pos h3, hk, Option.bind_some, if_neg h4, if_neg hK, if_pos ht, hb, Option.bind_some]
theorem j2_word0 (s : ByteArray) (k p W : Nat) (toks : List S39) (hW : W ≠ 0) (h : p + W ≤ s.size)
    (hk : wireloomref08_kind.f k (s.extract ((p : Int)).toNat (((p + W : Nat) : Int)).toNat) = some 0) :
    wireloomref08_LexIn.j2 (k + 1) s p ((p + W : Nat) : Int) toks 0 0 = some (([] : List S39), (p : Int), 5) := by
  have h1 : (0 : Int) ≤ (p : Int) := by omega
  have h2 : (p : Int) ≤ ((p + W : Nat) : Int) := by omega
  have h3 : ((p + W : Nat) : Int) ≤ (s.size : Int) := by omega
  have h4 : ¬ ((p + W : Nat) : Int) = (p : Int) := by omega
  rw [wireloomref08_LexIn.j2, if_pos h1, if_pos h2, if_pos h3, hk, Option.bind_some, if_neg h4, if_pos rfl]
theorem j2_sign (s : ByteArray) (k p g : Nat) (j K : Int) (toks : List S39) (hs : s.size ≤ 100000) (hg : g ≠ 0) (h : p + g ≤ s.size) (ht : toks.length < 4398046511104)
    (hk : wireloomref08_kind.f k (s.extract ((p : Int)).toNat (((p + 0 : Nat) : Int)).toNat) = some K) (hsg : wireloomref08_sign.f k s (p : Int) = some (g : Int)) (hb : wireloomref08_blank.f k s ((p + g : Nat) : Int) = some j) :
    wireloomref08_LexIn.j2 (k + 1) s p ((p + 0 : Nat) : Int) toks 0 0 = wireloomref08_LexIn.l0 k s j (toks ++ [(⟨3, s.extract ((p : Int)).toNat (((p + g : Nat) : Int)).toNat, (p : Int)⟩ : S39)]) 0 0 := by
  have h1 : (0 : Int) ≤ (p : Int) := by omega
  have h2 : (p : Int) ≤ ((p + 0 : Nat) : Int) := by omega
  have h3 : ((p + 0 : Nat) : Int) ≤ (s.size : Int) := by omega
  have h4 : ((p + 0 : Nat) : Int) = (p : Int) := by omega
  have h5 : wrap64 ((p : Int) + (g : Int)) = ((p + g : Nat) : Int) := by rw [w64 (by omega)]; omega
  have h6 : ¬ ((p + g : Nat) : Int) = (p : Int) := by omega
  have h7 : (p : Int) ≤ ((p + g : Nat) : Int) := by omega
  have h8 : ((p + g : Nat) : Int) ≤ (s.size : Int) := by omega
  have h9 : ¬ (3 : Nat) = 0 := by decide
  rw [wireloomref08_LexIn.j2, if_pos h1, if_pos h2, if_pos h3, hk, Option.bind_some, if_pos h4, hsg, Option.bind_some, h5, if_neg h6, if_neg h9, if_pos h7, if_pos h8, if_pos ht, hb, Option.bind_some]
theorem j2_bad (s : ByteArray) (k p : Nat) (K : Int) (toks : List S39) (hs : s.size ≤ 100000) (h : p ≤ s.size)
    (hk : wireloomref08_kind.f k (s.extract ((p : Int)).toNat (((p + 0 : Nat) : Int)).toNat) = some K) (hsg : wireloomref08_sign.f k s (p : Int) = some 0) :
    wireloomref08_LexIn.j2 (k + 1) s p ((p + 0 : Nat) : Int) toks 0 0 = some (([] : List S39), (p : Int), 5) := by
  have h1 : (0 : Int) ≤ (p : Int) := by omega
  have h2 : (p : Int) ≤ ((p + 0 : Nat) : Int) := by omega
  have h3 : ((p + 0 : Nat) : Int) ≤ (s.size : Int) := by omega
  have h4 : ((p + 0 : Nat) : Int) = (p : Int) := by omega
  have h5 : wrap64 ((p : Int) + 0) = (p : Int) := by rw [w64 (by omega)]; omega
  rw [wireloomref08_LexIn.j2, if_pos h1, if_pos h2, if_pos h3, hk, Option.bind_some, if_pos h4, hsg, Option.bind_some, h5, if_pos rfl]
theorem lexin_round (s : ByteArray) (hs : s.size ≤ 8000) (p : Nat) (toks : List S39) (hlt : p < s.size) (hn : ∀ n, Lx.step (s.data.toList.drop p) ≠ .skip n) (ht : toks.length ≤ p) (k : Nat) (hk : 30000 + 4 * (s.size - p) + 3 ≤ k)
    (ih : ∀ (j : Nat) (toks : List S39), p < j → j ≤ s.size → (∀ n, Lx.step (s.data.toList.drop j) ≠ .skip n) → toks.length ≤ j → ∀ k, 30000 + 4 * (s.size - j) + 3 ≤ k → wireloomref08_LexIn.l0 k s j toks 0 0 = lexR s j toks (lex j (s.data.toList.drop j))) :
    wireloomref08_LexIn.l0 k s p toks 0 0 = lexR s p toks (lex p (s.data.toList.drop p)) := by
  cases e : s.data.toList.drop p with
  | nil => have := congrArg List.length e; rw [List.length_drop, data_size] at this; simp at this; omega
  | cons a r =>
    obtain ⟨b1, b2, b3, b4⟩ := bt_drop e
    have f5 : toks.length < 4398046511104 := by omega
    have hlen : r.length + 1 = s.size - p := by
      have := congrArg List.length e
      rw [List.length_drop, data_size, List.length_cons] at this
      omega
    rw [e] at hn
    have hsc := step_cons a r
    have hw : ¬ isWhite a = true := fun h => hn 1 (by rw [hsc, if_pos h])
    rw [if_neg hw] at hsc
    have hc : ¬ isCom (a :: r) = true := fun h => hn _ (by rw [hsc, if_pos h])
    rw [if_neg hc] at hsc
    have htl := takeWhile_le isWord (a :: r)
    simp only [List.length_cons] at htl
    obtain ⟨W, hW⟩ : ∃ W, ((a :: r).takeWhile isWord).length = W := ⟨_, rfl⟩
    rw [hW] at htl
    obtain ⟨k1, rfl⟩ : ∃ k1, k = k1 + 1 + W + 1 + 1 := ⟨k - W - 3, by omega⟩
    have hl1 := lexin_l1 s (by omega) p toks 0 0 _ p e (by omega) (k1 + 1)
    rw [hW] at hl1
    have hex : (s.extract ((p : Int)).toNat (((p + W : Nat) : Int)).toNat).data.toList = (a :: r).takeWhile isWord := by
      rw [ext_list, show ((p : Int)).toNat = p by omega, show (((p + W : Nat) : Int)).toNat - p = W by omega, e, ← hW, take_tw]
    have hkind : wireloomref08_kind.f k1 (s.extract ((p : Int)).toNat (((p + W : Nat) : Int)).toNat) = some (wk ((a :: r).takeWhile isWord)) := by
      rw [kind_ok _ (by simp only [ByteArray.size_extract]; omega) k1 (by simp only [ByteArray.size_extract]; omega), hex, kindR_word (tw_word _)]
    have hlen5 : ∀ (q : Nat), q ≤ s.size → ∃ j : Nat, q ≤ j ∧ j ≤ s.size ∧ lex q (s.data.toList.drop q) = lex j (s.data.toList.drop j) ∧ (∀ n, Lx.step (s.data.toList.drop j) ≠ .skip n) ∧ wireloomref08_blank.f k1 s q = some (j : Int) := by
      intro q hq
      obtain ⟨j, j1, j2, j3, j4, j5⟩ := blank_ok s (by omega) _ q rfl hq
      exact ⟨j, j1, j2, j3, j4, j5 k1 (by omega)⟩
    have h0 : (p : Int) < (s.size : Int) := by omega
    have hK0 : W = 0 → wk ((a :: r).takeWhile isWord) = 0 := by
      intro h
      rw [List.length_eq_zero_iff.1 (hW.trans h)]
      rfl
    refine Eq.trans (b := wireloomref08_LexIn.j2 (k1 + 1) s p ((p + W : Nat) : Int) toks 0 0) ?_ ?_
    · rw [wireloomref08_LexIn.l0, if_pos h0, hl1]
    clear hl1 hex b1 b2 b3 b4
    by_cases hW0 : W = 0
    · have hk0 := hK0 hW0
      subst hW0
      have hsl := signLen_le (a :: r)
      simp only [List.length_cons] at hsl
      rw [if_neg (by rw [hk0]; decide)] at hsc
      have hsg := sign_ok s (by omega) p hlt k1 (by omega)
      rw [e] at hsg
      obtain ⟨g, hg⟩ : ∃ g, signLen (a :: r) = g := ⟨_, rfl⟩
      rw [hg] at hsc hsl hsg
      by_cases hg0 : g = 0
      · subst hg0
        rw [if_neg (by omega)] at hsc
        rw [j2_bad s k1 p _ toks (by omega) (by omega) hkind hsg, lex_bad p (by simp) hsc]
        rfl
      · rw [if_pos hg0] at hsc
        obtain ⟨j, j1, j2, j3, j4, j5⟩ := hlen5 (p + g) (by omega)
        rw [j2_sign s k1 p g j _ toks (by omega) hg0 (by omega) f5 hkind hsg j5]
        rw [ih j _ (by omega) j2 j4 (by rw [List.length_append]; simp only [List.length_cons, List.length_nil]; omega) k1 (by omega)]
        exact lexin_tok s p g j 3 toks (a :: r) _ e hsc j3
    · by_cases hk0 : wk ((a :: r).takeWhile isWord) = 0
      · have hg0 : ¬ signLen (a :: r) ≠ 0 := by
          intro h
          apply hW0
          rw [← hW, List.takeWhile_cons, sign_head h]
          rfl
        rw [if_neg (fun h => h hk0), if_neg hg0] at hsc
        rw [hk0] at hkind
        rw [j2_word0 s k1 p W toks hW0 (by omega) hkind, lex_bad p (by simp) hsc]
        rfl
      · rw [if_pos hk0, hW] at hsc
        obtain ⟨j, j1, j2, j3, j4, j5⟩ := hlen5 (p + W) (by omega)
        rw [j2_word s k1 p W j _ toks hW0 (by omega) f5 hkind hk0 j5]
        rw [ih j _ (by omega) j2 j4 (by rw [List.length_append]; simp only [List.length_cons, List.length_nil]; omega) k1 (by omega)]
        exact lexin_tok s p W j _ toks (a :: r) _ e hsc j3
theorem lexin_run (s : ByteArray) (hs : s.size ≤ 8000) : ∀ (m p : Nat) (toks : List S39), s.size - p ≤ m → p ≤ s.size → (∀ n, Lx.step (s.data.toList.drop p) ≠ .skip n) → toks.length ≤ p → ∀ k, 30000 + 4 * (s.size - p) + 3 ≤ k →
    wireloomref08_LexIn.l0 k s p toks 0 0 = lexR s p toks (lex p (s.data.toList.drop p)) := by
  intro m
  induction m with
  | zero =>
    intro p toks hm hp hn ht k hk
    obtain ⟨k, rfl⟩ : ∃ j, k = j + 1 := ⟨k - 1, by omega⟩
    rw [List.drop_of_length_le (by rw [data_size]; omega), lex_nil, wireloomref08_LexIn.l0, if_neg (by omega), if_pos (by omega)]
    unfold lexR endT
    simp
  | succ m ih =>
    intro p toks hm hp hn ht k hk
    by_cases hlt : p < s.size
    · exact lexin_round s hs p toks hlt hn ht k hk (fun j toks' h1 h2 h3 h4 k' h5 => ih j toks' (by omega) h2 h3 h4 k' h5)
    · exact ih p toks (by omega) hp hn ht k hk
theorem LexIn_ok (s : ByteArray) (hs : s.size ≤ 8000) (k : Nat) (hk : 70000 ≤ k) : wireloomref08_LexIn.f k s = lexR s 0 [] (lex 0 s.data.toList) := by
  obtain ⟨j, j1, j2, j3, j4, j5⟩ := blank_ok s (by omega) s.data.toList 0 rfl (by omega)
  have hb : wireloomref08_blank.f k s 0 = some (j : Int) := j5 k (by omega)
  unfold wireloomref08_LexIn.f
  rw [if_neg (by omega), hb, Option.bind_some, lexin_run s hs s.size j [] (by omega) j2 j4 (by simp) k (by omega), j3]
  rfl

end Go.Proofs.YtoongglmgpilfaaDoor.L
namespace Go.Proofs.YtoongglmgpilfaaDoor.L
set_option linter.unusedVariables false
set_option linter.unusedSimpArgs false
open Go.RowKit Go.Proofs.YtoongglmgpilfaaDoorW.PrintWords Go.Proofs.YtoongglmgpilfaaDoorW.PrintLast Lx

/-! ### the law -/
theorem examples_ok3 : wireloomlaw08_examples.f 100000 = some true := by kernel_rfl
theorem match_one (x2 : Int) (L : List ByteArray) (i : Nat) (hi : i < L.length) (hs : (L[i]).size ≤ 900) (k : Nat) (hk : 80000 ≤ k) :
    wireloomlaw08_LexerMatchesReference.l0 (k + 1) x2 true L i = wireloomlaw08_LexerMatchesReference.j2 k x2 true L i false := by
  have hrd : rdOf ByteArray.empty L (i : Int) = L[i] := by
    unfold rdOf
    rw [List.getD_eq_getElem?_getD, Int.toNat_natCast, List.getElem?_eq_getElem hi]
    rfl
  rw [wireloomlaw08_LexerMatchesReference.l0, if_pos (by omega), if_pos (by omega), hrd]
  generalize L[i] = s at hs
  have hds := data_size s
  have hline : ∀ j : Option Bool, (if (!((if x2 < 0 ∨ (s.size : Int) < x2 then ((0 : Int), (0 : Int)) else lnOf s x2).1 == (if x2 < 0 ∨ (s.size : Int) < x2 then ((0 : Int), (0 : Int)) else lnOf s x2).1) || (!((if x2 < 0 ∨ (s.size : Int) < x2 then ((0 : Int), (0 : Int)) else lnOf s x2).2 == (if x2 < 0 ∨ (s.size : Int) < x2 then ((0 : Int), (0 : Int)) else lnOf s x2).2))) = true then wireloomlaw08_LexerMatchesReference.j2 k x2 true L i true else j) = j := by
    intro j
    rw [if_neg]
    simp
  cases hz : (lex 0 s.data.toList).2 with
  | some e =>
    have hcl := lex_err _ 0 e hz
    rw [lexed_ok s (by omega), LexIn_ok s (by omega) k (by omega), lexR_some hz, Option.bind_some, Option.bind_some]
    unfold wireloomref08_Alike.f
    rw [if_pos rfl, if_pos rfl, same_ok [] [] 0 rfl (by decide) (fun i h1 => absurd h1 (by simp)) k (by omega), Option.bind_some, Option.bind_some, if_pos rfl, Kind_ok s (by omega), Option.bind_some, RKind_ok s (by omega) k (by omega), Option.bind_some, if_pos rfl,
      lined_ok s (by omega) x2 k (by omega), Option.bind_some, LineIn_ok s (by omega) x2 k (by omega), Option.bind_some, hline]
    have hj1 : lexer_Join.f k [] = some ⟨#[]⟩ := by
      obtain ⟨k, rfl⟩ : ∃ j, k = j + 1 := ⟨k - 1, by omega⟩
      unfold lexer_Join.f
      rw [lexer_Join.l0, if_neg (by decide)]
      rfl
    have hj2 : wireloomref08_Join.f k [] = some ⟨#[]⟩ := by
      obtain ⟨k, rfl⟩ : ∃ j, k = j + 1 := ⟨k - 1, by omega⟩
      unfold wireloomref08_Join.f
      rw [wireloomref08_Join.l0, if_neg (by decide)]
    rw [hj1, Option.bind_some, hj2, Option.bind_some, bne_self_eq_false]
  | none =>
    have hal := lex_alone s.data.toList 0
    have hct := lex_count s.data.toList 0
    have hjl := lex_join_len s.data.toList 0
    have hof := lex_off s.data.toList 0
    rw [lexed_ok s (by omega), LexIn_ok s (by omega) k (by omega), lexR_none hz, Option.bind_some, Option.bind_some]
    generalize (lex 0 s.data.toList).1 = ts at hal hct hjl hof
    unfold wireloomref08_Alike.f
    rw [if_pos rfl, if_pos rfl, same_ok (ts.map conv ++ [endT s]) _ 0 rfl (by simp; omega) (fun i h1 h2 => ⟨rfl, rfl, by
        by_cases hi : i < ts.length
        · have := hof ts[i] (List.getElem_mem hi)
          rw [List.getElem_append_left (by simpa using hi)]
          simp only [List.getElem_map, conv]
          rw [w64 (by omega)]; omega
        · have hi' : i = ts.length := by simp at h1; omega
          subst hi'
          rw [List.getElem_append_right (by simp)]
          simp only [List.length_map, Nat.sub_self, List.getElem_cons_zero, endT]
          rw [w64 (by omega)]; omega⟩) k (by omega), Option.bind_some, Option.bind_some, if_pos rfl, Kind_ok s (by omega), Option.bind_some, RKind_ok s (by omega) k (by omega), Option.bind_some, if_pos rfl,
      lined_ok s (by omega) x2 k (by omega), Option.bind_some, LineIn_ok s (by omega) x2 k (by omega), Option.bind_some, hline, Join_ok ts hal (by omega) (by omega) s k (by omega), Option.bind_some, RJoin_ok ts hal (by omega) (by omega) s k (by omega), Option.bind_some]
    rw [show ((jo ts).toList != (jo ts).toList) = false by simp]
theorem match_pure : wireloomlaw08_LexerMatchesReference.Pure := by
  intro l0 a1 a2 _ _ hu _ _
  obtain ⟨t, ht, hm⟩ := made_ok hu
  obtain ⟨c, hc, _, hm'⟩ := clean_ok hu
  refine ⟨100000, ?_⟩
  rw [wireloomlaw08_LexerMatchesReference.f, examples_ok3, Option.bind_some, if_pos rfl]
  by_cases h3 : (a1.size : Int) > 300
  · rw [decide_eq_true h3, wireloomlaw08_LexerMatchesReference.j0, if_pos rfl]
  · have hca : (c ++ a1).size = c.size + a1.size := ByteArray.size_append ..
    rw [decide_eq_false h3, wireloomlaw08_LexerMatchesReference.j0, if_neg (by decide), hm _ (by decide), Option.bind_some, hm' _ (by decide), Option.bind_some, if_pos (by omega)]
    have w01 : wrap64 (((0 : Nat) : Int) + 1) = ((1 : Nat) : Int) := w1 0 (by omega)
    have w12 : wrap64 (((1 : Nat) : Int) + 1) = ((2 : Nat) : Int) := w1 1 (by omega)
    have w23 : ¬ wrap64 (((2 : Nat) : Int) + 1) < (([t, a1, c ++ a1] : List ByteArray).length : Int) := by rw [w1 2 (by omega)]; simp only [List.length_cons, List.length_nil]; omega
    have s0 := match_one a2 [t, a1, c ++ a1] 0 (by simp) (by show t.size ≤ 900; omega) 99998 (by decide)
    have s1 := match_one a2 [t, a1, c ++ a1] 1 (by simp) (by show a1.size ≤ 900; omega) 99996 (by decide)
    have s2 := match_one a2 [t, a1, c ++ a1] 2 (by simp) (by show (c ++ a1).size ≤ 900; omega) 99994 (by decide)
    have e0 : wireloomlaw08_LexerMatchesReference.l0 99999 a2 true [t, a1, c ++ a1] 0 = _ := s0
    rw [e0, wireloomlaw08_LexerMatchesReference.j2, if_neg (by decide)]
    have e1 : wireloomlaw08_LexerMatchesReference.l0 99997 a2 true [t, a1, c ++ a1] (wrap64 (((0 : Nat) : Int) + 1)) = wireloomlaw08_LexerMatchesReference.j2 99996 a2 true [t, a1, c ++ a1] ((1 : Nat) : Int) false := by rw [w01]; exact s1
    rw [e1, wireloomlaw08_LexerMatchesReference.j2, if_neg (by decide)]
    have e2 : wireloomlaw08_LexerMatchesReference.l0 99995 a2 true [t, a1, c ++ a1] (wrap64 (((1 : Nat) : Int) + 1)) = wireloomlaw08_LexerMatchesReference.j2 99994 a2 true [t, a1, c ++ a1] ((2 : Nat) : Int) false := by rw [w12]; exact s2
    rw [e2, wireloomlaw08_LexerMatchesReference.j2, if_neg (by decide), wireloomlaw08_LexerMatchesReference.l0, if_neg w23]
end Go.Proofs.YtoongglmgpilfaaDoor.L
