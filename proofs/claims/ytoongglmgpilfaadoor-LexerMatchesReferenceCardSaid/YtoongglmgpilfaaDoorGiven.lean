import Derived.Test.YtoongglmgpilfaaDoorKind
namespace Go.Proofs.YtoongglmgpilfaaDoor.L
set_option linter.unusedVariables false
set_option linter.unusedSimpArgs false
open Go.RowKit Go.Proofs.YtoongglmgpilfaaDoorW.PrintWords Go.Proofs.YtoongglmgpilfaaDoorW.PrintLast
def lexer_Lex.f (a0 : ByteArray) : Option (List S39 × Int × Int) := if 8000 < a0.size then some ([], 0, 2) else lxF a0 (a0.size + 1) 0 []
theorem lexer_Lex.calls (a0 : ByteArray) (r1 : List (S39)) (r2 : Int) (r3 : Int) (w : World) (hGL : GL w) (h : lexer_Lex.f a0 = some (r1, r2, r3)) :
    Calls Tryd.prog 26 #[.string a0] w fun e w' => ∃ v0_ : Value, e = .returned (.tuple #[v0_, .int .i64 r2, .int .i64 r3]) ∧ Kd.R k39 39 w' w.heap.size (fun _ => True) v0_ r1 ∧ Below w.heap.size w w' := by
  unfold lexer_Lex.f at h
  by_cases hb : 8000 < a0.size
  · rw [if_pos hb] at h
    simp only [Option.some.injEq, Prod.mk.injEq] at h
    obtain ⟨rfl, rfl, rfl⟩ := h
    refine (lex_big a0 w hb).mono ?_
    rintro e w' ⟨rfl, rfl⟩
    exact ⟨_, rfl, tok_R (own_nil _ _ _ _), Below.refl _ _⟩
  · rw [if_neg hb] at h
    exact lex_row a0 w (by omega) hGL _ _ _ _ h
def lexer_Kind.f (a0 : ByteArray) : Option Int := if a0.size ≤ 140737488351232 then some (kdF a0) else none
theorem lexer_Kind.calls (a0 : ByteArray) (r : Int) (w : World) (hGL : GL w) (h : lexer_Kind.f a0 = some r) :
    Calls Tryd.prog 16 #[.string a0] w fun e w' => e = .returned (.int .i64 r) ∧ Below w.heap.size w w' := by
  unfold lexer_Kind.f at h
  by_cases hb : a0.size ≤ 140737488351232
  · rw [if_pos hb] at h
    exact kind_row a0 w hb hGL _ (Option.some.inj h)
  · rw [if_neg hb] at h
    cases h
def strings_Count.f (a0 a1 : ByteArray) : Option Int := if a1 = ⟨#[10]⟩ then some (Lib.countByte a0.data.toList 10) else none
theorem strings_Count.calls (a0 : ByteArray) (a1 : ByteArray) (r : Int) (w : World) (h : strings_Count.f a0 a1 = some r) :
    Calls Tryd.prog 43 #[.string a0, .string a1] w fun e w' => e = .returned (.int .i64 r) ∧ Below w.heap.size w w' := by
  unfold strings_Count.f at h
  by_cases hb : a1 = ⟨#[10]⟩
  · rw [if_pos hb] at h
    have h := Option.some.inj h
    subst h
    subst hb
    exact (Tryd.strings_Count_one a0 10 w).mono (by rintro e w' ⟨rfl, rfl⟩; exact ⟨rfl, Below.refl _ _⟩)
  · rw [if_neg hb] at h
    cases h
def strings_LastIndexByte.f (a0 : ByteArray) (a1 : Int) : Option Int := if a0.size < 4611686018427387904 then some (Lib.lastIndexByte a0 a1) else none
theorem strings_LastIndexByte.calls (a0 : ByteArray) (a1 : Int) (r : Int) (w : World) (h : strings_LastIndexByte.f a0 a1 = some r) :
    Calls Tryd.prog 44 #[.string a0, .int .u8 a1] w fun e w' => e = .returned (.int .i64 r) ∧ Below w.heap.size w w' := by
  unfold strings_LastIndexByte.f at h
  by_cases hb : a0.size < 4611686018427387904
  · rw [if_pos hb] at h
    have h := Option.some.inj h
    subst h
    exact (Tryd.strings_LastIndexByte a0 a1 hb w).mono (by rintro e w' ⟨rfl, rfl⟩; exact ⟨rfl, Below.refl _ _⟩)
  · rw [if_neg hb] at h
    cases h
def joinB (l : List ByteArray) (a1 : ByteArray) : ByteArray := ⟨(Lib.join (l.map (·.data.toList)) a1.data.toList).toArray⟩
def strings_Join.f (l0 : List ByteArray) (a1 : ByteArray) : Option ByteArray := if l0.length ≤ 140737488355328 ∧ (joinB l0 a1).size ≤ 140737488355328 then some (joinB l0 a1) else none
theorem strings_Join.calls (A0 : Option Addr) (c0 : Nat) (l0 : List ByteArray) (a1 : ByteArray) (r : ByteArray) (w : World) (hr0 : Kd.C Kd.string w A0 l0.length l0) (hc0 : l0.length ≤ c0) (h : strings_Join.f l0 a1 = some r) :
    Calls Tryd.prog 35 #[.slice A0 l0.length c0, .string a1] w fun e w' => e = .returned (.string r) ∧ Below w.heap.size w w' := by
  unfold strings_Join.f at h
  by_cases hb : l0.length ≤ 140737488355328 ∧ (joinB l0 a1).size ≤ 140737488355328
  · rw [if_pos hb] at h
    have h := Option.some.inj h
    subst h
    obtain ⟨hb1, hb2⟩ := hb
    match l0, hr0, hc0, hb1, hb2 with
    | [], hr0, hc0, hb1, hb2 =>
      refine (Tryd.strings_Join_none A0 c0 a1 w).mono ?_
      rintro e w' ⟨rfl, rfl⟩
      exact ⟨rfl, Below.refl _ _⟩
    | x :: l, hr0, hc0, hb1, hb2 =>
      have hcell : ∀ (j : Nat) y, (x :: l)[j]? = some y → ∃ ad, A0 = some ad ∧ w.cell? (ad.add j) = some (.string y) := by
        intro j y hj
        have hl := (List.getElem?_eq_some_iff.1 hj).1
        obtain ⟨ad, c, e, _, hK, hc⟩ := Kd.C_get hr0 ⟨#[]⟩ j (by omega) (by omega)
        have hx : (x :: l).getD (j : Int).toNat ⟨#[]⟩ = y := by simp [List.getD, hj]
        rw [hx] at hK
        obtain rfl : c = [.string y] := hK
        refine ⟨ad, e, ?_⟩
        have := hc 0 _ rfl
        simpa [Kd.string, Kd.scalar] using this
      obtain ⟨ad, rfl, h0⟩ := hcell 0 x rfl
      obtain ⟨bk, o, sp⟩ := ad
      have hsp : sp = none := by
        cases sp with
        | none => rfl
        | some q =>
          exfalso
          have := h0
          unfold World.cell? at this
          split at this
          · simp [Addr.add] at this
          · cases this
      subst hsp
      have hlt := World.block_lt_of_cell? w _ h0
      refine (Tryd.strings_Join bk o c0 (x :: l) a1 w (fun j y hj => ?_) hlt hb1 hc0 (by simpa [joinB, ByteArray.size] using hb2))
      obtain ⟨ad', he, hh⟩ := hcell j y hj
      injection he with he
      subst he
      cases j <;> simpa [Addr.add] using hh
  · rw [if_neg hb] at h
    cases h
end Go.Proofs.YtoongglmgpilfaaDoor.L
