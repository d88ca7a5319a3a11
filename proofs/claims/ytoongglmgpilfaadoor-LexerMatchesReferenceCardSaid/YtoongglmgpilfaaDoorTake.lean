import Derived.Test.YtoongglmgpilfaaDoorIs
import Derived.Deep.AppendLies
import Derived.IntWalk
namespace Go.Proofs.YtoongglmgpilfaaDoor.L
set_option linter.unusedSimpArgs false
open Go.RowKit Go.Proofs.YtoongglmgpilfaaDoorW.PrintWords Go.Proofs.YtoongglmgpilfaaDoorW.PrintLast

/-- the cells of tokens -/
def tokCells (l : List S39) : List Value := l.flatMap fun t => [.int .i64 t.f0, .string t.f1, .int .i64 t.f2]
theorem tokCells_snoc (l : List S39) (t : S39) : tokCells (l ++ [t]) = tokCells l ++ [.int .i64 t.f0, .string t.f1, .int .i64 t.f2] := by simp [tokCells]

/-- the classes' cells -/
def clsCells : List Value := (List.range 256).map fun j : Nat => .int .u8 (clsI j)
theorem clsCells_length : clsCells.length = 256 := by simp [clsCells]
/-- the cells of a scanner -/
def scnCells (s : ByteArray) (p : Int) (tv : Value) : Array Value := (.string s :: .int .i64 p :: (clsCells ++ [tv])).toArray
theorem scn_0 (s : ByteArray) (p : Int) (tv : Value) : (scnCells s p tv)[0]? = some (.string s) := by simp [scnCells]
theorem scn_1 (s : ByteArray) (p : Int) (tv : Value) : (scnCells s p tv)[1]? = some (.int .i64 p) := by simp [scnCells]
theorem scn_c (s : ByteArray) (p : Int) (tv : Value) (j : Nat) (h : j < 256) : (scnCells s p tv)[2 + j]? = some (.int .u8 (clsI j)) := by
  unfold scnCells
  rw [List.getElem?_toArray, show 2 + j = j + 1 + 1 by omega, List.getElem?_cons_succ, List.getElem?_cons_succ, List.getElem?_append_left (by rw [clsCells_length]; exact h)]
  simp [clsCells, h]
theorem scn_258 (s : ByteArray) (p : Int) (tv : Value) : (scnCells s p tv)[258]? = some tv := by
  unfold scnCells
  rw [List.getElem?_toArray, show 258 = 256 + 1 + 1 by omega, List.getElem?_cons_succ, List.getElem?_cons_succ, List.getElem?_append_right (by rw [clsCells_length]; omega), clsCells_length]
  simp
theorem scn_set1 (s : ByteArray) (p q : Int) (tv : Value) : (scnCells s p tv).setIfInBounds 1 (.int .i64 q) = scnCells s q tv := by
  simp [scnCells, List.setIfInBounds_toArray]
theorem scn_set258 (s : ByteArray) (p : Int) (tv tv' : Value) : (scnCells s p tv).setIfInBounds 258 tv' = scnCells s p tv' := by
  unfold scnCells
  rw [List.setIfInBounds_toArray, show 258 = 256 + 1 + 1 by omega, List.set_cons_succ, List.set_cons_succ, List.set_append_right _ _ (by rw [clsCells_length]; omega), clsCells_length]
  simp

/-- A scanner in block g, made since the world w0 (of B blocks) stood: its file, its offset, its tokens; of all else below B nothing has turned. -/
structure Scn (B : Nat) (w0 : World) (g : Nat) (X : Option (Array Value)) (s : ByteArray) (p : Int) (toks : List S39) (w : World) : Prop where
  ex : ∃ tv, w.heap[g]? = some (.cells (scnCells s p tv) 57 (0, 0)) ∧ w.ownsRow B 39 3 tv toks.length (tokCells toks)
  below : Below B w0 w
  ge : B ≤ g
  side : ∀ cs, X = some cs → w.heap[g + 1]? = some (.cells cs 61 (0, 0))

theorem Scn.step {B : Nat} {w0 : World} {g : Nat} {X : Option (Array Value)} {s : ByteArray} {p : Int} {toks : List S39} {w w' : World} (h : Scn B w0 g X s p toks w) (hb : Below w.heap.size w w') : Scn B w0 g X s p toks w' := by
  obtain ⟨tv, h1, h2⟩ := h.ex
  have hg := blk_lt h1
  exact ⟨⟨tv, (hb.block g hg).trans h1, pw_own_below h2 hb⟩, below_then h.below (by have := h.ge; omega) hb, h.ge, fun cs hx => (hb.block _ (blk_lt (h.side cs hx))).trans (h.side cs hx)⟩
theorem Scn.lt {B : Nat} {w0 : World} {g : Nat} {X : Option (Array Value)} {s : ByteArray} {p : Int} {toks : List S39} {w : World} (h : Scn B w0 g X s p toks w) : g < w.heap.size := by
  obtain ⟨tv, h1, _⟩ := h.ex
  exact blk_lt h1
theorem Scn.c0 {B : Nat} {w0 : World} {g : Nat} {X : Option (Array Value)} {s : ByteArray} {p : Int} {toks : List S39} {w : World} (h : Scn B w0 g X s p toks w) : w.cell? ⟨g, 0, none⟩ = some (.string s) := by
  obtain ⟨tv, h1, _⟩ := h.ex
  rw [blk_cell h1, scn_0]
theorem Scn.c1 {B : Nat} {w0 : World} {g : Nat} {X : Option (Array Value)} {s : ByteArray} {p : Int} {toks : List S39} {w : World} (h : Scn B w0 g X s p toks w) : w.cell? ⟨g, 1, none⟩ = some (.int .i64 p) := by
  obtain ⟨tv, h1, _⟩ := h.ex
  rw [blk_cell h1, scn_1]
theorem Scn.f1 {B : Nat} {w0 : World} {g : Nat} {X : Option (Array Value)} {s : ByteArray} {p : Int} {toks : List S39} {w : World} (h : Scn B w0 g X s p toks w) : w.frozen? ⟨g, 1, none⟩ = false := by
  obtain ⟨tv, h1, _⟩ := h.ex
  exact blk_frozen h1 _
theorem Scn.cc {B : Nat} {w0 : World} {g : Nat} {X : Option (Array Value)} {s : ByteArray} {p : Int} {toks : List S39} {w : World} (h : Scn B w0 g X s p toks w) (j : Nat) (hj : j < 256) : w.cell? ⟨g, 2 + j, none⟩ = some (.int .u8 (clsI j)) := by
  obtain ⟨tv, h1, _⟩ := h.ex
  rw [blk_cell h1, scn_c _ _ _ _ hj]
/-- the offset is turned -/
theorem Scn.set1 {B : Nat} {w0 : World} {g : Nat} {X : Option (Array Value)} {s : ByteArray} {p : Int} {toks : List S39} {w : World} (h : Scn B w0 g X s p toks w) (q : Int) : Scn B w0 g X s q toks (w.setCell ⟨g, 1, none⟩ (.int .i64 q)) := by
  obtain ⟨tv, h1, h2⟩ := h.ex
  refine ⟨⟨tv, ?_, own_setCell h2 (own_ne h2 h1 (by decide)) _⟩, h.below.setCell h.ge _, h.ge, fun cs hx => blk_far (h.side cs hx) (by simp) _⟩
  rw [blk_set h1, scn_set1]

set_option maxRecDepth 100000 in
set_option maxHeartbeats 3200000 in
theorem take_any (B : Nat) (w0 : World) (g : Nat) (X : Option (Array Value)) (s : ByteArray) (p n kind : Int) (toks : List S39) (w : World) (hp : 0 ≤ p) (hn : 0 ≤ n) (hpn : p + n ≤ s.size) (hs : s.size ≤ 140737488351232)
    (hl : toks.length ≤ 1000000) (H : Scn B w0 g X s p toks w) :
    Calls Tryd.prog 37 #[.pointer (some ⟨g, 0, none⟩), .int .i64 kind, .int .i64 n] w fun e w' => e = .returned (.bool true) ∧
      Scn B w0 g X s (p + n) (toks ++ [⟨kind, s.extract p.toNat (p + n).toNat, p⟩]) w' := by
  obtain ⟨i0, hi0, hz0, hz1, hz2⟩ := info_parts info39
  obtain ⟨tv, hblk, hown⟩ := H.ex
  have hB := H.ge
  have hbel := H.below
  have hside := Lib.hid H.side
  clear H
  have h0 : w.cell? ⟨g, 0, none⟩ = some (.string s) := (blk_cell hblk 0).trans (scn_0 _ _ _)
  have h1 : w.cell? ⟨g, 1, none⟩ = some (.int .i64 p) := (blk_cell hblk 1).trans (scn_1 _ _ _)
  have h2 : w.cell? ⟨g, 258, none⟩ = some tv := (blk_cell hblk 258).trans (scn_258 _ _ _)
  have f1 : w.frozen? ⟨g, 1, none⟩ = false := blk_frozen hblk _
  have f2 : w.frozen? ⟨g, 258, none⟩ = false := blk_frozen hblk _
  have ag : tv.ownBlock ≠ some g := fun e => own_ne hown hblk (by decide) e.symm
  have HBLK := Lib.hid hblk
  clear hblk
  have lg := World.block_lt_of_cell? w _ h0
  have hsum : IntKind.i64.wrap (p + n) = p + n := IntWalk.i64_in _ (by omega)
  have hq0 : (0 : Int) ≤ p + n := by omega
  have hq1 : p ≤ p + n := by omega
  go_enter Tryd.func37, Tryd.ntmps37
  go_wp2_with fail
  refine start_ (n := 31) (S := fun w' => w'.cell? ⟨g, 0, none⟩ = some (.string s) ∧ w'.cell? ⟨g, 1, none⟩ = some (.int .i64 p) ∧ w'.cell? ⟨g, 258, none⟩ = some tv) (ds := [30]) #[false, false, false, false, false, false, false, false, false, false, false, false, false, false, false, false, false, false, false, false, false, false, false, false, false, false, false, false, false, false, false] (by kernel_rfl) rfl rfl ⟨h0, h1, h2⟩ (fun hHeld => ?_)
  refine pure_ (i := 0) (N := some 7) (v := ?_) (a' := ?_) #[true, false, false, false, false, false, false, false, false, false, false, false, false, false, false, false, false, false, false, false, false, false, false, false, false, false, false, false, false, false, false] rfl rfl (by kernel_rfl) (fun _ _ _ h => h) (Or.inl ⟨by rfl, ?_⟩) ?_ ?_
  rotate_left
  · intro w'
    go_simp
    with_reducible rfl
  rotate_left
  · simp only [Act.put, List.setIfInBounds_toArray, List.set_cons_zero, List.set_cons_succ, i64_w, i32_w]
    rfl
  refine pure_ (i := 1) (N := some 8) (v := ?_) (a' := ?_) #[true, true, false, false, false, false, false, false, false, false, false, false, false, false, false, false, false, false, false, false, false, false, false, false, false, false, false, false, false, false, false] rfl rfl (by kernel_rfl) (fun _ _ _ h => h) (Or.inl ⟨by rfl, ?_⟩) ?_ ?_
  rotate_left
  · intro w'
    go_simp
    with_reducible rfl
  rotate_left
  · simp only [Act.put, List.setIfInBounds_toArray, List.set_cons_zero, List.set_cons_succ, i64_w, i32_w]
    rfl
  refine pure_ (i := 2) (N := some 9) (v := ?_) (a' := ?_) #[true, true, true, false, false, false, false, false, false, false, false, false, false, false, false, false, false, false, false, false, false, false, false, false, false, false, false, false, false, false, false] rfl rfl (by kernel_rfl) (fun _ _ _ h => h) (Or.inl ⟨by rfl, ?_⟩) ?_ ?_
  rotate_left
  · intro w'
    go_simp
    with_reducible rfl
  rotate_left
  · simp only [Act.put, List.setIfInBounds_toArray, List.set_cons_zero, List.set_cons_succ, i64_w, i32_w]
    rfl
  refine pure_ (i := 3) (N := some 10) (v := ?_) (a' := ?_) #[true, true, true, true, false, false, false, false, false, false, false, false, false, false, false, false, false, false, false, false, false, false, false, false, false, false, false, false, false, false, false] rfl rfl (by kernel_rfl) (fun _ _ _ h => h) (Or.inl ⟨by rfl, ?_⟩) ?_ ?_
  rotate_left
  · intro w'
    go_simp
    with_reducible rfl
  rotate_left
  · simp only [Act.put, List.setIfInBounds_toArray, List.set_cons_zero, List.set_cons_succ, i64_w, i32_w]
    rfl
  refine pure_ (i := 5) (N := some 12) (v := ?_) (a' := ?_) #[true, true, true, true, false, true, false, false, false, false, false, false, false, false, false, false, false, false, false, false, false, false, false, false, false, false, false, false, false, false, false] rfl rfl (by kernel_rfl) (fun _ _ _ h => h) (Or.inl ⟨by rfl, ?_⟩) ?_ ?_
  rotate_left
  · intro w'
    go_simp
    with_reducible rfl
  rotate_left
  · simp only [Act.put, List.setIfInBounds_toArray, List.set_cons_zero, List.set_cons_succ, i64_w, i32_w]
    rfl
  refine pure_ (i := 6) (N := some 13) (v := ?_) (a' := ?_) #[true, true, true, true, false, true, true, false, false, false, false, false, false, false, false, false, false, false, false, false, false, false, false, false, false, false, false, false, false, false, false] rfl rfl (by kernel_rfl) (fun _ _ _ h => h) (Or.inl ⟨by rfl, ?_⟩) ?_ ?_
  rotate_left
  · intro w'
    go_simp
    with_reducible rfl
  rotate_left
  · simp only [Act.put, List.setIfInBounds_toArray, List.set_cons_zero, List.set_cons_succ, i64_w, i32_w]
    rfl
  refine pure_ (i := 7) (N := some 14) (v := ?_) (a' := ?_) #[true, true, true, true, false, true, true, true, false, false, false, false, false, false, false, false, false, false, false, false, false, false, false, false, false, false, false, false, false, false, false] rfl rfl (by kernel_rfl) (fun _ _ _ h => h) (Or.inl ⟨by rfl, ?_⟩) ?_ ?_
  rotate_left
  · intro w'
    go_simp
    with_reducible rfl
  rotate_left
  · simp only [Act.put, List.setIfInBounds_toArray, List.set_cons_zero, List.set_cons_succ, i64_w, i32_w]
    rfl
  refine pure_ (i := 8) (N := some 15) (v := ?_) (a' := ?_) #[true, true, true, true, false, true, true, true, true, false, false, false, false, false, false, false, false, false, false, false, false, false, false, false, false, false, false, false, false, false, false] rfl rfl (by kernel_rfl) (fun _ _ _ h => h) (Or.inl ⟨by rfl, ?_⟩) ?_ ?_
  rotate_left
  · intro w'
    go_simp
    with_reducible rfl
  rotate_left
  · simp only [Act.put, List.setIfInBounds_toArray, List.set_cons_zero, List.set_cons_succ, i64_w, i32_w]
    rfl
  refine pure_ (i := 10) (N := some 17) (v := ?_) (a' := ?_) #[true, true, true, true, false, true, true, true, true, false, true, false, false, false, false, false, false, false, false, false, false, false, false, false, false, false, false, false, false, false, false] rfl rfl (by kernel_rfl) (fun _ _ _ h => h) (Or.inl ⟨by rfl, ?_⟩) ?_ ?_
  rotate_left
  · intro w'
    go_simp
    with_reducible rfl
  rotate_left
  · simp only [Act.put, List.setIfInBounds_toArray, List.set_cons_zero, List.set_cons_succ, i64_w, i32_w]
    rfl
  refine pure_ (i := 11) (N := some 18) (v := ?_) (a' := ?_) #[true, true, true, true, false, true, true, true, true, false, true, true, false, false, false, false, false, false, false, false, false, false, false, false, false, false, false, false, false, false, false] rfl rfl (by kernel_rfl) (fun _ _ _ h => h) (Or.inl ⟨by rfl, ?_⟩) ?_ ?_
  rotate_left
  · intro w'
    go_simp
    with_reducible rfl
  rotate_left
  · simp only [Act.put, List.setIfInBounds_toArray, List.set_cons_zero, List.set_cons_succ, i64_w, i32_w]
    rfl
  refine pure_ (i := 12) (N := some 19) (v := ?_) (a' := ?_) #[true, true, true, true, false, true, true, true, true, false, true, true, true, false, false, false, false, false, false, false, false, false, false, false, false, false, false, false, false, false, false] rfl rfl (by kernel_rfl) (fun _ _ _ h => h) (Or.inl ⟨by rfl, ?_⟩) ?_ ?_
  rotate_left
  · intro w'
    go_simp
    with_reducible rfl
  rotate_left
  · simp only [Act.put, List.setIfInBounds_toArray, List.set_cons_zero, List.set_cons_succ, i64_w, i32_w]
    rfl
  refine pure_ (i := 14) (N := some 21) (v := ?_) (a' := ?_) #[true, true, true, true, false, true, true, true, true, false, true, true, true, false, true, false, false, false, false, false, false, false, false, false, false, false, false, false, false, false, false] rfl rfl (by kernel_rfl) (fun _ _ _ h => h) (Or.inl ⟨by rfl, ?_⟩) ?_ ?_
  rotate_left
  · intro w'
    go_simp
    with_reducible rfl
  rotate_left
  · simp only [Act.put, List.setIfInBounds_toArray, List.set_cons_zero, List.set_cons_succ, i64_w, i32_w]
    rfl
  refine pure_ (i := 15) (N := some 22) (v := ?_) (a' := ?_) #[true, true, true, true, false, true, true, true, true, false, true, true, true, false, true, true, false, false, false, false, false, false, false, false, false, false, false, false, false, false, false] rfl rfl (by kernel_rfl) (fun _ _ _ h => h) (Or.inl ⟨by rfl, ?_⟩) ?_ ?_
  rotate_left
  · intro w'
    go_simp
    with_reducible rfl
  rotate_left
  · simp only [Act.put, List.setIfInBounds_toArray, List.set_cons_zero, List.set_cons_succ, i64_w, i32_w]
    rfl
  refine pure_ (i := 16) (N := some 23) (v := ?_) (a' := ?_) #[true, true, true, true, false, true, true, true, true, false, true, true, true, false, true, true, true, false, false, false, false, false, false, false, false, false, false, false, false, false, false] rfl rfl (by kernel_rfl) (fun _ _ _ h => h) (Or.inl ⟨by rfl, ?_⟩) ?_ ?_
  rotate_left
  · intro w'
    go_simp
    with_reducible rfl
  rotate_left
  · simp only [Act.put, List.setIfInBounds_toArray, List.set_cons_zero, List.set_cons_succ, i64_w, i32_w]
    rfl
  refine pure_ (i := 18) (N := some 25) (v := ?_) (a' := ?_) #[true, true, true, true, false, true, true, true, true, false, true, true, true, false, true, true, true, false, true, false, false, false, false, false, false, false, false, false, false, false, false] rfl rfl (by kernel_rfl) (fun _ _ _ h => h) (Or.inl ⟨by rfl, ?_⟩) ?_ ?_
  rotate_left
  · intro w'
    go_simp
    with_reducible rfl
  rotate_left
  · simp only [Act.put, List.setIfInBounds_toArray, List.set_cons_zero, List.set_cons_succ, i64_w, i32_w]
    rfl
  refine pure_ (i := 21) (N := some 28) (v := ?_) (a' := ?_) #[true, true, true, true, false, true, true, true, true, false, true, true, true, false, true, true, true, false, true, false, false, true, false, false, false, false, false, false, false, false, false] rfl rfl (by kernel_rfl) (fun _ _ _ h => h) (Or.inl ⟨by rfl, ?_⟩) ?_ ?_
  rotate_left
  · intro w'
    go_simp
    with_reducible rfl
  rotate_left
  · simp only [Act.put, List.setIfInBounds_toArray, List.set_cons_zero, List.set_cons_succ, i64_w, i32_w]
    rfl
  refine pure_ (i := 22) (N := some 29) (v := ?_) (a' := ?_) #[true, true, true, true, false, true, true, true, true, false, true, true, true, false, true, true, true, false, true, false, false, true, true, false, false, false, false, false, false, false, false] rfl rfl (by kernel_rfl) (fun _ _ _ h => h) (Or.inl ⟨by rfl, ?_⟩) ?_ ?_
  rotate_left
  · intro w'
    go_simp
    with_reducible rfl
  rotate_left
  · simp only [Act.put, List.setIfInBounds_toArray, List.set_cons_zero, List.set_cons_succ, i64_w, i32_w]
    rfl
  refine pure_ (i := 23) (N := some 30) (v := ?_) (a' := ?_) #[true, true, true, true, false, true, true, true, true, false, true, true, true, false, true, true, true, false, true, false, false, true, true, true, false, false, false, false, false, false, false] rfl rfl (by kernel_rfl) (fun _ _ _ h => h) (Or.inl ⟨by rfl, ?_⟩) ?_ ?_
  rotate_left
  · intro w'
    go_simp
    with_reducible rfl
  rotate_left
  · simp only [Act.put, List.setIfInBounds_toArray, List.set_cons_zero, List.set_cons_succ, i64_w, i32_w]
    rfl
  refine take_ (i := 4) (N := some 11) (v := ?_) (a' := ?_) #[true, true, true, true, true, true, true, true, true, false, true, true, true, false, true, true, true, false, true, false, false, true, true, true, false, false, false, false, false, false, false] rfl rfl (by kernel_rfl) (fun _ _ _ h => h) (Or.inl ⟨by rfl, ?_⟩) hHeld ?_ ?_
  rotate_left
  · rintro w' ⟨s0, s1, s2⟩
    go_simp
    with_reducible rfl
  rotate_left
  · simp only [Act.put, List.setIfInBounds_toArray, List.set_cons_zero, List.set_cons_succ, i64_w, i32_w]
    rfl
  refine take_ (i := 9) (N := some 16) (v := ?_) (a' := ?_) #[true, true, true, true, true, true, true, true, true, true, true, true, true, false, true, true, true, false, true, false, false, true, true, true, false, false, false, false, false, false, false] rfl rfl (by kernel_rfl) (fun _ _ _ h => h) (Or.inl ⟨by rfl, ?_⟩) hHeld ?_ ?_
  rotate_left
  · rintro w' ⟨s0, s1, s2⟩
    go_simp
    with_reducible rfl
  rotate_left
  · simp only [Act.put, List.setIfInBounds_toArray, List.set_cons_zero, List.set_cons_succ, i64_w, i32_w]
    rfl
  refine take_ (i := 13) (N := some 20) (v := ?_) (a' := ?_) #[true, true, true, true, true, true, true, true, true, true, true, true, true, true, true, true, true, false, true, false, false, true, true, true, false, false, false, false, false, false, false] rfl rfl (by kernel_rfl) (fun _ _ _ h => h) (Or.inl ⟨by rfl, ?_⟩) hHeld ?_ ?_
  rotate_left
  · rintro w' ⟨s0, s1, s2⟩
    go_simp
    with_reducible rfl
  rotate_left
  · simp only [Act.put, List.setIfInBounds_toArray, List.set_cons_zero, List.set_cons_succ, i64_w, i32_w]
    rfl
  refine take_ (i := 17) (N := some 24) (v := ?_) (a' := ?_) #[true, true, true, true, true, true, true, true, true, true, true, true, true, true, true, true, true, true, true, false, false, true, true, true, false, false, false, false, false, false, false] rfl rfl (by kernel_rfl) (fun _ _ _ h => h) (Or.inl ⟨by rfl, ?_⟩) hHeld ?_ ?_
  rotate_left
  · rintro w' ⟨s0, s1, s2⟩
    go_simp
    with_reducible rfl
  rotate_left
  · simp only [Act.put, List.setIfInBounds_toArray, List.set_cons_zero, List.set_cons_succ, i64_w, i32_w]
    rfl
  refine pure_ (i := 19) (N := some 26) (v := ?_) (a' := ?_) #[true, true, true, true, true, true, true, true, true, true, true, true, true, true, true, true, true, true, true, true, false, true, true, true, false, false, false, false, false, false, false] rfl rfl (by kernel_rfl) (fun _ _ _ h => h) (Or.inl ⟨by rfl, ?_⟩) ?_ ?_
  rotate_left
  · intro w'
    go_simp
    with_reducible rfl
  rotate_left
  · simp only [Act.put, List.setIfInBounds_toArray, List.set_cons_zero, List.set_cons_succ, i64_w, i32_w]
    rfl
  refine pure_ (i := 20) (N := some 27) (v := ?_) (a' := ?_) #[true, true, true, true, true, true, true, true, true, true, true, true, true, true, true, true, true, true, true, true, true, true, true, true, false, false, false, false, false, false, false] rfl rfl (by kernel_rfl) (fun _ _ _ h => h) (Or.inl ⟨by rfl, ?_⟩) ?_ ?_
  rotate_left
  · intro w'
    go_simp
    with_reducible rfl
  rotate_left
  · simp only [Act.put, List.setIfInBounds_toArray, List.set_cons_zero, List.set_cons_succ, i64_w, i32_w]
    rfl
  refine take_ (i := 24) (N := some 31) (v := ?_) (a' := ?_) #[true, true, true, true, true, true, true, true, true, true, true, true, true, true, true, true, true, true, true, true, true, true, true, true, true, false, false, false, false, false, false] rfl rfl (by kernel_rfl) (fun _ _ _ h => h) (Or.inl ⟨by rfl, ?_⟩) hHeld ?_ ?_
  rotate_left
  · rintro w' ⟨s0, s1, s2⟩
    go_simp
    with_reducible rfl
  rotate_left
  · simp only [Act.put, List.setIfInBounds_toArray, List.set_cons_zero, List.set_cons_succ, i64_w, i32_w]
    rfl
  refine pure_ (i := 25) (N := some 32) (v := ?_) (a' := ?_) #[true, true, true, true, true, true, true, true, true, true, true, true, true, true, true, true, true, true, true, true, true, true, true, true, true, true, false, false, false, false, false] rfl rfl (by kernel_rfl) (fun _ _ _ h => h) (Or.inl ⟨by rfl, ?_⟩) ?_ ?_
  rotate_left
  · intro w'
    go_simp
    with_reducible rfl
  rotate_left
  · simp only [Act.put, List.setIfInBounds_toArray, List.set_cons_zero, List.set_cons_succ, i64_w, i32_w]
    rfl
  refine one_ (i := 26) (N := some 33) #[true, true, true, true, true, true, true, true, true, true, true, true, true, true, true, true, true, true, true, true, true, true, true, true, true, true, true, false, false, false, false] rfl rfl (by kernel_rfl) (by decide) (fun K hK => ?_)
  refine value_ (w1 := ?_) (v := ?_) (by rfl) rfl ?_ ?_
  rotate_left 2
  · go_simp
    constructor
    · rfl
    · rfl
  refine hK.out _ _ ⟨(by simp [World.cell?_alloc_past, lg, h0]), (by simp [World.cell?_alloc_past, lg, h1]), (by simp [World.cell?_alloc_past, lg, h2])⟩ (fun hHeld => ?_)
  clear hK K
  refine norm_ (a' := ?_) ?_ ?_
  rotate_left
  · show Act.put _ (some 33) _ = _
    simp only [Act.put, List.setIfInBounds_toArray, List.set_cons_zero, List.set_cons_succ, i64_w, i32_w]
    rfl
  refine one_ (i := 27) (N := some 34) #[true, true, true, true, true, true, true, true, true, true, true, true, true, true, true, true, true, true, true, true, true, true, true, true, true, true, true, true, false, false, false] rfl rfl (by kernel_rfl) (by decide) (fun K hK => ?_)
  refine step_append_lies _ (by rfl) _ _ _ (by rfl) B 39 i0 _ 3 32 Tryd.underlying26 hi0 hz0 hz1 hz2 rfl (by omega) tv toks.length (tokCells toks) (by rfl) ((hown.alloc _).drew)
      ⟨w.heap.size, 0, none⟩ 1 1 [.int .i64 kind, .string (s.extract p.toNat (p + n).toNat), .int .i64 p] (by rfl) (by rfl) (World.news_of_block (cs := #[.int .i64 kind, .string (s.extract p.toNat (p + n).toNat), .int .i64 p]) (t := 39) (fr := (0, 0)) (heap_alloc_new w _)) (by simp [Value.oneCell'])
      (by omega) (by unfold maxLen; omega) (by omega) (by simp; omega) (w.heap.size + 1) (by simp) ?_
  intro gg cap w1 hown1 hgrow hat hlt
  have k0 : w1.cell? ⟨g, 0, none⟩ = some (.string s) := by rw [hgrow.cell_far _ (by simp; omega) (Ne.symm ag)]; simp [World.cell?_alloc_past, lg, h0]
  have k1 : w1.cell? ⟨g, 1, none⟩ = some (.int .i64 p) := by rw [hgrow.cell_far _ (by simp; omega) (Ne.symm ag)]; simp [World.cell?_alloc_past, lg, h1]
  have k2 : w1.cell? ⟨g, 258, none⟩ = some tv := by rw [hgrow.cell_far _ (by simp; omega) (Ne.symm ag)]; simp [World.cell?_alloc_past, lg, h2]
  have z1 : w1.frozen? ⟨g, 1, none⟩ = false := by rw [hgrow.frozen_far _ (by simp; omega) (Ne.symm ag)]; simp [World.frozen?_alloc_past, lg, f1]
  have z2 : w1.frozen? ⟨g, 258, none⟩ = false := by rw [hgrow.frozen_far _ (by simp; omega) (Ne.symm ag)]; simp [World.frozen?_alloc_past, lg, f2]
  refine hK.out _ _ ⟨k0, k1, k2⟩ (fun hHeld => ?_)
  clear hK K
  refine norm_ (a' := ?_) ?_ ?_
  rotate_left
  · show Act.put _ (some 34) _ = _
    simp only [Act.put, List.setIfInBounds_toArray, List.set_cons_zero, List.set_cons_succ, i64_w, i32_w]
    rfl
  refine pure_ (i := 28) (N := some 35) (v := ?_) (a' := ?_) #[true, true, true, true, true, true, true, true, true, true, true, true, true, true, true, true, true, true, true, true, true, true, true, true, true, true, true, true, true, false, false] rfl rfl (by kernel_rfl) (fun _ _ _ h => h) (Or.inl ⟨by rfl, ?_⟩) ?_ ?_
  rotate_left
  · intro w'
    go_simp
    with_reducible rfl
  rotate_left
  · simp only [Act.put, List.setIfInBounds_toArray, List.set_cons_zero, List.set_cons_succ, i64_w, i32_w]
    rfl
  refine pure_ (i := 29) (N := some 36) (v := ?_) (a' := ?_) #[true, true, true, true, true, true, true, true, true, true, true, true, true, true, true, true, true, true, true, true, true, true, true, true, true, true, true, true, true, true, false] rfl rfl (by kernel_rfl) (fun _ _ _ h => h) (Or.inl ⟨by rfl, ?_⟩) ?_ ?_
  rotate_left
  · intro w'
    go_simp
    with_reducible rfl
  rotate_left
  · simp only [Act.put, List.setIfInBounds_toArray, List.set_cons_zero, List.set_cons_succ, i64_w, i32_w]
    rfl
  refine last_ (i := 30) (N := none) #[true, true, true, true, true, true, true, true, true, true, true, true, true, true, true, true, true, true, true, true, true, true, true, true, true, true, true, true, true, true, true] rfl rfl (by kernel_rfl) (by decide) (fun K hK => ?_)
  refine skip_ (w1 := ?_) (by rfl) rfl ?_ ?_
  rotate_left
  · go_simp
    rfl
  refine hK.out _ _ ?_
  clear hK K
  refine done_ (by kernel_rfl) ?_


  clear hsum
  go_wp2
  go_ret
  refine ⟨rfl, ?_⟩
  have hW : Below B w0 ((w.alloc (.cells #[.int .i64 kind, .string (s.extract p.toNat (p + n).toNat), .int .i64 p] 39)).drew) := below_drew (hbel.alloc (by omega) _)
  have hb0 := (below_drew (below_alloc (Below.refl w.heap.size w) (.cells #[.int .i64 kind, .string (s.extract p.toNat (p + n).toNat), .int .i64 p] 39))).block g lg
  have hb1 : w1.heap[g]? = some (.cells (scnCells s p tv) 57 (0, 0)) := ((hgrow.block g (by simp; omega) (fun e => ag e.symm)).trans hb0).trans HBLK.out
  have e1 := blk_set hb1 258 (.slice (some ⟨gg, 0, none⟩) (toks.length + 1) cap)
  rw [scn_set258] at e1
  have e2 := blk_set e1 1 (.int .i64 (p + n))
  rw [scn_set1] at e2
  have o1 := own_setCell hown1 (p := ⟨g, 258, none⟩) (own_ne hown1 hb1 (by decide)) (.slice (some ⟨gg, 0, none⟩) (toks.length + 1) cap)
  have o2 := own_setCell o1 (p := ⟨g, 1, none⟩) (own_ne o1 e1 (by decide)) (.int .i64 (p + n))
  refine ⟨⟨_, e2, ?_⟩, ?_, hB, fun cs hx => ?_⟩
  · rw [tokCells_snoc, List.length_append]; exact o2
  · exact ((pw_below_grown hW _ (by simp; omega) hgrow (fun k hk => own_base hown k hk)).setCell hB _).setCell hB _
  · have hs := hside.out cs hx
    have hs0 := (below_drew (below_alloc (Below.refl w.heap.size w) (.cells #[.int .i64 kind, .string (s.extract p.toNat (p + n).toNat), .int .i64 p] 39))).block (g + 1) (blk_lt hs)
    have hs1 : w1.heap[g + 1]? = some (.cells cs 61 (0, 0)) := ((hgrow.block (g + 1) (by have := blk_lt hs; simp; omega) (own_ne hown hs (by decide))).trans hs0).trans hs
    exact blk_far (blk_far hs1 (by simp) _) (by simp) _
end Go.Proofs.YtoongglmgpilfaaDoor.L
