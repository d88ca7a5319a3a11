import Derived.Test.YtoongglmgpilfaaDoorSpace
import Derived.Deep.MidRow
import Derived.Lib.OthersKept
namespace Go.Proofs.YtoongglmgpilfaaDoor.L
set_option linter.unusedSimpArgs false
set_option linter.unusedVariables false
set_option linter.unusedVariables false
open Go.RowKit Go.Proofs.YtoongglmgpilfaaDoorW.PrintWords Go.Proofs.YtoongglmgpilfaaDoorW.PrintLast

def fnCells (f : Nat → Int) : Array Value := ((List.range 256).map fun j : Nat => Value.int .u8 (f j)).toArray
theorem fn_size (f : Nat → Int) : (fnCells f).size = 256 := by simp [fnCells]
theorem fn_get (f : Nat → Int) (i : Nat) (h : i < 256) : (fnCells f)[i]? = some (.int .u8 (f i)) := by simp [fnCells, h]
theorem fn_set (f : Nat → Int) (i : Nat) (v : Int) : (fnCells f).setIfInBounds i (.int .u8 v) = fnCells (fun j => if j = i then v else f j) := by
  apply Array.ext
  · simp [fnCells]
  · intro j h1 h2
    simp only [fnCells, List.getElem_toArray, List.getElem_map, List.getElem_range]
    by_cases h : i = j
    · subst h; simp
    · have h' : ¬ j = i := fun e => h e.symm
      simp [h, h']
theorem zero_fn : Tryd.zeroCells54 = fnCells (fun _ => 0) := by kernel_rfl

/-- The two arrays of classOf: the result's, and the one that is filled. -/
structure Cl (w : World) (f : Nat → Int) (wr : World) : Prop where
  c : wr.heap[w.heap.size + 1]? = some (.cells (fnCells f) 54 (0, 0))
  r : wr.heap[w.heap.size]? = some (.cells (fnCells fun _ => 0) 54 (0, 0))
  below : Below w.heap.size w wr
theorem Cl.cell {w : World} {f : Nat → Int} {wr : World} (h : Cl w f wr) (i : Nat) (hi : i < 256) : wr.cell? ⟨w.heap.size + 1, i, none⟩ = some (.int .u8 (f i)) := by rw [blk_cell h.c, fn_get f i hi]
theorem Cl.free {w : World} {f : Nat → Int} {wr : World} (h : Cl w f wr) (i : Nat) : wr.frozen? ⟨w.heap.size + 1, i, none⟩ = false := blk_frozen h.c i
theorem Cl.set {w : World} {f : Nat → Int} {wr : World} (h : Cl w f wr) (i : Nat) (v : Int) : Cl w (fun j => if j = i then v else f j) (wr.setCell ⟨w.heap.size + 1, i, none⟩ (.int .u8 v)) :=
  ⟨by rw [blk_set h.c, fn_set], by rw [blk_far h.r (by simp)]; , h.below.setCell (by simp) _⟩
theorem Cl.fn {w : World} {f f' : Nat → Int} {wr : World} (h : Cl w f wr) (e : ∀ j, f j = f' j) : Cl w f' wr := by
  have : f = f' := funext e
  subst this
  exact h

theorem blk_setCells {g t : Nat} : ∀ (vs : List Value) (o : Nat) (w : World) (cs : Array Value), w.heap[g]? = some (.cells cs t (0, 0)) →
    ∃ cs', (w.setCells g o vs).heap[g]? = some (.cells cs' t (0, 0)) ∧ cs'.size = cs.size ∧ (∀ j, j < vs.length → o + j < cs.size → cs'[o + j]? = vs[j]?) ∧ (∀ i, i < o → cs'[i]? = cs[i]?)
  | [], o, w, cs, h => ⟨cs, h, rfl, fun j hj => by simp at hj, fun _ _ => rfl⟩
  | v :: r, o, w, cs, h => by
    obtain ⟨cs', h1, h2, h3, h4⟩ := blk_setCells r (o + 1) (w.setCell ⟨g, o, none⟩ v) _ (blk_set h o v)
    refine ⟨cs', h1, by rw [h2]; simp, fun j hj ho => ?_, fun i hi => ?_⟩
    · cases j with
      | zero =>
        rw [Nat.add_zero, h4 o (by omega)]
        simp only [List.getElem?_cons_zero, Array.getElem?_setIfInBounds]
        rw [if_pos trivial, if_pos (by omega)]
      | succ j =>
        rw [show o + (j + 1) = o + 1 + j by omega, h3 j (by simpa using hj) (by simp; omega)]
        simp
    · rw [h4 i (by omega)]
      simp only [Array.getElem?_setIfInBounds]
      rw [if_neg (by omega)]
theorem blk_store {g t : Nat} {w : World} {cs : Array Value} (h : w.heap[g]? = some (.cells cs t (0, 0))) (vs : Array Value) (hl : vs.size = cs.size) : (w.setCells g 0 vs.toList).heap[g]? = some (.cells vs t (0, 0)) := by
  obtain ⟨cs', h1, h2, h3, _⟩ := blk_setCells vs.toList 0 w cs h
  have : cs' = vs := by
    apply Array.ext_getElem?
    intro i
    by_cases hi : i < vs.size
    · have := h3 i (by simpa using hi) (by omega)
      rw [Nat.zero_add] at this
      rw [this]
      simp
    · rw [Array.getElem?_eq_none (by omega), Array.getElem?_eq_none (by omega)]
  rw [h1, this]
theorem below_setCells {B g : Nat} {a : World} (hg : B ≤ g) : ∀ (vs : List Value) (o : Nat) (w : World), Below B a w → Below B a (w.setCells g o vs)
  | [], _, _, h => h
  | v :: r, o, w, h => below_setCells hg r (o + 1) _ (h.setCell (p := ⟨g, o, none⟩) hg v)
theorem fn_cls (f : Nat → Int) (h : ∀ j : Nat, j < 256 → f j = clsI (j : Int)) : fnCells f = clsCells.toArray := by
  unfold fnCells clsCells
  congr 1
  apply List.map_congr_left
  intro j hj
  rw [h j (by simpa using hj)]

theorem Cl.step {w : World} {f : Nat → Int} {wr wr' : World} (h : Cl w f wr) (hb : Below wr.heap.size wr wr') : Cl w f wr' :=
  ⟨(hb.block _ (blk_lt h.c)).trans h.c, (hb.block _ (blk_lt h.r)).trans h.r, below_then h.below (by have := blk_lt h.c; omega) hb⟩

def f1 (b : Int) (j : Nat) : Int := if 97 ≤ (j : Int) ∧ (j : Int) < b then 1 else 0
def f2 (b : Int) (j : Nat) : Int := if 48 ≤ (j : Int) ∧ (j : Int) < b then 2 else f1 123 j
def sgs : ByteArray := ⟨#[40, 41, 123, 125, 91, 93, 44, 59, 58, 61, 43, 45, 38, 124, 94, 126, 60, 63, 64, 35, 46]⟩
def f3 (pos : Nat) (j : Nat) : Int := if j ∈ (sgs.data.toList.map UInt8.toNat).take pos then 4 else f2 58 j
def f4 (j : Nat) : Int := if j = 10 then 3 else if j = 32 then 3 else f3 21 j
theorem f4_cls : ∀ j : Fin 256, f4 j.val = clsI (j.val : Int) := by decide +kernel
theorem sgs_ascii : ∀ j : Fin 21, (sgs[j.val]'(by have := j.isLt; exact this)).toNat < 128 := by decide +kernel
theorem sgs_size : sgs.size = 21 := by decide +kernel
theorem f3_succ (pos : Nat) (h : pos < sgs.size) (j : Nat) : (if j = (sgs[pos]'h).toNat then 4 else f3 pos j) = f3 (pos + 1) j := by
  unfold f3
  have hl : pos < (sgs.data.toList.map UInt8.toNat).length := by simpa using h
  have e : (sgs.data.toList.map UInt8.toNat)[pos]'hl = (sgs[pos]'h).toNat := by simp; rfl
  rw [List.take_succ_eq_append_getElem hl, e]
  simp only [List.mem_append, List.mem_singleton]
  by_cases h1 : j = (sgs[pos]'h).toNat
  · rw [if_pos h1, if_pos (Or.inr h1)]
  · rw [if_neg h1]
    by_cases h2 : j ∈ (sgs.data.toList.map UInt8.toNat).take pos
    · rw [if_pos h2, if_pos (Or.inl h2)]
    · rw [if_neg h2, if_neg (by rintro (h | h); exact h2 h; exact h1 h)]
theorem f2_succ (b : Int) (h0 : 48 ≤ b) (j : Nat) : (if j = b.toNat then 2 else f2 b j) = f2 (b + 1) j := by
  unfold f2
  split <;> split <;> first | rfl | omega | (split <;> first | rfl | omega)
theorem f1_succ (b : Int) (h0 : 97 ≤ b) (j : Nat) : (if j = b.toNat then 1 else f1 b j) = f1 (b + 1) j := by
  unfold f1
  split <;> split <;> first | rfl | omega | (split <;> first | rfl | omega)
theorem Cl.iterAt {w : World} {f : Nat → Int} {wr : World} (h : Cl w f wr) (k : Nat) (hk : w.heap.size + 2 ≤ k) (s : ByteArray) (pos : Nat) : Cl w f (wr.iterAt k s pos) :=
  ⟨by rw [Lib.iterAt_other _ _ _ _ _ (by omega)]; exact h.c, by rw [Lib.iterAt_other _ _ _ _ _ (by omega)]; exact h.r, Lib.below_iterAt h.below (by omega) s pos⟩

set_option maxRecDepth 100000 in
set_option maxHeartbeats 3200000 in
theorem classOf_any (w : World) :
    Calls Tryd.prog 33 #[] w fun e w' => e = .returned (.agg clsCells.toArray) ∧ Below w.heap.size w w' := by
  have hz := zero_fn
  have HZ : ∀ f : Nat → Int, (∀ j, f j = 0) → Cl w f ((w.alloc (.cells Tryd.zeroCells54 54)).alloc (.cells Tryd.zeroCells54 54)) := fun f hf => by
    refine Cl.fn (f := fun _ => 0) ⟨?_, ?_, ?_⟩ (fun j => (hf j).symm)
    · rw [hz]; exact heap_alloc2_new _ _ _
    · rw [hz]; exact heap_alloc2_old _ _ _
    · exact below_alloc (below_alloc (Below.refl _ _) _) _
  have HZ' := Lib.hid HZ
  clear hz HZ
  go_enter Tryd.func33, Tryd.ntmps33
  go_wp2_with fail
  go_loopw [2] (fun v wr => ∃ b : Int, 97 ≤ b ∧ b ≤ 123 ∧ v = .int .i32 b ∧ Cl w (f1 b) wr ∧ wr.heap.size = w.heap.size + 2) (fun v _ => (123 - intOf v).toNat)
  case atStart => exact ⟨97, by omega, by omega, rfl, HZ'.out _ (fun j => by unfold f1; rw [if_neg (by omega)]), by simp⟩
  case round =>
    obtain ⟨b, hb0, hb1, rfl, HC, hsz⟩ := hrel
    have HSZ := Lib.hid hsz
    clear hsz
    by_cases hlt : b ≤ 122
    · have hc := HC.cell b.toNat (by omega)
      have hf := HC.free b.toNat
      go_wp2
      go_roundw
      case rel => exact ⟨b + 1, by omega, by omega, rfl, (HC.set b.toNat 1).fn (f1_succ b hb0), by simpa [World.setCell] using HSZ.out⟩
      case measure => simp [intOf]; omega
    · obtain rfl : b = 123 := by omega
      go_wp2_with fail
      go_loopw [3] (fun v wr => ∃ b : Int, 48 ≤ b ∧ b ≤ 58 ∧ v = .int .i32 b ∧ Cl w (f2 b) wr ∧ wr.heap.size = w.heap.size + 2) (fun v _ => (58 - intOf v).toNat)
      case atStart => exact ⟨48, by omega, by omega, rfl, HC.fn (fun j => by unfold f2; rw [if_neg (by omega)]), HSZ.out⟩
      case round =>
        obtain ⟨b, hb0, hb1, rfl, HC, hsz⟩ := hrel
        have HSZ := Lib.hid hsz
        clear hsz
        by_cases hlt : b ≤ 57
        · have hc := HC.cell b.toNat (by omega)
          have hf := HC.free b.toNat
          go_wp2
          go_roundw
          case rel => exact ⟨b + 1, by omega, by omega, rfl, (HC.set b.toNat 2).fn (f2_succ b hb0), by simpa [World.setCell] using HSZ.out⟩
          case measure => simp [intOf]; omega
        · obtain rfl : b = 58 := by omega
          go_wp2_with fail
          obtain ⟨wo, rfl⟩ : ∃ wo : World, wo = wr := ⟨_, rfl⟩
          have HI : Cl w (f2 58) (wo.iter sgs 0) := HC.step (below_alloc (Below.refl _ _) (.stringIter sgs 0))
          have HK0 := Lib.hid (World.iter_heap wo sgs 0)
          go_loopw [5] (fun _ wr => ∃ pos : Nat, pos ≤ 21 ∧ wr.heap[wo.heap.size]? = some (.stringIter sgs pos) ∧ Cl w (f3 pos) wr) (fun _ wr => 21 - wr.iterPos wo.heap.size)
          case atStart => exact ⟨0, by omega, HK0.out, HI.fn (fun j => by unfold f3; rw [if_neg (by simp)])⟩
          case round =>
            obtain ⟨pos, hps, hk, HC3⟩ := hrel
            have hge : w.heap.size + 2 ≤ wo.heap.size := by have := HSZ.out; omega
            have HGE := Lib.hid hge
            clear hge
            have hmu : wr.iterPos wo.heap.size = pos := by simp [World.iterPos, hk]
            have HMU := Lib.hid hmu
            have HKK := Lib.hid hk
            by_cases hp : pos < sgs.size
            · have hp21 : pos < 21 := by have := sgs_size; omega
              have h128 : (sgs[pos]'hp).toNat < 128 := sgs_ascii ⟨pos, hp21⟩
              have hnext : ∀ ty, (Instr.next (.pointer (some ⟨wo.heap.size, 0, none⟩)) true ty).run Tryd.prog wr = _ := fun ty => Lib.run_next_ascii_at wr wo.heap.size sgs pos ty hk hp h128
              have hk1 := Lib.iterAt_heap wr wo.heap.size sgs pos (pos + 1) hk
              have HC4 := HC3.iterAt wo.heap.size HGE.out sgs (pos + 1)
              clear hk hmu
              generalize wr.iterAt wo.heap.size sgs (pos + 1) = W1 at hnext hk1 HC4
              have hsucc := Lib.hid (f3_succ pos hp)
              obtain ⟨c, hcN⟩ : ∃ c : Nat, (sgs[pos]'hp).toNat = c := ⟨_, rfl⟩
              rw [hcN] at hnext h128 hsucc
              have hc := HC4.cell c (by omega)
              have hf := HC4.free c
              have HK1 := Lib.hid hk1
              clear hk1 hcN
              go_wp2
              have hk2 : (W1.setCell ⟨w.heap.size + 1, c, none⟩ (.int .u8 4)).heap[wo.heap.size]? = some (.stringIter sgs (pos + 1)) := by
                rw [Below.heap_setCell _ _ _ _ (by have := HGE.out; simp; omega)]; exact HK1.out
              have hmu2 : (W1.setCell ⟨w.heap.size + 1, c, none⟩ (.int .u8 4)).iterPos wo.heap.size = pos + 1 := by simp [World.iterPos, hk2]
              go_roundw
              case rel => exact ⟨pos + 1, by omega, hk2, (HC4.set c 4).fn hsucc.out⟩
              case measure => rw [hmu2, HMU.out]; omega
            · have hnext : ∀ ty, (Instr.next (.pointer (some ⟨wo.heap.size, 0, none⟩)) true ty).run Tryd.prog wr = _ := fun ty => Lib.run_next_end_at wr wo.heap.size sgs pos ty hk hp
              obtain rfl : pos = 21 := by have := sgs_size; omega
              have c32 := HC3.cell 32 (by omega)
              have f32 := HC3.free 32
              have c10 := HC3.cell 10 (by omega)
              have f10 := HC3.free 10
              clear hk hmu
              have HC5 := (HC3.set 32 3).set 10 3
              have hfc := fn_cls _ (fun j hj => (show (if j = 10 then 3 else if j = 32 then 3 else f3 21 j) = clsI (j : Int) from f4_cls ⟨j, hj⟩))
              rw [hfc] at *
              have hblk := Lib.hid HC5.c
              have hr := Lib.hid HC5.r
              have hbel := Lib.hid HC5.below
              clear HC5 hfc
              go_wp2_with (first
                | (refine wpList_load_row rfl 54 _ rfl (w.heap.size + 1) rfl 54 _ (0, 0) _ hblk.out Tryd.underlying54 rfl (by kernel_rfl) ?_)
                | (refine wpList_store_mid rfl 54 _ _ rfl w.heap.size 0 clsCells.toArray rfl rfl ?hth (by kernel_rfl) ?hone ?_))
              case hth =>
                intro j hj
                have hj' : j < 256 := by simpa [clsCells] using hj
                rw [blk_cell hr.out, Nat.zero_add, fn_get _ _ hj']
                exact ⟨rfl, blk_frozen hr.out _⟩
              case hone => decide +kernel
              refine bodyPost_ret (results_cell_row rfl _ _ w.heap.size 54 clsCells.toArray (0, 0) _ rfl (blk_store hr.out _ (by simp [fnCells, clsCells])) Tryd.underlying54 rfl (by kernel_rfl)) rfl ?_
              exact ⟨rfl, below_setCells (Nat.le_refl _) _ _ _ hbel.out⟩
end Go.Proofs.YtoongglmgpilfaaDoor.L
