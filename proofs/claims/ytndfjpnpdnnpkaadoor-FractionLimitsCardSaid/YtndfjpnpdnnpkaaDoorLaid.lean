import Derived.Test.YtndfjpnpdnnpkaaDoorRows
import Derived.Test.YtndfjpnpdnnpkaaDoorGiven
import Derived.SizedLaws
import Derived.ChangeSame
import Derived.ChangeVars
import Derived.ChangeMaps5
import Derived.JoinedOf
import Derived.JoinedAt
import Derived.RowKit
import Derived.RowKit3
import Derived.RowKitTokens
import Derived.LaidLaws
import Derived.Lib.LaidTab
import Derived.Stop.LaidErr
import Derived.Deep.DeepLaidRun
namespace Go.Proofs.YtndfjpnpdnnpkaaDoor.Laid
open Go.ChangeShapes Go.WideShapes Go.ChangeAt Go.RowKit Go.Shelf
set_option linter.unusedVariables false
theorem gES : Tryd.prog.globalNamed "strconv.ErrSyntax" = some 4 := by kernel_rfl
theorem gESType : (Tryd.prog.globals[4]?).map (·.type) = some 78 := by kernel_rfl
theorem gER : Tryd.prog.globalNamed "strconv.ErrRange" = some 5 := by kernel_rfl
theorem gERType : (Tryd.prog.globals[5]?).map (·.type) = some 78 := by kernel_rfl
theorem gT : Tryd.prog.globalNamed "internal/strconv.uint64pow10" = some 2 := by kernel_rfl
theorem gTType : (Tryd.prog.globals[2]?).map (·.type) = some 99 := by kernel_rfl
theorem cells119 : Tryd.prog.cellsOf 119 = 1 := by kernel_rfl
theorem cells9 : Tryd.prog.cellsOf 9 = 1 := by kernel_rfl
theorem cells99 : Tryd.prog.cellsOf 99 = 20 := by kernel_rfl
theorem star : "*" ++ "errors.errorString" = "*errors.errorString" := by decide
theorem row117 (u : TypeId) (h : Tryd.prog.typeName? 3 u = some "*errors.errorString") : u = 117 :=
  typeName_ptr_named (nm := "errors.errorString") (by rw [star]; kernel_rfl) (by kernel_rfl) (by decide) u (by rw [star]; exact h)
theorem tab_eq : (Rows.laid_internal_strconv_uint64pow10 : DataW Unit) = Lib.tabData .u64 Lib.pow10Tab := by kernel_rfl

/-- what the rows list -/
def laids : List (String × DataW Unit) := [("math/bits.deBruijn32tab", Rows.laid_math_bits_deBruijn32tab), ("math/bits.deBruijn64tab", Rows.laid_math_bits_deBruijn64tab), ("internal/strconv.uint64pow10", Rows.laid_internal_strconv_uint64pow10), ("strconv.ErrRange", Rows.laid_strconv_ErrRange), ("strconv.ErrSyntax", Rows.laid_strconv_ErrSyntax)]

theorem gl_of {W : World} (hL : laidMet Tryd.prog laids W) : F.GL W := by
  have h3 := hL.tail.tail
  have h4 := h3.tail
  have h5 := h4.tail
  rw [tab_eq] at h3
  obtain ⟨a1, s1, hv1, -, -, -⟩ := laid_sentinel (by exact h4) gER gERType Tryd.underlying78 row117 Tryd.underlying117 Tryd.underlying119 rfl rfl Tryd.underlying9 cells119 cells9
  obtain ⟨a2, s2, hv2, -, -, -⟩ := laid_sentinel (by exact h5) gES gESType Tryd.underlying78 row117 Tryd.underlying117 Tryd.underlying119 rfl rfl Tryd.underlying9 cells119 cells9
  exact ⟨Lib.tabIs_of_head (e := 49) gT gTType (by kernel_rfl) (by kernel_rfl) (by kernel_rfl) cells99 h3, ⟨_, _, hv2⟩, ⟨_, _, hv1⟩⟩

/-! ### one start that fits -/
abbrev synS : ByteArray := { data := #[105, 110, 118, 97, 108, 105, 100, 32, 115, 121, 110, 116, 97, 120] }
abbrev rngS : ByteArray := { data := #[118, 97, 108, 117, 101, 32, 111, 117, 116, 32, 111, 102, 32, 114, 97, 110, 103, 101] }
def litsOf : DataW Unit → Array Value
  | .agg l => (l.map fun | .lit (.int k n) => Value.int k n | _ => .bool false).toArray
  | _ => #[]
noncomputable def low : Nat := (World.holding Tryd.prog default ⟨#[], #[], []⟩).heap.size
noncomputable def laidWorld (os : Os) : World :=
  let w0 := World.holding Tryd.prog os ⟨#[.cells #[.string synS] 119, .cells #[.string rngS] 119], #[], []⟩
  let put (h : Array Obj) (g : Nat) (cs : Array Value) : Array Obj := h.modify g fun
    | .cells _ t frozen => .cells cs t frozen
    | o => o
  let h1 := put w0.heap 4 #[.iface 117 (.pointer (some ⟨low, 0, none⟩))]
  let h2 := put h1 5 #[.iface 117 (.pointer (some ⟨low + 1, 0, none⟩))]
  let h3 := put h2 2 (litsOf Rows.laid_internal_strconv_uint64pow10)
  let h4 := put h3 6 (litsOf Rows.laid_math_bits_deBruijn32tab)
  let h5 := put h4 7 (litsOf Rows.laid_math_bits_deBruijn64tab)
  { w0 with heap := h5 }
theorem laidWorld_met (os : Os) (args : Array Value) : laidMet Tryd.prog laids ((laidWorld os).forCall (fun _ _ => 0) ⟨#[], args, []⟩).memory :=
  laidMet_of_run3 10 (by kernel_rfl) (by kernel_rfl) (by kernel_rfl)
theorem own : ownKnob Tryd.prog.godebug = none := by kernel_rfl
theorem laidOut : laidOutB Tryd.prog = true := by kernel_rfl
end Go.Proofs.YtndfjpnpdnnpkaaDoor.Laid
