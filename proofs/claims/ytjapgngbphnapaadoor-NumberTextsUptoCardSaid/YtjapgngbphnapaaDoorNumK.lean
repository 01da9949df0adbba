/-
  THE LISTED VARIABLES: what the rows' lists give the walks; the witness's world.
-/
import Derived.Test.YtjapgngbphnapaaDoorCards
import Derived.Test.YtjapgngbphnapaaDoorTie
import Derived.Test.YtjapgngbphnapaaDoorNumB
import Derived.ProofKit
import Derived.LaidMore
import Derived.OpenShut
import Derived.Stop.LaidErr
import Derived.Deep.DeepHandedRow
import Derived.Deep.DeepWitnessRowRef
import Derived.Lib.LaidTab
namespace Go.Proofs.YtjapgngbphnapaaDoor.Num
open Go.ChangeShapes Go.WideShapes Go.ChangeAt Go.RowKit

theorem own : ownKnob Tryd.prog.godebug = none := by kernel_rfl
abbrev laidAll : List (String × DataW Unit) := [("math/bits.deBruijn32tab", Rows.laid_math_bits_deBruijn32tab), ("math/bits.deBruijn64tab", Rows.laid_math_bits_deBruijn64tab), ("internal/strconv.uint64pow10", Rows.laid_internal_strconv_uint64pow10), ("strconv.ErrRange", Rows.laid_strconv_ErrRange), ("strconv.ErrSyntax", Rows.laid_strconv_ErrSyntax)]
theorem tPow : (Tryd.prog.globals[2]?).map (·.type) = some 80 := by kernel_rfl
theorem tSyn : (Tryd.prog.globals[0]?).map (·.type) = some 42 := by kernel_rfl
theorem tRng : (Tryd.prog.globals[1]?).map (·.type) = some 42 := by kernel_rfl
theorem cells80 : Tryd.prog.cellsOf 80 = 20 := by kernel_rfl
theorem cells54 : Tryd.prog.cellsOf 54 = 1 := by kernel_rfl
theorem cells87 : Tryd.prog.cellsOf 87 = 1 := by kernel_rfl
theorem cells9 : Tryd.prog.cellsOf 9 = 1 := by kernel_rfl

theorem star : "*" ++ "errors.errorString" = "*errors.errorString" := by decide
theorem row85 (u : TypeId) (h : Tryd.prog.typeName? 3 u = some "*errors.errorString") : u = 85 :=
  typeName_ptr_named (nm := "errors.errorString") (by rw [star]; kernel_rfl) (by kernel_rfl) (by decide) u (by rw [star]; exact h)

theorem vars_of {W : World} (h : laidMetH Tryd.prog laidAll W) : Vars W := by
  rw [MakeChecks.laidMetH_plain _ _ _ (by kernel_rfl)] at h
  have h1 := h.tail.tail
  have hp : Lib.TabIs Tryd.prog W "internal/strconv.uint64pow10" .u64 Lib.pow10Tab := Lib.tabIs_of_head gPow tPow Tryd.underlying80 Tryd.underlying54 cells54 cells80 h1
  have h2 := h1.tail
  obtain ⟨a0, s0, hv0, -, -, -⟩ := laid_sentinel h2 gRng tRng Tryd.underlying42 row85 Tryd.underlying85 Tryd.underlying87 rfl rfl Tryd.underlying9 cells87 cells9
  obtain ⟨a1, s1, hv1, -, -, -⟩ := laid_sentinel h2.tail gSyn tSyn Tryd.underlying42 row85 Tryd.underlying85 Tryd.underlying87 rfl rfl Tryd.underlying9 cells87 cells9
  exact ⟨hp, ⟨_, _, hv1⟩, ⟨_, _, hv0⟩⟩

/-- The door's own heap meets the condition. -/
theorem door_met (os : Os) (args : Array Value) : laidMet Tryd.prog laidAll ((World.doorLaid Tryd.prog 62 os).forCall (fun _ _ => 0) ⟨#[], args, []⟩).memory :=
  laidMet_of_run' 8 (by kernel_rfl) (by kernel_rfl)
end Go.Proofs.YtjapgngbphnapaaDoor.Num
