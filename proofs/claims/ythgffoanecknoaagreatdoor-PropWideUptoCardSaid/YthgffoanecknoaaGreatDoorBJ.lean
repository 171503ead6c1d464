/- Contracts and plain law, a bundle. -/
import Derived.HandedShaped
import Derived.Shelf.Vars
import Derived.Lay
import Derived.LaidOnce
import Derived.SevenTiedAt
import Derived.Lib.LaidU8
import Derived.Lib.LaidTab
import Derived.Stop.LaidErr
import Derived.Lib.Hide
import Derived.Test.YthgffoanecknoaaGreatDoorBA
import Derived.Test.YthgffoanecknoaaGreatDoorRows
import Derived.Test.YthgffoanecknoaaGreatDoorBH
set_option linter.unusedVariables false
set_option maxRecDepth 100000
set_option maxHeartbeats 16000000
open Go.Lib (hid)
namespace Go.Proofs.YthgffoanecknoaaGreatDoor
namespace base
open Go.RowKit Go.ChangeShapes Go.WideShapes Go.ChangeAt
theorem ownD : ownKnob Tryz.prog.godebug = none := by kernel_rfl
theorem laidOutD : laidOutB Tryz.prog = true := by kernel_rfl
theorem maxLen_of {W : World} (h : W.ShapedOpen Tryz.prog) : ∃ m, W.cell? ⟨1, 0, none⟩ = some (.int .i64 m) :=
 cell_of_shapedOpen_int (zero := #[.int .i64 0]) (t := 3) h (of_decide_eq_true (by kernel_rfl)) (by kernel_rfl) rfl (by kernel_rfl) (by kernel_rfl) Tryz.underlying3
section
variable {H : Type} {enc : TypeId × Value -> H}
end
end base
namespace base
open Go.RowKit Go.ChangeShapes Go.WideShapes Go.ChangeAt
theorem tab_of_reads {P : Program} {w : World} {name : String} {g : Nat} {t e : TypeId} {n : Nat} {k : IntKind} {zs : List Int} (hn : P.globalNamed name = some g) (hy : (P.globals[g]?).map (·.type) = some t)
  (ht : P.underlying t = some (.array n e)) (he : P.underlying e = some (.int k)) (hce : P.cellsOf e = 1) (hct : P.cellsOf t = n) (h : Lib.VarReads P w name (Lib.tabData k zs)) : Lib.TabIs P w name k zs := by
 obtain ⟨g', t', cs, fuel, p, hg, hty, hvar, hd⟩ := h
 obtain rfl := Option.some.inj (hn.symm.trans hg)
 obtain rfl := Option.some.inj (hy.symm.trans hty)
 unfold Lib.TabIs
 rw [hvar, <- Lib.cells_of_tab ht he hce hct hd]
end base
namespace base
open Go.RowKit Go.ChangeShapes Go.WideShapes Go.ChangeAt
end base
namespace dim
open Go.RowKit base Go.ChangeShapes Go.WideShapes Go.ChangeAt
theorem pow_of {w : World} {l : List (String × DataW Unit)} (h : laidMet Tryz.prog l w) (hm : ("internal/strconv.uint64pow10", Rows.laid_internal_strconv_uint64pow10) ∈ l) : PowAt w := by
 have ht := tab_of_reads (P := Tryz.prog) (g := 5) (k := .u64) (zs := Lib.pow10Tab) (by kernel_rfl) (by kernel_rfl) Tryz.underlying219 Tryz.underlying118 (by kernel_rfl) (by kernel_rfl) (Lib.laidMet.reads h hm)
 refine ⟨?_, ht⟩
 have hc := ht.cell (g := 5) (by kernel_rfl) 0 (by decide)
 exact World.block_lt_of_cell? w _ hc
end dim
namespace sel
open Go.RowKit base tok Go.ChangeShapes Go.WideShapes Go.ChangeAt
theorem star_err : "*" ++ "errors.errorString" = "*errors.errorString" := by decide
theorem row_err (u : TypeId) (h : Tryz.prog.typeName? 3 u = some "*errors.errorString") : u = 232 :=
 typeName_ptr_named (nm := "errors.errorString") (by rw [star_err]; kernel_rfl) (by kernel_rfl) (by decide) u (by rw [star_err]; exact h)
theorem err_of {n : String} {text : List UInt8} {g : Nat} {r : List (String × DataW Unit)} {w : World} (hg : Tryz.prog.globalNamed n = some g) (ht : (Tryz.prog.globals[g]?).map (·.type) = some 132)
  (h : laidMet Tryz.prog ((n, .iface "*errors.errorString" (.ptr (.agg [.lit (.string text)]))) :: r) w) : ∃ tp p, w.cell? ⟨g, 0, none⟩ = some (.iface tp p) := by
 obtain ⟨a0, s0, hv0, -, -, -⟩ := laid_sentinel h hg ht Tryz.underlying132 row_err Tryz.underlying232 Tryz.underlying234 rfl rfl Tryz.underlying9 (by kernel_rfl) (by kernel_rfl)
 exact ⟨_, _, by have h0 := World.var?_cell hg hv0 0; simpa using h0⟩
end sel
end Go.Proofs.YthgffoanecknoaaGreatDoor
