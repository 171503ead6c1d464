/- Tables of integers as a row lists them. -/
import Derived.Test.YtphdmdncboegjaaDoorDimT
import Derived.Test.YtphdmdncboegjaaDoorDim0
import Derived.Test.YtphdmdncboegjaaDoorDoor
import Derived.Test.YtphdmdncboegjaaDoorRows
import Derived.Lib.LaidU8
import Derived.Lib.LaidTab
namespace Go.Proofs.YtphdmdncboegjaaDoor.base
open Go.RowKit Go.ChangeShapes Go.WideShapes Go.ChangeAt
set_option linter.unusedVariables false

theorem tab_of_reads {P : Program} {w : World} {name : String} {g : Nat} {t e : TypeId} {n : Nat} {k : IntKind} {zs : List Int} (hn : P.globalNamed name = some g) (hy : (P.globals[g]?).map (·.type) = some t)
    (ht : P.underlying t = some (.array n e)) (he : P.underlying e = some (.int k)) (hce : P.cellsOf e = 1) (hct : P.cellsOf t = n) (h : Lib.VarReads P w name (Lib.tabData k zs)) : Lib.TabIs P w name k zs := by
  obtain ⟨g', t', cs, fuel, p, hg, hty, hvar, hd⟩ := h
  obtain rfl := Option.some.inj (hn.symm.trans hg)
  obtain rfl := Option.some.inj (hy.symm.trans hty)
  unfold Lib.TabIs
  rw [hvar, ← Lib.cells_of_tab ht he hce hct hd]

end Go.Proofs.YtphdmdncboegjaaDoor.base
namespace Go.Proofs.YtphdmdncboegjaaDoor.dim
open Go.RowKit Go.Proofs.YtphdmdncboegjaaDoor.base Go.ChangeShapes Go.WideShapes Go.ChangeAt
set_option maxRecDepth 100000 in
theorem pow_of {w : World} {l : List (String × DataW Unit)} (h : laidMet Tryd.prog l w) (hm : ("internal/strconv.uint64pow10", Rows.laid_internal_strconv_uint64pow10) ∈ l) : PowAt w := by
  have ht := tab_of_reads (P := Tryd.prog) (g := 7) (k := .u64) (zs := Lib.pow10Tab) (by kernel_rfl) (by kernel_rfl) Tryd.underlying187 Tryd.underlying164 (by kernel_rfl) (by kernel_rfl) (Lib.laidMet.reads h hm)
  refine ⟨?_, ht⟩
  have hc := ht.cell (g := 7) (by kernel_rfl) 0 (by decide)
  exact World.block_lt_of_cell? w _ hc
end Go.Proofs.YtphdmdncboegjaaDoor.dim
