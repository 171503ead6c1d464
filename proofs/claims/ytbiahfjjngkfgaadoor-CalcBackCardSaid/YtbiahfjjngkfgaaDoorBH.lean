/- Contracts and plain law, a bundle: LaidG LaidT LaidC. -/
import Derived.Lib.LaidU8
import Derived.Lib.LaidTab
import Derived.Test.YtbiahfjjngkfgaaDoorBA
import Derived.Test.YtbiahfjjngkfgaaDoorRows
import Derived.Test.YtbiahfjjngkfgaaDoorBC4
import Derived.Test.YtbiahfjjngkfgaaDoorBC2

namespace Go.Proofs.YtbiahfjjngkfgaaDoor.base
open Go.RowKit Go.ChangeShapes Go.WideShapes Go.ChangeAt
set_option linter.unusedVariables false

theorem tab_of_reads {P : Program} {w : World} {name : String} {g : Nat} {t e : TypeId} {n : Nat} {k : IntKind} {zs : List Int} (hn : P.globalNamed name = some g) (hy : (P.globals[g]?).map (·.type) = some t)
    (ht : P.underlying t = some (.array n e)) (he : P.underlying e = some (.int k)) (hce : P.cellsOf e = 1) (hct : P.cellsOf t = n) (h : Lib.VarReads P w name (Lib.tabData k zs)) : Lib.TabIs P w name k zs := by
  obtain ⟨g', t', cs, fuel, p, hg, hty, hvar, hd⟩ := h
  obtain rfl := Option.some.inj (hn.symm.trans hg)
  obtain rfl := Option.some.inj (hy.symm.trans hty)
  unfold Lib.TabIs
  rw [hvar, ← Lib.cells_of_tab ht he hce hct hd]

end Go.Proofs.YtbiahfjjngkfgaaDoor.base

namespace Go.Proofs.YtbiahfjjngkfgaaDoor.base
open Go.RowKit Go.ChangeShapes Go.WideShapes Go.ChangeAt
set_option linter.unusedVariables false

end Go.Proofs.YtbiahfjjngkfgaaDoor.base
namespace Go.Proofs.YtbiahfjjngkfgaaDoor.dim
open Go.RowKit Go.Proofs.YtbiahfjjngkfgaaDoor.base Go.ChangeShapes Go.WideShapes Go.ChangeAt
set_option maxRecDepth 100000 in
theorem pow_of {w : World} {l : List (String × DataW Unit)} (h : laidMet Tryd.prog l w) (hm : ("internal/strconv.uint64pow10", Rows.laid_internal_strconv_uint64pow10) ∈ l) : PowAt w := by
  have ht := tab_of_reads (P := Tryd.prog) (g := 2) (k := .u64) (zs := Lib.pow10Tab) (by kernel_rfl) (by kernel_rfl) Tryd.underlying114 Tryd.underlying104 (by kernel_rfl) (by kernel_rfl) (Lib.laidMet.reads h hm)
  refine ⟨?_, ht⟩
  have hc := ht.cell (g := 2) (by kernel_rfl) 0 (by decide)
  exact World.block_lt_of_cell? w _ hc
end Go.Proofs.YtbiahfjjngkfgaaDoor.dim

namespace Go.Proofs.YtbiahfjjngkfgaaDoor.cal
open Go.RowKit Go.Proofs.YtbiahfjjngkfgaaDoor.base Go.ChangeShapes Go.WideShapes Go.ChangeAt
set_option linter.unusedVariables false

theorem wf_i64 {n : Int} (h : (Lit.int .i64 n).wf = true) : -9223372036854775808 ≤ n ∧ n ≤ 9223372036854775807 := by
  simp [Lit.wf, IntKind.min, IntKind.max, IntKind.bits, IntKind.signed] at h
  omega

end Go.Proofs.YtbiahfjjngkfgaaDoor.cal
