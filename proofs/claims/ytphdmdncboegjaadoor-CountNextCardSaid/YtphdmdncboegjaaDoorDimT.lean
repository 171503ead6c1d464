/- Contracts: dim.Text. -/
import Derived.Test.YtphdmdncboegjaaDoorDimL2
import Derived.Test.YtphdmdncboegjaaDoorShelf
import Derived.Lib.LaidTab
namespace Go.Proofs.YtphdmdncboegjaaDoor.dim
open Go.RowKit Go.Proofs.YtphdmdncboegjaaDoor.base Go.Proofs.YtphdmdncboegjaaDoor.tok
set_option linter.unusedVariables false

theorem grow_below (w : World) (k : Nat) (os : Array Obj) : Below w.heap.size w (Go.Sort.grow (w.drewN k) os) := by
  refine ⟨rfl, rfl, rfl, ?_, fun i hi => ?_⟩
  · simp [Go.Sort.grow]
  · simp only [Go.Sort.grow]
    rw [Array.getElem?_append_left (by simpa using hi)]
    rfl

/-- the table of powers is there -/
def PowAt (w : World) : Prop := 7 < w.heap.size ∧ Lib.TabIs Tryd.prog w "internal/strconv.uint64pow10" .u64 Lib.pow10Tab

theorem PowAt.on {w w' : World} (h : PowAt w) (hb : Below w.heap.size w w') : PowAt w' := by
  refine ⟨Nat.lt_of_lt_of_le h.1 hb.size, ?_⟩
  have hg : Tryd.prog.globalNamed "internal/strconv.uint64pow10" = some 7 := by kernel_rfl
  have h2 := h.2
  unfold Lib.TabIs World.var? at h2 ⊢
  rw [hg] at h2 ⊢
  simp only [Option.bind_some] at h2 ⊢
  rw [hb.block _ h.1]
  exact h2

theorem itoa_ct (n : Int) (h0 : -9223372036854775808 ≤ n) (h1 : n ≤ 9223372036854775807) (w : World) (hT : PowAt w) :
    Calls Tryd.prog 47 #[.int .i64 n] w fun e w' => e = .returned (.string (bs (Lib.itoa n))) ∧ Below w.heap.size w w' :=
  (Tryd.strconv_Itoa n h0 h1 w hT.2).mono fun e w' ⟨he, k, os, hw⟩ => ⟨he, by rw [hw]; exact grow_below w k os⟩

theorem trimR_ct (s : ByteArray) (w : World) (hs : s.size ≤ 9223372036854775807) :
    Calls Tryd.prog 48 #[.string s, .string ⟨#[48]⟩] w fun e w' => e = .returned (.string (bs (Lib.trimRightB s.data.toList 48))) ∧ w' = w :=
  Tryd.strings_TrimRight_one s 48 (by decide) w hs


/-- what dim.Text tells -/
def textD (m : Nat) (neg : Bool) (u : Bs) : Bs := (if neg then [45] else []) ++ (plainP m ++ u)

end Go.Proofs.YtphdmdncboegjaaDoor.dim
