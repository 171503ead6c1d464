/- Contracts and plain law, a bundle: SelN SelO. -/
import Derived.Test.YtaobpkffcolobaaGreatDoorBD
import Derived.Test.YtaobpkffcolobaaGreatDoorBC
import Derived.Test.YtaobpkffcolobaaGreatDoorBH

namespace Go.Proofs.YtaobpkffcolobaaGreatDoor.sel
open Go.RowKit Go.Proofs.YtaobpkffcolobaaGreatDoor.base Go.Proofs.YtaobpkffcolobaaGreatDoor.tok Go.Proofs.YtaobpkffcolobaaGreatDoor.dim Go.Proofs.YtaobpkffcolobaaGreatDoor.rul
set_option linter.unusedVariables false

theorem word_is {t : Tk} {k : Int} {pre : Bs} (h1 : t.k = k) (h2 : t.raw = pre ++ t.val) (h3 : nameB t.val = true) : wordF t k pre = some t.val := by
  unfold wordF
  rw [if_pos ⟨h1, h2, h3⟩]
def nthTs (k a b : Int) : Ts := .mk k [] 0 [] a b []
def form0 : Bs := [58, 110, 116, 104, 45, 99, 104, 105, 108, 100, 40, 111, 100, 100, 41]
theorem read0 : readS 20 form0 = some [.mk [[nthTs 8 (2) 1]] []] := by
  unfold readS
  rw [if_neg (by decide), cut_is (l := form0) rfl]
  rfl
def form1 : Bs := [58, 78, 84, 72, 45, 67, 72, 73, 76, 68, 40, 69, 86, 69, 78, 41]
theorem read1 : readS 20 form1 = some [.mk [[nthTs 8 (2) 0]] []] := by
  unfold readS
  rw [if_neg (by decide), cut_is (l := form1) rfl]
  rfl
def form2 : Bs := [58, 102, 105, 114, 115, 116, 45, 99, 104, 105, 108, 100]
theorem read2 : readS 20 form2 = some [.mk [[nthTs 8 (0) 1]] []] := by
  unfold readS
  rw [if_neg (by decide), cut_is (l := form2) rfl]
  rfl
def form3 : Bs := [58, 110, 116, 104, 45, 99, 104, 105, 108, 100, 40, 110, 41]
theorem read3 : readS 20 form3 = some [.mk [[nthTs 8 (1) 0]] []] := by
  unfold readS
  rw [if_neg (by decide), cut_is (l := form3) rfl]
  rfl
def form4 : Bs := [58, 110, 116, 104, 45, 99, 104, 105, 108, 100, 40, 45, 110, 41]
theorem read4 : readS 20 form4 = some [.mk [[nthTs 8 (-1) 0]] []] := by
  unfold readS
  rw [if_neg (by decide), cut_is (l := form4) rfl]
  rfl
def form5 : Bs := [58, 110, 116, 104, 45, 108, 97, 115, 116, 45, 99, 104, 105, 108, 100, 40, 51, 110, 41]
theorem read5 : readS 20 form5 = some [.mk [[nthTs 9 (3) 0]] []] := by
  unfold readS
  rw [if_neg (by decide), cut_is (l := form5) rfl]
  rfl
def form6 : Bs := [58, 108, 97, 115, 116, 45, 99, 104, 105, 108, 100]
theorem read6 : readS 20 form6 = some [.mk [[nthTs 9 (0) 1]] []] := by
  unfold readS
  rw [if_neg (by decide), cut_is (l := form6) rfl]
  rfl
def form7 : Bs := [58, 110, 116, 104, 45, 99, 104, 105, 108, 100, 40, 43, 53, 41]
theorem read7 : readS 20 form7 = some [.mk [[nthTs 8 (0) 5]] []] := by
  unfold readS
  rw [if_neg (by decide), cut_is (l := form7) rfl]
  rfl
def form8 : Bs := [58, 110, 116, 104, 45, 99, 104, 105, 108, 100, 40, 45, 110, 43, 51, 41]
theorem read8 : readS 20 form8 = some [.mk [[nthTs 8 (-1) 3]] []] := by
  unfold readS
  rw [if_neg (by decide), cut_is (l := form8) rfl]
  rfl

def listedT : Bs := [97, 32, 62, 32, 46, 98]
theorem read_listed : readS 20 listedT = some [.mk [[ts 2 [97]], [ts 4 [98]]] [62]] := by
  unfold readS
  rw [if_neg (by decide), cut_is (l := listedT) rfl]
  rfl

/-! ### a number alone -/
def numB (b : Int) : Bs := (if b < 0 then [45] else []) ++ dim.plainP (1000 * b.natAbs)
def formB (b : Int) : Bs := [58, 110, 116, 104, 45, 99, 104, 105, 108, 100, 40] ++ (numB b ++ [41])
def readN (d : Nat) (s : Bs) : Option (List Pa) :=
  if 400 < s.length then none else
  match listF d false [] (tok.cutN s.length s) with
  | some (l, _) => if checkB l then some l else none
  | none => none
theorem readN_eq (d : Nat) (s : Bs) : readN d s = readS d s := by
  unfold readN readS
  rw [cutN_eq s.length s (Nat.le_refl _)]
  rfl
def isB (b : Int) : Option (List Pa) → Bool
  | some [.mk [[.mk 8 [] 0 [] 0 c []]] []] => decide (c = b)
  | _ => false
theorem isB_is {b : Int} {r : Option (List Pa)} (h : isB b r = true) : r = some [.mk [[nthTs 8 0 b]] []] := by
  unfold isB at h
  split at h
  · obtain rfl := of_decide_eq_true h
    rfl
  · cases h
end Go.Proofs.YtaobpkffcolobaaGreatDoor.sel

namespace Go.Proofs.YtaobpkffcolobaaGreatDoor.sel
open Go.RowKit Go.Proofs.YtaobpkffcolobaaGreatDoor.base Go.Proofs.YtaobpkffcolobaaGreatDoor.tok Go.Proofs.YtaobpkffcolobaaGreatDoor.dim Go.Proofs.YtaobpkffcolobaaGreatDoor.rul
set_option linter.unusedVariables false

set_option maxRecDepth 100000 in
theorem all_b : ((List.range 1001).all fun k => isB (k : Int) (readN 20 (formB k)) && isB (-(k : Int)) (readN 20 (formB (-(k : Int))))) = true := by kernel_rfl
theorem read_b {b : Int} (h0 : -1000 ≤ b) (h1 : b ≤ 1000) : readS 20 (formB b) = some [.mk [[nthTs 8 0 b]] []] := by
  have h := List.all_eq_true.1 all_b b.natAbs (List.mem_range.2 (by omega))
  rw [Bool.and_eq_true] at h
  rw [← readN_eq]
  by_cases hb : b < 0
  · have := isB_is h.2
    rwa [show -(b.natAbs : Int) = b by omega] at this
  · have := isB_is h.1
    rwa [show (b.natAbs : Int) = b by omega] at this

end Go.Proofs.YtaobpkffcolobaaGreatDoor.sel
