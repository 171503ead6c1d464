/- Contracts and plain law, a bundle. -/
import Derived.Lib.Hide
import Derived.Test.YtaobpkffcolobaaGreatDoorBM2
import Derived.Test.YtaobpkffcolobaaGreatDoorBM3
import Derived.Test.YtaobpkffcolobaaGreatDoorBM1
import Derived.Test.YtaobpkffcolobaaGreatDoorBF2
set_option linter.unusedVariables false
set_option maxRecDepth 100000
set_option maxHeartbeats 16000000
open Go.Lib (hid)
namespace Go.Proofs.YtaobpkffcolobaaGreatDoor
namespace sel
open Go.RowKit Go.Sort base tok rul
def okPs (l : List Pa) : Bool := !l.isEmpty && okL l
theorem okT_eq (i : Nat) (k : Int) (n : Bs) (op : UInt8) (v : Bs) (a b : Int) (subs : List Pa) : okT i (.mk k n op v a b subs) = (testB k n op v a b i && (if k = 10 ∨ k = 11 then okPs subs else subs.isEmpty)) := by
 rw [okT.eq_def]
 simp only
 congr 1
 split
 ·cases subs with
  | nil => rfl
  | cons p l => rw [okPs, okL]; rfl
 ·cases subs <;> rfl
theorem any_1 (i : Nat) (n : Bs) (op : UInt8) (v : Bs) (a b : Int) (subs : List Pa) (hn : n.length <= 2000000) (A : Option Addr) (cap : Nat) (w : World) (hM : MaxL w)
  (hP : ∀ W, Below w.heap.size w W -> MaxL W -> Calls Tryz.prog 24 #[.slice A subs.length cap] W (rt W (.bool (okPs subs)))) :
  Calls Tryz.prog 42 #[(aTs 1 (bs n) (nv op) (bs v) a b A subs.length cap), .int .i64 i] w (rt w (.bool (okT i (.mk 1 n op v a b subs)))) := by
 by_cases hi : 0 < i
 ·have hF : okT i (.mk 1 n op v a b subs) = false := by rw [okT_eq]; simp [testB, hi]
  rw [hF]
  apply bad_at1 <;> first | assumption | omega
 obtain rfl : i = 0 := by omega
 by_cases hn0 : n ≠ []
 ·have hF : okT 0 (.mk 1 n op v a b subs) = false := by rw [okT_eq]; simp [testB, hn0]
  rw [hF]
  apply bad_named_1 <;> first | assumption | omega
 obtain rfl : n = [] := by simpa using hn0
 by_cases ho : op = 0
 ·subst ho
  by_cases hv0 : v ≠ []
  ·have hF : okT 0 (.mk 1 [] 0 v a b subs) = false := by rw [okT_eq]; simp [testB, hv0]
   rw [hF]
   apply bad_val_1 <;> first | assumption | omega
  obtain rfl : v = [] := by simpa using hv0
  by_cases ha : a ≠ 0
  ·have hF : okT 0 (.mk 1 [] 0 [] a b subs) = false := by rw [okT_eq]; simp [testB, ha]
   rw [hF]
   apply bad_a_1 <;> first | assumption | omega
  obtain rfl : a = 0 := by simpa using ha
  by_cases hb : b ≠ 0
  ·have hF : okT 0 (.mk 1 [] 0 [] 0 b subs) = false := by rw [okT_eq]; simp [testB, hb]
   rw [hF]
   apply bad_b_1 <;> first | assumption | omega
  obtain rfl : b = 0 := by simpa using hb
  by_cases hsb : subs ≠ []
  ·have hF : okT 0 (.mk 1 [] 0 [] 0 0 subs) = false := by rw [okT_eq]; simp [testB, hsb]
   have hm0 : subs.length ≠ 0 := by simpa using hsb
   rw [hF]
   apply bad_subs_1 <;> first | assumption | omega
  obtain rfl : subs = [] := by simpa using hsb
  have hF : okT 0 (.mk 1 [] 0 [] 0 0 []) = true := by rw [okT_eq]; simp [testB]
  rw [hF]
  apply test_1 <;> first | assumption | omega
 ·have hF : okT 0 (.mk 1 [] op v a b subs) = false := by rw [okT_eq]; simp [testB, ho]
  rw [hF]
  apply bad_op_1 <;> first | assumption | omega
theorem any_2 (i : Nat) (n : Bs) (op : UInt8) (v : Bs) (a b : Int) (subs : List Pa) (hn : n.length <= 2000000) (A : Option Addr) (cap : Nat) (w : World) (hM : MaxL w)
  (hP : ∀ W, Below w.heap.size w W -> MaxL W -> Calls Tryz.prog 24 #[.slice A subs.length cap] W (rt W (.bool (okPs subs)))) :
  Calls Tryz.prog 42 #[(aTs 2 (bs n) (nv op) (bs v) a b A subs.length cap), .int .i64 i] w (rt w (.bool (okT i (.mk 2 n op v a b subs)))) := by
 by_cases hi : 0 < i
 ·have hF : okT i (.mk 2 n op v a b subs) = false := by rw [okT_eq]; simp [testB, hi]
  rw [hF]
  apply bad_at2 <;> first | assumption | omega
 obtain rfl : i = 0 := by omega
 by_cases hn0 : n = []
 ·subst hn0
  have hF : okT 0 (.mk 2 [] op v a b subs) = false := by rw [okT_eq]; simp [testB]
  rw [hF]
  apply bad_unnamed_2 <;> first | assumption | omega
 cases hnb : nameB n with
 | false =>
  have hF : okT 0 (.mk 2 n op v a b subs) = false := by rw [okT_eq]; simp [testB, hnb]
  rw [hF]
  apply bad_name_2 <;> first | assumption | omega
 | true =>
  by_cases hlow : n ≠ lowP n
  ·have hF : okT 0 (.mk 2 n op v a b subs) = false := by rw [okT_eq]; simp [testB, hlow]
   rw [hF]
   apply bad_low_2 <;> first | assumption | omega
  replace hlow : n = lowP n := by simpa using hlow
  by_cases ho : op = 0
  ·subst ho
   by_cases hv0 : v ≠ []
   ·have hF : okT 0 (.mk 2 n 0 v a b subs) = false := by rw [okT_eq]; simp [testB, hnb, hn0, <- hlow, hv0]
    rw [hF]
    apply bad_val_2 <;> first | assumption | omega
   obtain rfl : v = [] := by simpa using hv0
   by_cases ha : a ≠ 0
   ·have hF : okT 0 (.mk 2 n 0 [] a b subs) = false := by rw [okT_eq]; simp [testB, hnb, hn0, <- hlow, ha]
    rw [hF]
    apply bad_a_2 <;> first | assumption | omega
   obtain rfl : a = 0 := by simpa using ha
   by_cases hb : b ≠ 0
   ·have hF : okT 0 (.mk 2 n 0 [] 0 b subs) = false := by rw [okT_eq]; simp [testB, hnb, hn0, <- hlow, hb]
    rw [hF]
    apply bad_b_2 <;> first | assumption | omega
   obtain rfl : b = 0 := by simpa using hb
   by_cases hsb : subs ≠ []
   ·have hF : okT 0 (.mk 2 n 0 [] 0 0 subs) = false := by rw [okT_eq]; simp [testB, hnb, hn0, <- hlow, hsb]
    have hm0 : subs.length ≠ 0 := by simpa using hsb
    rw [hF]
    apply bad_subs_2 <;> first | assumption | omega
   obtain rfl : subs = [] := by simpa using hsb
   have hF : okT 0 (.mk 2 n 0 [] 0 0 []) = true := by rw [okT_eq]; simp [testB, hnb, hn0, <- hlow]
   rw [hF]
   apply test_2 <;> first | assumption | omega
  ·have hF : okT 0 (.mk 2 n op v a b subs) = false := by rw [okT_eq]; simp [testB, hnb, hn0, <- hlow, ho]
   rw [hF]
   apply bad_op_2 <;> first | assumption | omega
theorem any_3 (i : Nat) (n : Bs) (op : UInt8) (v : Bs) (a b : Int) (subs : List Pa) (hn : n.length <= 2000000) (A : Option Addr) (cap : Nat) (w : World) (hM : MaxL w)
  (hP : ∀ W, Below w.heap.size w W -> MaxL W -> Calls Tryz.prog 24 #[.slice A subs.length cap] W (rt W (.bool (okPs subs)))) :
  Calls Tryz.prog 42 #[(aTs 3 (bs n) (nv op) (bs v) a b A subs.length cap), .int .i64 i] w (rt w (.bool (okT i (.mk 3 n op v a b subs)))) := by
 by_cases hn0 : n = []
 ·subst hn0
  have hF : okT i (.mk 3 [] op v a b subs) = false := by rw [okT_eq]; simp [testB]
  rw [hF]
  apply bad_unnamed_34 <;> first | assumption | omega
 cases hnb : nameB n with
 | false =>
  have hF : okT i (.mk 3 n op v a b subs) = false := by rw [okT_eq]; simp [testB, hnb]
  rw [hF]
  apply bad_name_34 <;> first | assumption | omega
 | true =>
  by_cases ho : op = 0
  ·subst ho
   by_cases hv0 : v ≠ []
   ·have hF : okT i (.mk 3 n 0 v a b subs) = false := by rw [okT_eq]; simp [testB, hnb, hn0, hv0]
    rw [hF]
    apply bad_val_34 <;> first | assumption | omega
   obtain rfl : v = [] := by simpa using hv0
   by_cases ha : a ≠ 0
   ·have hF : okT i (.mk 3 n 0 [] a b subs) = false := by rw [okT_eq]; simp [testB, hnb, hn0, ha]
    rw [hF]
    apply bad_a_34 <;> first | assumption | omega
   obtain rfl : a = 0 := by simpa using ha
   by_cases hb : b ≠ 0
   ·have hF : okT i (.mk 3 n 0 [] 0 b subs) = false := by rw [okT_eq]; simp [testB, hnb, hn0, hb]
    rw [hF]
    apply bad_b_34 <;> first | assumption | omega
   obtain rfl : b = 0 := by simpa using hb
   by_cases hsb : subs ≠ []
   ·have hF : okT i (.mk 3 n 0 [] 0 0 subs) = false := by rw [okT_eq]; simp [testB, hnb, hn0, hsb]
    have hm0 : subs.length ≠ 0 := by simpa using hsb
    rw [hF]
    apply bad_subs_34 <;> first | assumption | omega
   obtain rfl : subs = [] := by simpa using hsb
   have hF : okT i (.mk 3 n 0 [] 0 0 []) = true := by rw [okT_eq]; simp [testB, hnb, hn0]
   rw [hF]
   apply test_3 <;> first | assumption | omega
  ·have hF : okT i (.mk 3 n op v a b subs) = false := by rw [okT_eq]; simp [testB, hnb, hn0, ho]
   rw [hF]
   apply bad_op_34 <;> first | assumption | omega
theorem any_4 (i : Nat) (n : Bs) (op : UInt8) (v : Bs) (a b : Int) (subs : List Pa) (hn : n.length <= 2000000) (A : Option Addr) (cap : Nat) (w : World) (hM : MaxL w)
  (hP : ∀ W, Below w.heap.size w W -> MaxL W -> Calls Tryz.prog 24 #[.slice A subs.length cap] W (rt W (.bool (okPs subs)))) :
  Calls Tryz.prog 42 #[(aTs 4 (bs n) (nv op) (bs v) a b A subs.length cap), .int .i64 i] w (rt w (.bool (okT i (.mk 4 n op v a b subs)))) := by
 by_cases hn0 : n = []
 ·subst hn0
  have hF : okT i (.mk 4 [] op v a b subs) = false := by rw [okT_eq]; simp [testB]
  rw [hF]
  apply bad_unnamed_34 <;> first | assumption | omega
 cases hnb : nameB n with
 | false =>
  have hF : okT i (.mk 4 n op v a b subs) = false := by rw [okT_eq]; simp [testB, hnb]
  rw [hF]
  apply bad_name_34 <;> first | assumption | omega
 | true =>
  by_cases ho : op = 0
  ·subst ho
   by_cases hv0 : v ≠ []
   ·have hF : okT i (.mk 4 n 0 v a b subs) = false := by rw [okT_eq]; simp [testB, hnb, hn0, hv0]
    rw [hF]
    apply bad_val_34 <;> first | assumption | omega
   obtain rfl : v = [] := by simpa using hv0
   by_cases ha : a ≠ 0
   ·have hF : okT i (.mk 4 n 0 [] a b subs) = false := by rw [okT_eq]; simp [testB, hnb, hn0, ha]
    rw [hF]
    apply bad_a_34 <;> first | assumption | omega
   obtain rfl : a = 0 := by simpa using ha
   by_cases hb : b ≠ 0
   ·have hF : okT i (.mk 4 n 0 [] 0 b subs) = false := by rw [okT_eq]; simp [testB, hnb, hn0, hb]
    rw [hF]
    apply bad_b_34 <;> first | assumption | omega
   obtain rfl : b = 0 := by simpa using hb
   by_cases hsb : subs ≠ []
   ·have hF : okT i (.mk 4 n 0 [] 0 0 subs) = false := by rw [okT_eq]; simp [testB, hnb, hn0, hsb]
    have hm0 : subs.length ≠ 0 := by simpa using hsb
    rw [hF]
    apply bad_subs_34 <;> first | assumption | omega
   obtain rfl : subs = [] := by simpa using hsb
   have hF : okT i (.mk 4 n 0 [] 0 0 []) = true := by rw [okT_eq]; simp [testB, hnb, hn0]
   rw [hF]
   apply test_4 <;> first | assumption | omega
  ·have hF : okT i (.mk 4 n op v a b subs) = false := by rw [okT_eq]; simp [testB, hnb, hn0, ho]
   rw [hF]
   apply bad_op_34 <;> first | assumption | omega
theorem any_5 (i : Nat) (n : Bs) (op : UInt8) (v : Bs) (a b : Int) (subs : List Pa) (hn : n.length <= 2000000) (A : Option Addr) (cap : Nat) (w : World) (hM : MaxL w)
  (hP : ∀ W, Below w.heap.size w W -> MaxL W -> Calls Tryz.prog 24 #[.slice A subs.length cap] W (rt W (.bool (okPs subs)))) :
  Calls Tryz.prog 42 #[(aTs 5 (bs n) (nv op) (bs v) a b A subs.length cap), .int .i64 i] w (rt w (.bool (okT i (.mk 5 n op v a b subs)))) := by
 by_cases hn0 : n = []
 ·subst hn0
  have hF : okT i (.mk 5 [] op v a b subs) = false := by rw [okT_eq]; simp [testB]
  rw [hF]
  apply bad_unnamed_5 <;> first | assumption | omega
 cases hnb : nameB n with
 | false =>
  have hF : okT i (.mk 5 n op v a b subs) = false := by rw [okT_eq]; simp [testB, hnb]
  rw [hF]
  apply bad_name_5 <;> first | assumption | omega
 | true =>
  by_cases hlow : n ≠ lowP n
  ·have hF : okT i (.mk 5 n op v a b subs) = false := by rw [okT_eq]; simp [testB, hlow]
   rw [hF]
   apply bad_low_5 <;> first | assumption | omega
  replace hlow : n = lowP n := by simpa using hlow
  by_cases ho : op = 0
  ·subst ho
   by_cases hv0 : v ≠ []
   ·have hF : okT i (.mk 5 n 0 v a b subs) = false := by rw [okT_eq]; simp [testB, hnb, hn0, <- hlow, hv0]
    rw [hF]
    apply bad_val_5 <;> first | assumption | omega
   obtain rfl : v = [] := by simpa using hv0
   by_cases ha : a ≠ 0
   ·have hF : okT i (.mk 5 n 0 [] a b subs) = false := by rw [okT_eq]; simp [testB, hnb, hn0, <- hlow, ha]
    rw [hF]
    apply bad_a_5 <;> first | assumption | omega
   obtain rfl : a = 0 := by simpa using ha
   by_cases hb : b ≠ 0
   ·have hF : okT i (.mk 5 n 0 [] 0 b subs) = false := by rw [okT_eq]; simp [testB, hnb, hn0, <- hlow, hb]
    rw [hF]
    apply bad_b_5 <;> first | assumption | omega
   obtain rfl : b = 0 := by simpa using hb
   by_cases hsb : subs ≠ []
   ·have hF : okT i (.mk 5 n 0 [] 0 0 subs) = false := by rw [okT_eq]; simp [testB, hnb, hn0, <- hlow, hsb]
    have hm0 : subs.length ≠ 0 := by simpa using hsb
    rw [hF]
    apply bad_subs_5 <;> first | assumption | omega
   obtain rfl : subs = [] := by simpa using hsb
   have hF : okT i (.mk 5 n 0 [] 0 0 []) = true := by rw [okT_eq]; simp [testB, hnb, hn0, <- hlow]
   rw [hF]
   apply test_5 <;> first | assumption | omega
  ·cases hoo : opOk op with
   | false =>
    have hF : okT i (.mk 5 n op v a b subs) = false := by rw [okT_eq]; simp [testB, hnb, hn0, <- hlow, ho, hoo]
    rw [hF]
    apply bad_op_5 <;> first | assumption | omega
   | true =>
    by_cases ha : a ≠ 0
    ·have hF : okT i (.mk 5 n op v a b subs) = false := by rw [okT_eq]; simp [testB, hnb, hn0, <- hlow, ho, hoo, ha]
     rw [hF]
     apply bad_a_5o <;> first | assumption | omega
    obtain rfl : a = 0 := by simpa using ha
    by_cases hb : b ≠ 0
    ·have hF : okT i (.mk 5 n op v 0 b subs) = false := by rw [okT_eq]; simp [testB, hnb, hn0, <- hlow, ho, hoo, hb]
     rw [hF]
     apply bad_b_5o <;> first | assumption | omega
    obtain rfl : b = 0 := by simpa using hb
    by_cases hsb : subs ≠ []
    ·have hF : okT i (.mk 5 n op v 0 0 subs) = false := by rw [okT_eq]; simp [testB, hnb, hn0, <- hlow, ho, hoo, hsb]
     have hm0 : subs.length ≠ 0 := by simpa using hsb
     rw [hF]
     apply bad_subs_5o <;> first | assumption | omega
    obtain rfl : subs = [] := by simpa using hsb
    have hF : okT i (.mk 5 n op v 0 0 []) = true := by rw [okT_eq]; simp [testB, hnb, hn0, <- hlow, ho, hoo]
    rw [hF]
    apply test_5o <;> first | assumption | omega
theorem any_6 (i : Nat) (n : Bs) (op : UInt8) (v : Bs) (a b : Int) (subs : List Pa) (hn : n.length <= 2000000) (A : Option Addr) (cap : Nat) (w : World) (hM : MaxL w)
  (hP : ∀ W, Below w.heap.size w W -> MaxL W -> Calls Tryz.prog 24 #[.slice A subs.length cap] W (rt W (.bool (okPs subs)))) :
  Calls Tryz.prog 42 #[(aTs 6 (bs n) (nv op) (bs v) a b A subs.length cap), .int .i64 i] w (rt w (.bool (okT i (.mk 6 n op v a b subs)))) := by
 by_cases hn0 : n ≠ []
 ·have hF : okT i (.mk 6 n op v a b subs) = false := by rw [okT_eq]; simp [testB, hn0]
  rw [hF]
  apply bad_named_6p <;> first | assumption | omega
 obtain rfl : n = [] := by simpa using hn0
 by_cases ho : op = 0
 ·subst ho
  by_cases hv0 : v ≠ []
  ·have hF : okT i (.mk 6 [] 0 v a b subs) = false := by rw [okT_eq]; simp [testB, hv0]
   rw [hF]
   apply bad_val_67 <;> first | assumption | omega
  obtain rfl : v = [] := by simpa using hv0
  by_cases ha : a ≠ 0
  ·have hF : okT i (.mk 6 [] 0 [] a b subs) = false := by rw [okT_eq]; simp [testB, ha]
   rw [hF]
   apply bad_a_67 <;> first | assumption | omega
  obtain rfl : a = 0 := by simpa using ha
  by_cases hb : b ≠ 0
  ·have hF : okT i (.mk 6 [] 0 [] 0 b subs) = false := by rw [okT_eq]; simp [testB, hb]
   rw [hF]
   apply bad_b_67 <;> first | assumption | omega
  obtain rfl : b = 0 := by simpa using hb
  by_cases hsb : subs ≠ []
  ·have hF : okT i (.mk 6 [] 0 [] 0 0 subs) = false := by rw [okT_eq]; simp [testB, hsb]
   have hm0 : subs.length ≠ 0 := by simpa using hsb
   rw [hF]
   apply bad_subs_67 <;> first | assumption | omega
  obtain rfl : subs = [] := by simpa using hsb
  have hF : okT i (.mk 6 [] 0 [] 0 0 []) = true := by rw [okT_eq]; simp [testB]
  rw [hF]
  apply test_6 <;> first | assumption | omega
 ·have hF : okT i (.mk 6 [] op v a b subs) = false := by rw [okT_eq]; simp [testB, ho]
  rw [hF]
  apply bad_op_67 <;> first | assumption | omega
theorem any_7 (i : Nat) (n : Bs) (op : UInt8) (v : Bs) (a b : Int) (subs : List Pa) (hn : n.length <= 2000000) (A : Option Addr) (cap : Nat) (w : World) (hM : MaxL w)
  (hP : ∀ W, Below w.heap.size w W -> MaxL W -> Calls Tryz.prog 24 #[.slice A subs.length cap] W (rt W (.bool (okPs subs)))) :
  Calls Tryz.prog 42 #[(aTs 7 (bs n) (nv op) (bs v) a b A subs.length cap), .int .i64 i] w (rt w (.bool (okT i (.mk 7 n op v a b subs)))) := by
 by_cases hn0 : n ≠ []
 ·have hF : okT i (.mk 7 n op v a b subs) = false := by rw [okT_eq]; simp [testB, hn0]
  rw [hF]
  apply bad_named_6p <;> first | assumption | omega
 obtain rfl : n = [] := by simpa using hn0
 by_cases ho : op = 0
 ·subst ho
  by_cases hv0 : v ≠ []
  ·have hF : okT i (.mk 7 [] 0 v a b subs) = false := by rw [okT_eq]; simp [testB, hv0]
   rw [hF]
   apply bad_val_67 <;> first | assumption | omega
  obtain rfl : v = [] := by simpa using hv0
  by_cases ha : a ≠ 0
  ·have hF : okT i (.mk 7 [] 0 [] a b subs) = false := by rw [okT_eq]; simp [testB, ha]
   rw [hF]
   apply bad_a_67 <;> first | assumption | omega
  obtain rfl : a = 0 := by simpa using ha
  by_cases hb : b ≠ 0
  ·have hF : okT i (.mk 7 [] 0 [] 0 b subs) = false := by rw [okT_eq]; simp [testB, hb]
   rw [hF]
   apply bad_b_67 <;> first | assumption | omega
  obtain rfl : b = 0 := by simpa using hb
  by_cases hsb : subs ≠ []
  ·have hF : okT i (.mk 7 [] 0 [] 0 0 subs) = false := by rw [okT_eq]; simp [testB, hsb]
   have hm0 : subs.length ≠ 0 := by simpa using hsb
   rw [hF]
   apply bad_subs_67 <;> first | assumption | omega
  obtain rfl : subs = [] := by simpa using hsb
  have hF : okT i (.mk 7 [] 0 [] 0 0 []) = true := by rw [okT_eq]; simp [testB]
  rw [hF]
  apply test_7 <;> first | assumption | omega
 ·have hF : okT i (.mk 7 [] op v a b subs) = false := by rw [okT_eq]; simp [testB, ho]
  rw [hF]
  apply bad_op_67 <;> first | assumption | omega
theorem any_8 (i : Nat) (n : Bs) (op : UInt8) (v : Bs) (a b : Int) (subs : List Pa) (hn : n.length <= 2000000) (A : Option Addr) (cap : Nat) (w : World) (hM : MaxL w)
  (hP : ∀ W, Below w.heap.size w W -> MaxL W -> Calls Tryz.prog 24 #[.slice A subs.length cap] W (rt W (.bool (okPs subs)))) :
  Calls Tryz.prog 42 #[(aTs 8 (bs n) (nv op) (bs v) a b A subs.length cap), .int .i64 i] w (rt w (.bool (okT i (.mk 8 n op v a b subs)))) := by
 by_cases hn0 : n ≠ []
 ·have hF : okT i (.mk 8 n op v a b subs) = false := by rw [okT_eq]; simp [testB, hn0]
  rw [hF]
  apply bad_named_6p <;> first | assumption | omega
 obtain rfl : n = [] := by simpa using hn0
 by_cases ho : op = 0
 ·subst ho
  by_cases hv0 : v ≠ []
  ·have hF : okT i (.mk 8 [] 0 v a b subs) = false := by rw [okT_eq]; simp [testB, hv0]
   rw [hF]
   apply bad_val_89 <;> first | assumption | omega
  obtain rfl : v = [] := by simpa using hv0
  by_cases h1 : min a b < -1000
  ·have hF : okT i (.mk 8 [] 0 [] a b subs) = false := by rw [okT_eq]; simp [testB, show ¬ (-1000 <= min a b /\ max a b <= 1000) from by omega]
   rw [hF]
   apply bad_min <;> first | assumption | omega
  by_cases h2 : 1000 < max a b
  ·have hF : okT i (.mk 8 [] 0 [] a b subs) = false := by rw [okT_eq]; simp [testB, show ¬ (-1000 <= min a b /\ max a b <= 1000) from by omega]
   rw [hF]
   apply bad_max <;> first | assumption | omega
  by_cases hsb : subs ≠ []
  ·have hF : okT i (.mk 8 [] 0 [] a b subs) = false := by rw [okT_eq]; simp [testB, show -1000 <= min a b /\ max a b <= 1000 from by omega, hsb]
   have hm0 : subs.length ≠ 0 := by simpa using hsb
   rw [hF]
   apply bad_subs_89 <;> first | assumption | omega
  obtain rfl : subs = [] := by simpa using hsb
  have hF : okT i (.mk 8 [] 0 [] a b []) = true := by rw [okT_eq]; simp [testB, show -1000 <= min a b /\ max a b <= 1000 from by omega]
  rw [hF]
  apply test_8 <;> first | assumption | omega
 ·have hF : okT i (.mk 8 [] op v a b subs) = false := by rw [okT_eq]; simp [testB, ho]
  rw [hF]
  apply bad_op_89 <;> first | assumption | omega
theorem any_9 (i : Nat) (n : Bs) (op : UInt8) (v : Bs) (a b : Int) (subs : List Pa) (hn : n.length <= 2000000) (A : Option Addr) (cap : Nat) (w : World) (hM : MaxL w)
  (hP : ∀ W, Below w.heap.size w W -> MaxL W -> Calls Tryz.prog 24 #[.slice A subs.length cap] W (rt W (.bool (okPs subs)))) :
  Calls Tryz.prog 42 #[(aTs 9 (bs n) (nv op) (bs v) a b A subs.length cap), .int .i64 i] w (rt w (.bool (okT i (.mk 9 n op v a b subs)))) := by
 by_cases hn0 : n ≠ []
 ·have hF : okT i (.mk 9 n op v a b subs) = false := by rw [okT_eq]; simp [testB, hn0]
  rw [hF]
  apply bad_named_6p <;> first | assumption | omega
 obtain rfl : n = [] := by simpa using hn0
 by_cases ho : op = 0
 ·subst ho
  by_cases hv0 : v ≠ []
  ·have hF : okT i (.mk 9 [] 0 v a b subs) = false := by rw [okT_eq]; simp [testB, hv0]
   rw [hF]
   apply bad_val_89 <;> first | assumption | omega
  obtain rfl : v = [] := by simpa using hv0
  by_cases h1 : min a b < -1000
  ·have hF : okT i (.mk 9 [] 0 [] a b subs) = false := by rw [okT_eq]; simp [testB, show ¬ (-1000 <= min a b /\ max a b <= 1000) from by omega]
   rw [hF]
   apply bad_min <;> first | assumption | omega
  by_cases h2 : 1000 < max a b
  ·have hF : okT i (.mk 9 [] 0 [] a b subs) = false := by rw [okT_eq]; simp [testB, show ¬ (-1000 <= min a b /\ max a b <= 1000) from by omega]
   rw [hF]
   apply bad_max <;> first | assumption | omega
  by_cases hsb : subs ≠ []
  ·have hF : okT i (.mk 9 [] 0 [] a b subs) = false := by rw [okT_eq]; simp [testB, show -1000 <= min a b /\ max a b <= 1000 from by omega, hsb]
   have hm0 : subs.length ≠ 0 := by simpa using hsb
   rw [hF]
   apply bad_subs_89 <;> first | assumption | omega
  obtain rfl : subs = [] := by simpa using hsb
  have hF : okT i (.mk 9 [] 0 [] a b []) = true := by rw [okT_eq]; simp [testB, show -1000 <= min a b /\ max a b <= 1000 from by omega]
  rw [hF]
  apply test_9 <;> first | assumption | omega
 ·have hF : okT i (.mk 9 [] op v a b subs) = false := by rw [okT_eq]; simp [testB, ho]
  rw [hF]
  apply bad_op_89 <;> first | assumption | omega
theorem any_10 (i : Nat) (n : Bs) (op : UInt8) (v : Bs) (a b : Int) (subs : List Pa) (hn : n.length <= 2000000) (A : Option Addr) (cap : Nat) (w : World) (hM : MaxL w)
  (hP : ∀ W, Below w.heap.size w W -> MaxL W -> Calls Tryz.prog 24 #[.slice A subs.length cap] W (rt W (.bool (okPs subs)))) :
  Calls Tryz.prog 42 #[(aTs 10 (bs n) (nv op) (bs v) a b A subs.length cap), .int .i64 i] w (rt w (.bool (okT i (.mk 10 n op v a b subs)))) := by
 by_cases hn0 : n ≠ []
 ·have hF : okT i (.mk 10 n op v a b subs) = false := by rw [okT_eq]; simp [testB, hn0]
  rw [hF]
  apply bad_named_6p <;> first | assumption | omega
 obtain rfl : n = [] := by simpa using hn0
 by_cases ho : op = 0
 ·subst ho
  by_cases hv0 : v ≠ []
  ·have hF : okT i (.mk 10 [] 0 v a b subs) = false := by rw [okT_eq]; simp [testB, hv0]
   rw [hF]
   apply bad_val_ab <;> first | assumption | omega
  obtain rfl : v = [] := by simpa using hv0
  by_cases ha : a ≠ 0
  ·have hF : okT i (.mk 10 [] 0 [] a b subs) = false := by rw [okT_eq]; simp [testB, ha]
   rw [hF]
   apply bad_a_ab <;> first | assumption | omega
  obtain rfl : a = 0 := by simpa using ha
  by_cases hb : b ≠ 0
  ·have hF : okT i (.mk 10 [] 0 [] 0 b subs) = false := by rw [okT_eq]; simp [testB, hb]
   rw [hF]
   apply bad_b_ab <;> first | assumption | omega
  obtain rfl : b = 0 := by simpa using hb
  cases hps : okPs subs with
  | false =>
   rw [hps] at hP
   have hF : okT i (.mk 10 [] 0 [] 0 0 subs) = false := by rw [okT_eq]; simp [testB, hps]
   rw [hF]
   apply bad_subs_ab <;> first | assumption | omega
  | true =>
   rw [hps] at hP
   have hF : okT i (.mk 10 [] 0 [] 0 0 subs) = true := by rw [okT_eq]; simp [testB, hps]
   rw [hF]
   apply test_10 <;> first | assumption | omega
 ·have hF : okT i (.mk 10 [] op v a b subs) = false := by rw [okT_eq]; simp [testB, ho]
  rw [hF]
  apply bad_op_ab <;> first | assumption | omega
theorem any_11 (i : Nat) (n : Bs) (op : UInt8) (v : Bs) (a b : Int) (subs : List Pa) (hn : n.length <= 2000000) (A : Option Addr) (cap : Nat) (w : World) (hM : MaxL w)
  (hP : ∀ W, Below w.heap.size w W -> MaxL W -> Calls Tryz.prog 24 #[.slice A subs.length cap] W (rt W (.bool (okPs subs)))) :
  Calls Tryz.prog 42 #[(aTs 11 (bs n) (nv op) (bs v) a b A subs.length cap), .int .i64 i] w (rt w (.bool (okT i (.mk 11 n op v a b subs)))) := by
 by_cases hn0 : n ≠ []
 ·have hF : okT i (.mk 11 n op v a b subs) = false := by rw [okT_eq]; simp [testB, hn0]
  rw [hF]
  apply bad_named_6p <;> first | assumption | omega
 obtain rfl : n = [] := by simpa using hn0
 by_cases ho : op = 0
 ·subst ho
  by_cases hv0 : v ≠ []
  ·have hF : okT i (.mk 11 [] 0 v a b subs) = false := by rw [okT_eq]; simp [testB, hv0]
   rw [hF]
   apply bad_val_ab <;> first | assumption | omega
  obtain rfl : v = [] := by simpa using hv0
  by_cases ha : a ≠ 0
  ·have hF : okT i (.mk 11 [] 0 [] a b subs) = false := by rw [okT_eq]; simp [testB, ha]
   rw [hF]
   apply bad_a_ab <;> first | assumption | omega
  obtain rfl : a = 0 := by simpa using ha
  by_cases hb : b ≠ 0
  ·have hF : okT i (.mk 11 [] 0 [] 0 b subs) = false := by rw [okT_eq]; simp [testB, hb]
   rw [hF]
   apply bad_b_ab <;> first | assumption | omega
  obtain rfl : b = 0 := by simpa using hb
  cases hps : okPs subs with
  | false =>
   rw [hps] at hP
   have hF : okT i (.mk 11 [] 0 [] 0 0 subs) = false := by rw [okT_eq]; simp [testB, hps]
   rw [hF]
   apply bad_subs_ab <;> first | assumption | omega
  | true =>
   rw [hps] at hP
   have hF : okT i (.mk 11 [] 0 [] 0 0 subs) = true := by rw [okT_eq]; simp [testB, hps]
   rw [hF]
   apply test_11 <;> first | assumption | omega
 ·have hF : okT i (.mk 11 [] op v a b subs) = false := by rw [okT_eq]; simp [testB, ho]
  rw [hF]
  apply bad_op_ab <;> first | assumption | omega
theorem test_any (i : Nat) (k : Int) (n : Bs) (op : UInt8) (v : Bs) (a b : Int) (subs : List Pa) (hn : n.length <= 2000000) (A : Option Addr) (cap : Nat) (w : World) (hM : MaxL w)
  (hP : ∀ W, Below w.heap.size w W -> MaxL W -> Calls Tryz.prog 24 #[.slice A subs.length cap] W (rt W (.bool (okPs subs)))) :
  Calls Tryz.prog 42 #[(aTs k (bs n) (nv op) (bs v) a b A subs.length cap), .int .i64 i] w (rt w (.bool (okT i (.mk k n op v a b subs)))) := by
 by_cases hu : k < 1
 ·have hF : okT i (.mk k n op v a b subs) = false := by rw [okT_eq]; simp [testB, show ¬ 1 <= k from by omega]
  rw [hF]
  apply bad_under <;> first | assumption | omega
 by_cases ho : 11 < k
 ·have hF : okT i (.mk k n op v a b subs) = false := by rw [okT_eq]; simp [testB, show ¬ k <= 11 from by omega]
  rw [hF]
  apply bad_over <;> first | assumption | omega
 rcases (show k = 1 ∨ k = 2 ∨ k = 3 ∨ k = 4 ∨ k = 5 ∨ k = 6 ∨ k = 7 ∨ k = 8 ∨ k = 9 ∨ k = 10 ∨ k = 11 from by omega) with rfl | rfl | rfl | rfl | rfl | rfl | rfl | rfl | rfl | rfl | rfl
 ·exact any_1 i n op v a b subs hn A cap w hM hP
 ·exact any_2 i n op v a b subs hn A cap w hM hP
 ·exact any_3 i n op v a b subs hn A cap w hM hP
 ·exact any_4 i n op v a b subs hn A cap w hM hP
 ·exact any_5 i n op v a b subs hn A cap w hM hP
 ·exact any_6 i n op v a b subs hn A cap w hM hP
 ·exact any_7 i n op v a b subs hn A cap w hM hP
 ·exact any_8 i n op v a b subs hn A cap w hM hP
 ·exact any_9 i n op v a b subs hn A cap w hM hP
 ·exact any_10 i n op v a b subs hn A cap w hM hP
 ·exact any_11 i n op v a b subs hn A cap w hM hP
end sel
end Go.Proofs.YtaobpkffcolobaaGreatDoor
