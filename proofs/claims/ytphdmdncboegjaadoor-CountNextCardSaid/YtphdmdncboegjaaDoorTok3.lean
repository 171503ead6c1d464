/- Contracts: digits, the sum that Number keeps, Number. -/
import Derived.Test.YtphdmdncboegjaaDoorTok2
import Derived.Test.YtphdmdncboegjaaDoorBase4
import Derived.Shelf.Strings.SlTrimAscii
import Derived.Maps.AppendAt
import Derived.Deep.AppendLies
import Derived.Laws.IdiomStrings
namespace Go.Proofs.YtphdmdncboegjaaDoor.tok
open Go.RowKit Go.Proofs.YtphdmdncboegjaaDoor.base
set_option linter.unusedVariables false

theorem all_bytes {P : UInt8 → Prop} (h : ∀ n : Fin 256, P (UInt8.ofNat n.val)) (b : UInt8) : P b := by
  have := h ⟨b.toNat, b.toNat_lt⟩
  simpa using this

/-- how many digits begin it -/
def digitsP (l : Bs) : Nat := (l.takeWhile fun c => digI (nv c)).length

theorem cut_len (p : UInt8 → Bool) (l : Bs) : l.length = (l.takeWhile p).length + (l.dropWhile p).length := by
  have := congrArg List.length (List.takeWhile_append_dropWhile (p := p) (l := l))
  rw [List.length_append] at this
  omega
theorem digits_set (b : UInt8) : ([48, 49, 50, 51, 52, 53, 54, 55, 56, 57] : List UInt8).contains b = digI (nv b) := by
  revert b
  refine fun b => all_bytes (P := fun b => ([48, 49, 50, 51, 52, 53, 54, 55, 56, 57] : List UInt8).contains b = digI (nv b)) ?_ b
  decide +kernel
theorem digits_len (l : Bs) : ((l.length : Nat) : Int) - ((Lib.trimLeftS l [48, 49, 50, 51, 52, 53, 54, 55, 56, 57]).length : Int) = (digitsP l : Int) := by
  have h := cut_len (fun c => digI (nv c)) l
  have e : Lib.trimLeftS l [48, 49, 50, 51, 52, 53, 54, 55, 56, 57] = l.dropWhile fun c => digI (nv c) := by
    unfold Lib.trimLeftS
    congr 1
    funext b
    exact digits_set b
  rw [e]
  unfold digitsP
  omega
theorem digits_le (l : Bs) : digitsP l ≤ l.length := by
  have h := cut_len (fun c => digI (nv c)) l
  unfold digitsP
  omega
theorem bs_size (l : Bs) : (bs l).size = l.length := rfl

theorem ret_i64 {a b : Int} (h : a = b) : Ending.returned (.int .i64 a) = .returned (.int .i64 b) := by rw [h]

theorem trimL_ct (s : ByteArray) (cs : Bs) (hcs : cs.length < 4294967281) (hascii : cs.all (fun b => decide (b.toNat < 128)) = true) (w : World) :
    Calls Tryd.prog 54 #[.string s, .string ⟨cs.toArray⟩] w fun e w' => e = .returned (.string ⟨(Lib.trimLeftS s.data.toList cs).toArray⟩) ∧ Below w.heap.size w w' :=
  Any.strings_TrimLeft_laid Tryd.lays161 (by kernel_rfl) s ⟨cs.toArray⟩ w (by simpa [ByteArray.size] using hcs) (ascii_of_all (by simpa using hascii))

set_option maxHeartbeats 1000000 in
theorem digits_ct (s : ByteArray) (hs : s.size ≤ maxLen) (w : World) : Calls Tryd.prog 97 #[.string s] w fun e w' => e = .returned (.int .i64 (digitsP s.data.toList : Int)) ∧ Below w.heap.size w w' := by
  unfold maxLen at hs
  have hl := Lib.hid (digits_len s.data.toList)
  have hz := Lib.size_eq s
  have hle := digits_le s.data.toList
  have ht : (Lib.trimLeftS s.data.toList [48, 49, 50, 51, 52, 53, 54, 55, 56, 57]).length ≤ s.size := by have := hl.out; omega
  replace hz := Lib.hid hz
  have c1 := Lib.hid (fun w => trimL_ct s [48, 49, 50, 51, 52, 53, 54, 55, 56, 57] (by decide) (by decide) w)
  generalize Lib.trimLeftS s.data.toList [48, 49, 50, 51, 52, 53, 54, 55, 56, 57] = T at *
  go_enter Tryd.func97, Tryd.ntmps97
  go_wp2_with ((go_at_call 54; (with_reducible refine (c1.out _).mono ?_); rintro e w1 ⟨rfl, hb1⟩))
  go_ret
  refine ⟨ret_i64 ?_, hb1⟩
  rw [← hl.out, ← hz.out]

/-- one digit more -/
def addD (n : Int) (c : UInt8) : Int := min (10 * n + (nv c - 48)) 1000000000
theorem addD_bd (n : Int) (c : UInt8) (h0 : 0 ≤ n) (hc : digI (nv c) = true) : 0 ≤ addD n c ∧ addD n c ≤ 1000000000 := by
  simp [digI] at hc
  unfold addD
  omega

theorem grown_set (w : World) (b : Nat) (i : Nat) (u : Value) : w.grownBy (w.setCell ⟨b, i, none⟩ u) (some b) :=
  ⟨rfl, rfl, rfl, by simp [World.setCell], fun k _ hk => Below.heap_setCell _ _ _ _ (fun e => hk (by simp [e]))⟩

set_option maxHeartbeats 1000000 in
theorem add_ct (c : UInt8) (n : Int) (b : Nat) (w : World) (hc : digI (nv c) = true) (h0 : 0 ≤ n) (h1 : n ≤ 1000000000) (h : Blk w b 3 #[.int .i64 n]) :
    Calls Tryd.prog 98 #[.int .u8 (nv c), .pointer (some ⟨b, 0, none⟩)] w fun e w' => e = .returned (.tuple #[]) ∧ Blk w' b 3 #[.int .i64 (addD n c)] ∧ w.grownBy w' (some b) := by
  have hc1 : 48 ≤ nv c ∧ nv c ≤ 57 := by simpa [digI] using hc
  have hd : addD n c = min (10 * n + (nv c - 48)) 1000000000 := rfl
  have c0 := h.cell
  have f0 := h.frozen
  replace h := Lib.hid h
  replace hd := Lib.hid hd
  obtain ⟨hc2, hc3⟩ := hc1
  generalize nv c = x at *
  clear hc
  go_enter Tryd.func98, Tryd.ntmps98
  go_wp2
  go_end0
  rw [hd.out]
  exact ⟨rfl, by simpa using h.out.put 0 _, grown_set _ _ _ _⟩

theorem add48 (n : Int) (b : Nat) (w : World) (h0 : 0 ≤ n) (h1 : n ≤ 1000000000) (h : Blk w b 3 #[.int .i64 n]) :
    Calls Tryd.prog 98 #[.int .u8 48, .pointer (some ⟨b, 0, none⟩)] w fun e w' => e = .returned (.tuple #[]) ∧ Blk w' b 3 #[.int .i64 (addD n 48)] ∧ w.grownBy w' (some b) := add_ct 48 n b w rfl h0 h1 h

/-- []byte(s): a new row -/
theorem bytes_of (s : ByteArray) (w : World) : ∃ cap w', (convert 9 70 (.string s)).run Tryd.prog w = .ok (.slice (some ⟨w.heap.size, 0, none⟩) s.size cap) w' ∧ Below w.heap.size w w' ∧ w.heap.size + 1 ≤ w'.heap.size ∧
    (∀ (j : Nat) (u : UInt8), s.data.toList[j]? = some u → w'.cell? ⟨w.heap.size, j, none⟩ = some (.int .u8 (nv u))) ∧ ∀ j, j < s.size → w'.frozen? ⟨w.heap.size, j, none⟩ = false := by
  refine ⟨_, _, run_bytes_of_string w 9 70 5 s Tryd.underlying9 Tryd.underlying70 Tryd.underlying5, ((Below.refl _ _).drew).alloc (Nat.le_refl _) _, by simp, fun j u hu => ?_, fun j hj => ?_⟩
  · have hj : j < s.data.size := by
      have := (List.getElem?_eq_some_iff.1 hu).1
      simpa using this
    have hb := bytesRow_at s (grownCap w s.size 0 5) j hj
    have hnew : (w.drew.alloc (.cells (bytesRow s (grownCap w s.size 0 5)) 5 ((bytesRow s (grownCap w s.size 0 5)).size, (bytesRow s (grownCap w s.size 0 5)).size + 1))).heap[w.heap.size]? = some (.cells (bytesRow s (grownCap w s.size 0 5)) 5 ((bytesRow s (grownCap w s.size 0 5)).size, (bytesRow s (grownCap w s.size 0 5)).size + 1)) := heap_alloc_new w.drew _
    rw [Lib.cell_of_heap hnew, hb]
    have hu2 : s.data[j] = u := by
      obtain ⟨h1, h2⟩ := List.getElem?_eq_some_iff.1 hu
      simpa using h2
    rw [hu2]
  · have hnew : (w.drew.alloc (.cells (bytesRow s (grownCap w s.size 0 5)) 5 ((bytesRow s (grownCap w s.size 0 5)).size, (bytesRow s (grownCap w s.size 0 5)).size + 1))).heap[w.heap.size]? = some (.cells (bytesRow s (grownCap w s.size 0 5)) 5 ((bytesRow s (grownCap w s.size 0 5)).size, (bytesRow s (grownCap w s.size 0 5)).size + 1)) := heap_alloc_new w.drew _
    have hsz : j < (bytesRow s (grownCap w s.size 0 5)).size := by
      have hj2 : j < s.data.size := hj
      have := bytesRow_at s (grownCap w s.size 0 5) j hj2
      exact (Array.getElem?_eq_some_iff.1 this).1
    simp only [World.frozen?, hnew]
    simp
    omega

theorem take_digits (l : Bs) : ∀ c ∈ l.take (digitsP l), digI (nv c) = true := by
  have h : l.take (digitsP l) = l.takeWhile fun c => digI (nv c) := by
    have h1 := List.takeWhile_append_dropWhile (p := fun c => digI (nv c)) (l := l)
    have h2 := congrArg (List.take (digitsP l)) h1
    rw [← h2, digitsP, List.take_left]
  rw [h]
  intro c hc
  exact (List.all_eq_true.1 (List.all_takeWhile (p := fun c => digI (nv c)) (l := l))) c hc
theorem fold_bd : ∀ (l : Bs) (n : Int), (∀ c ∈ l, digI (nv c) = true) → 0 ≤ n → n ≤ 1000000000 → 0 ≤ l.foldl addD n ∧ l.foldl addD n ≤ 1000000000
  | [], n, _, h0, h1 => ⟨h0, h1⟩
  | c :: l, n, h, h0, h1 => by
    obtain ⟨a, b⟩ := addD_bd n c h0 (h c (by simp))
    exact fold_bd l (addD n c) (fun d hd => h d (by simp [hd])) a b
theorem fold_take {l : Bs} {k : Nat} {c : UInt8} (h : l[k]? = some c) (n : Int) : (l.take (k + 1)).foldl addD n = addD ((l.take k).foldl addD n) c := by
  obtain ⟨hl, he⟩ := List.getElem?_eq_some_iff.1 h
  rw [List.take_succ_eq_append_getElem hl, List.foldl_append, he]
  rfl

end Go.Proofs.YtphdmdncboegjaaDoor.tok
