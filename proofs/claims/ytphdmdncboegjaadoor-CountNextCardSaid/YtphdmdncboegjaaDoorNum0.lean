/- Plain words on numbers, and small laws for the walks of Number. -/
import Derived.Test.YtphdmdncboegjaaDoorTok3
namespace Go.Proofs.YtphdmdncboegjaaDoor.tok
open Go.RowKit Go.Proofs.YtphdmdncboegjaaDoor.base
set_option linter.unusedVariables false

def signAt (l : Bs) : Nat := match l with
  | c :: _ => if nv c = 43 ∨ nv c = 45 then 1 else 0
  | [] => 0
def behindP (r : Bs) : Nat := match r with
  | c :: t => if nv c = 46 then digitsP t else 0
  | [] => 0
def negP (l : Bs) : Bool := match l with
  | c :: _ => decide (nv c = 45)
  | [] => false
/-- the sum of its digits, before its sign -/
def sumP (l : Bs) (f wh be : Nat) : Int :=
  addD (addD (addD (((l.drop f).take wh).foldl addD 0) (((l.drop (f + wh + 1)).take be).getD 0 48)) (((l.drop (f + wh + 1)).take be).getD 1 48)) (((l.drop (f + wh + 1)).take be).getD 2 48)
def numAt (l : Bs) (f wh be : Nat) (neg : Bool) : Int × Nat :=
  if wh + be = 0 then (0, 0) else (if neg then - sumP l f wh be else sumP l f wh be, f + wh + if be = 0 then 0 else 1 + be)
/-- the number at the beginning, in thousandths, and how many bytes it is -/
def numberP (l : Bs) : Int × Nat := numAt l (signAt l) (digitsP (l.drop (signAt l))) (behindP (l.drop (signAt l + digitsP (l.drop (signAt l))))) (negP l)

/-- three more digits, of those behind the point or noughts -/
def loop3 (fr : Bs) (n : Int) (k : Nat) : Int := (List.range k).foldl (fun m i => addD m (fr.getD i 48)) n
theorem bytes_of2 (s : ByteArray) (w : World) (n B : Nat) (D : Bs) (hn : s.size = n) (hB : w.heap.size = B) (hD : s.data.toList = D) : ∃ cap w', (convert 9 70 (.string s)).run Tryd.prog w = .ok (.slice (some ⟨B, 0, none⟩) n cap) w' ∧ Below B w w' ∧ B + 1 ≤ w'.heap.size ∧
    (∀ (j : Nat) (u : UInt8), D[j]? = some u → w'.cell? ⟨B, j, none⟩ = some (.int .u8 (nv u))) := by
  subst hn hB hD
  obtain ⟨c, w', h1, h2, h3, h4, _⟩ := bytes_of s w
  exact ⟨c, w', h1, h2, h3, h4⟩
theorem Blk.grow {w w' : World} {k : Nat} {t : TypeId} {cs : Array Value} {b : Nat} (h : Blk w k t cs) (hg : w.grownBy w' (some b)) (hk : k ≠ b) : Blk w' k t cs := (hg.block k h.lt (by simp [hk])).trans h
theorem below_grow {B b : Nat} {a w w' : World} (h : Below B a w) (hg : w.grownBy w' (some b)) (hb : B ≤ b) (hz : B ≤ w.heap.size) : Below B a w' := h.grown hg hz (fun k hk => by cases hk; exact hb)
theorem take_extract (s : ByteArray) (a n : Nat) : (s.extract a (a + n)).data.toList = (s.data.toList.drop a).take n := by rw [Lib.extract_data, Nat.add_sub_cancel_left]
theorem ret_num {a b m n : Int} (h1 : a = b) (h2 : m = n) : Ending.returned (.tuple #[.int .i64 a, .int .i64 m]) = Ending.returned (.tuple #[.int .i64 b, .int .i64 n]) := by rw [h1, h2]
theorem hp_room {l : Bs} {k : Nat} (h : Lib.hasPrefix (l.drop k) [46] = true) : k + 1 ≤ l.length := by
  rcases Nat.lt_or_ge k l.length with h1 | h1
  · omega
  · rw [List.drop_eq_nil_of_le h1] at h
    exact absurd h (by decide)
theorem getD_byte {t : ByteArray} {m : Nat} (h : m < t.size) (d : UInt8) : t.data.toList.getD m d = t[m] := by
  obtain ⟨⟨l⟩⟩ := t
  have hl : m < l.length := h
  show l.getD m d = l[m]
  rw [List.getD_eq_getElem?_getD, List.getElem?_eq_getElem hl]
  rfl
theorem loop3_step (fr : Bs) (n : Int) (k : Nat) : loop3 fr n (k + 1) = addD (loop3 fr n k) (fr.getD k 48) := by simp [loop3, List.range_succ]
theorem loop3_end (fr : Bs) (n : Int) : loop3 fr n 3 = addD (addD (addD n (fr.getD 0 48)) (fr.getD 1 48)) (fr.getD 2 48) := rfl
theorem getD_dig {fr : Bs} (h : ∀ c ∈ fr, digI (nv c) = true) (k : Nat) : digI (nv (fr.getD k 48)) = true := by
  rw [List.getD_eq_getElem?_getD]
  cases hk : fr[k]? with
  | none => rfl
  | some c => exact h c (List.mem_of_getElem? hk)
theorem loop3_bd (fr : Bs) (n : Int) (h : ∀ c ∈ fr, digI (nv c) = true) (h0 : 0 ≤ n) (h1 : n ≤ 1000000000) : ∀ k, 0 ≤ loop3 fr n k ∧ loop3 fr n k ≤ 1000000000
  | 0 => ⟨h0, h1⟩
  | k + 1 => by
    rw [loop3_step]
    exact addD_bd _ _ (loop3_bd fr n h h0 h1 k).1 (getD_dig h k)

end Go.Proofs.YtphdmdncboegjaaDoor.tok
