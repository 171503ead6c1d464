/- The first token of a text, in plain words. -/
import Derived.Test.YtphdmdncboegjaaDoorTok7
namespace Go.Proofs.YtphdmdncboegjaaDoor.tok
open Go.RowKit Go.Proofs.YtphdmdncboegjaaDoor.base
set_option linter.unusedVariables false

def blankB (c : UInt8) : Bool := ([32, 9, 10, 12, 13] : List UInt8).contains c
def spaceP (l : Bs) : Nat := (l.takeWhile blankB).length
def noteP (l : Bs) : Tk := ⟨9, if 0 ≤ Lib.index (l.drop 2) [42, 47] then l.take ((Lib.index (l.drop 2) [42, 47]).toNat + 4) else l, [], 0⟩
def quoteP : Bs → Bool
  | c :: _ => decide (nv c = 39 ∨ nv c = 34)
  | [] => false
def hashP : Bs → Bool
  | c :: d :: r => decide (nv c = 35) && (signI (nv d) || escP (d :: r))
  | _ => false
def atP : Bs → Bool
  | c :: r => decide (nv c = 64) && beginsP r
  | [] => false
def oneK : Bs → Int
  | c :: _ => if nv c = 40 ∨ nv c = 91 ∨ nv c = 123 then 10 else if nv c = 41 ∨ nv c = 93 ∨ nv c = 125 then 11 else if nv c = 92 then 6 else 12
  | [] => 12
def wordP (l : Bs) : Tk :=
  if Lib.hasPrefix (l.drop (namedP 1 l 0).raw.length) [40] then ⟨2, l.take ((namedP 1 l 0).raw.length + 1), (namedP 1 l 0).val, (namedP 1 l 0).num⟩ else namedP 1 l 0
/-- the first token -/
def firstP (l : Bs) : Tk :=
  if 0 < spaceP l then ⟨8, l.take (spaceP l), [], 0⟩ else
  if Lib.hasPrefix l [47, 42] then noteP l else
  if quoteP l then textP l else
  if hashP l then namedP 4 l 1 else
  if atP l then namedP 3 l 1 else
  if 0 < (numberP l).2 then numTkP l (numberP l).1 (numberP l).2 else
  if beginsP l then wordP l else ⟨oneK l, l.take 1, [], 0⟩

theorem space_len (l : Bs) : (Lib.trimLeftS l [32, 9, 10, 12, 13]).length + spaceP l = l.length := by
  have h := cut_len blankB l
  have e : Lib.trimLeftS l [32, 9, 10, 12, 13] = l.dropWhile blankB := by
    unfold Lib.trimLeftS blankB
    rfl
  rw [e]
  unfold spaceP
  omega

theorem digitsP_zero {c : UInt8} {r : Bs} (h : digI (nv c) = false) : digitsP (c :: r) = 0 := by
  unfold digitsP
  rw [List.takeWhile_cons_of_neg (by simpa using h)]
  rfl
/-- what begins with another sign is no number -/
theorem number_no {c : UInt8} {r : Bs} (h1 : ¬ nv c = 43) (h2 : ¬ nv c = 45) (h3 : ¬ nv c = 46) (h4 : digI (nv c) = false) : (numberP (c :: r)).2 = 0 := by
  have hs : signAt (c :: r) = 0 := by simp [signAt, h1, h2]
  unfold numberP
  rw [hs, List.drop_zero, digitsP_zero h4]
  have hb : behindP ((c :: r).drop (0 + 0)) = 0 := by simp [behindP, h3]
  rw [hb]
  rfl
theorem number_no' {l : Bs} {c : UInt8} (h : l.head? = some c) (hn : 0 < (numberP l).2) : ¬ nv c = 35 ∧ ¬ nv c = 64 ∧ ¬ nv c = 39 ∧ ¬ nv c = 34 := by
  match l, h with
  | a :: r, h =>
    obtain rfl : a = c := by simpa using h
    refine ⟨fun e => ?_, fun e => ?_, fun e => ?_, fun e => ?_⟩ <;>
    · have := number_no (c := a) (r := r) (by omega) (by omega) (by omega) (by simp [digI]; omega)
      omega
theorem begins_no' {l : Bs} {c : UInt8} (h : l.head? = some c) (hn : beginsP l = true) : ¬ nv c = 35 ∧ ¬ nv c = 64 ∧ ¬ nv c = 39 ∧ ¬ nv c = 34 := by
  have key : ∀ x : Int, x = nv c → (x = 35 ∨ x = 64 ∨ x = 39 ∨ x = 34) → False := by
    intro x hx hv
    match l, h with
    | [a], h =>
      obtain rfl : a = c := by simpa using h
      simp only [beginsP, startsI, decide_eq_true_eq] at hn
      omega
    | a :: d :: r, h =>
      obtain rfl : a = c := by simpa using h
      have h45 : ¬ nv a = 45 := by omega
      simp only [beginsP, if_neg h45, startsI, escP, Bool.or_eq_true, Bool.and_eq_true, decide_eq_true_eq] at hn
      omega
  exact ⟨fun e => key _ rfl (Or.inl e), fun e => key _ rfl (Or.inr (Or.inl e)), fun e => key _ rfl (Or.inr (Or.inr (Or.inl e))), fun e => key _ rfl (Or.inr (Or.inr (Or.inr e)))⟩

theorem head_of {s : ByteArray} (h : 0 < s.size) : s.data.toList.head? = some s[0] := by
  obtain ⟨⟨l⟩⟩ := s
  match l, h with
  | a :: r, _ => rfl
theorem quote_of {s : ByteArray} (h : 0 < s.size) : quoteP s.data.toList = decide (nv s[0] = 39 ∨ nv s[0] = 34) := by
  obtain ⟨⟨l⟩⟩ := s
  match l, h with
  | a :: r, _ => rfl
theorem hash_long {s : ByteArray} (h : 1 < s.size) : hashP s.data.toList = (decide (nv (s[0]'(by omega)) = 35) && (signI (nv s[1]) || escP (s.extract 1 s.size).data.toList)) := by
  rw [Lib.extract_to_end]
  obtain ⟨⟨l⟩⟩ := s
  match l, h with
  | a :: b :: r, _ => rfl
theorem hash_short {s : ByteArray} (h : s.size ≤ 1) : hashP s.data.toList = false := by
  obtain ⟨⟨l⟩⟩ := s
  match l, h with
  | [], _ => rfl
  | [a], _ => rfl
theorem at_of {s : ByteArray} (h : 0 < s.size) : atP s.data.toList = (decide (nv s[0] = 64) && beginsP (s.extract 1 s.size).data.toList) := by
  rw [Lib.extract_to_end]
  obtain ⟨⟨l⟩⟩ := s
  match l, h with
  | a :: r, _ => rfl
theorem one_of {s : ByteArray} (h : 0 < s.size) : oneK s.data.toList = if nv s[0] = 40 ∨ nv s[0] = 91 ∨ nv s[0] = 123 then 10 else if nv s[0] = 41 ∨ nv s[0] = 93 ∨ nv s[0] = 125 then 11 else if nv s[0] = 92 then 6 else 12 := by
  obtain ⟨⟨l⟩⟩ := s
  match l, h with
  | a :: r, _ => rfl

/-- the number of the library's table is there -/
def MaxL (w : World) : Prop := ∃ m, w.cell? ⟨1, 0, none⟩ = some (.int .i64 m)
theorem MaxL.lt {w : World} (h : MaxL w) : 1 < w.heap.size := by
  obtain ⟨m, hm⟩ := h
  exact World.block_lt_of_cell? w _ hm
theorem MaxL.on {w w' : World} {B : Nat} (h : MaxL w) (hb : Below B w w') (hB : 1 < B) : MaxL w' := by
  obtain ⟨m, hm⟩ := h
  exact ⟨m, (hb.cell (p := ⟨1, 0, none⟩) hB).trans hm⟩

end Go.Proofs.YtphdmdncboegjaaDoor.tok
