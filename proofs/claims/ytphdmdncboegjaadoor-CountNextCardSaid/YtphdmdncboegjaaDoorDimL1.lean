/- DimBack: the number that is told is read. No walk. -/
import Derived.Test.YtphdmdncboegjaaDoorDimL0
import Derived.Lib.TrimByte
namespace Go.Proofs.YtphdmdncboegjaaDoor.dim
open Go.RowKit Go.Proofs.YtphdmdncboegjaaDoor.base Go.Proofs.YtphdmdncboegjaaDoor.tok
set_option linter.unusedVariables false

/-- the digits behind the point -/
def fracP (r : Nat) : Bs := Lib.trimRightB [UInt8.ofNat (48 + r / 100), UInt8.ofNat (48 + r / 10 % 10), UInt8.ofNat (48 + r % 10)] 48

set_option maxRecDepth 100000 in
theorem frac_all : ∀ r : Fin 1000, (fracP r.val).getD 0 48 = UInt8.ofNat (48 + r.val / 100) ∧ (fracP r.val).getD 1 48 = UInt8.ofNat (48 + r.val / 10 % 10) ∧ (fracP r.val).getD 2 48 = UInt8.ofNat (48 + r.val % 10) ∧ (fracP r.val).all (fun c => digI (nv c)) = true := by
  decide +kernel
theorem frac_is {r : Nat} (h : r < 1000) : (fracP r).getD 0 48 = UInt8.ofNat (48 + r / 100) ∧ (fracP r).getD 1 48 = UInt8.ofNat (48 + r / 10 % 10) ∧ (fracP r).getD 2 48 = UInt8.ofNat (48 + r % 10) ∧ ∀ c ∈ fracP r, digI (nv c) = true := by
  obtain ⟨h0, h1, h2, h3⟩ := frac_all ⟨r, h⟩
  exact ⟨h0, h1, h2, fun c hc => List.all_eq_true.1 h3 c hc⟩

/-- what stands behind the whole digits -/
def pointP (fr : Bs) : Bs := if fr = [] then [] else 46 :: fr
/-- the text of a number without its sign -/
def plainP (m : Nat) : Bs := Lib.decDigits (m / 1000) ++ pointP (fracP (m % 1000))

theorem not_dig46 : digI (nv 46) = false := by decide

/-- what the sum of the digits is -/
theorem sum_is {m : Nat} (hm : m ≤ 1000000000) : addD (addD (addD ((Lib.decDigits (m / 1000)).foldl addD 0) ((fracP (m % 1000)).getD 0 48)) ((fracP (m % 1000)).getD 1 48)) ((fracP (m % 1000)).getD 2 48) = (m : Int) := by
  obtain ⟨h0, h1, h2, -⟩ := frac_is (r := m % 1000) (by omega)
  have a1 := addD_dig (n := ((m / 1000 : Nat) : Int)) (k := m % 1000 / 100) (by omega) (by omega)
  have a2 := addD_dig (n := 10 * ((m / 1000 : Nat) : Int) + ((m % 1000 / 100 : Nat) : Int)) (k := m % 1000 / 10 % 10) (by omega) (by omega)
  have a3 := addD_dig (n := 10 * (10 * ((m / 1000 : Nat) : Int) + ((m % 1000 / 100 : Nat) : Int)) + ((m % 1000 / 10 % 10 : Nat) : Int)) (k := m % 1000 % 10) (by omega) (by omega)
  rw [h0, h1, h2, dec_fold _ (by omega), a1, a2, a3]
  omega

theorem number_at (s u : Bs) (m : Nat) (hm : m ≤ 1000000000) (neg : Bool) (hu : ∀ c, u.head? = some c → digI (nv c) = false ∧ ¬ nv c = 46)
    (hs : (s = [] ∧ neg = false) ∨ (s = [45] ∧ neg = true)) :
    numberP (s ++ (plainP m ++ u)) = (if neg then -(m : Int) else (m : Int), s.length + (plainP m).length) := by
  have hW := dec_digs (m / 1000)
  have hWn := dec_ne (m / 1000)
  have hS := sum_is hm
  obtain ⟨-, -, -, hF⟩ := frac_is (r := m % 1000) (by omega)
  unfold plainP
  generalize Lib.decDigits (m / 1000) = W at *
  generalize fracP (m % 1000) = fr at *
  obtain ⟨c, W', rfl⟩ := List.exists_cons_of_ne_nil hWn
  have hc := hW c (by simp)
  simp [digI] at hc
  have hsign : signAt (s ++ (c :: W' ++ pointP fr ++ u)) = s.length ∧ negP (s ++ (c :: W' ++ pointP fr ++ u)) = neg := by
    rcases hs with ⟨rfl, rfl⟩ | ⟨rfl, rfl⟩
    · refine ⟨?_, ?_⟩
      · show (if nv c = 43 ∨ nv c = 45 then 1 else 0) = 0
        rw [if_neg (by omega)]
      · show decide (nv c = 45) = false
        exact decide_eq_false (by omega)
    · exact ⟨rfl, rfl⟩
  obtain ⟨h1, h2⟩ := hsign
  have hrest : ∀ x, (pointP fr ++ u).head? = some x → digI (nv x) = false := by
    intro x hx
    unfold pointP at hx
    split at hx
    · exact (hu x (by simpa using hx)).1
    · obtain rfl : (46 : UInt8) = x := by simpa using hx
      exact not_dig46
  have d1 : (s ++ (c :: W' ++ pointP fr ++ u)).drop s.length = (c :: W') ++ (pointP fr ++ u) := by
    rw [List.drop_left, List.append_assoc]
  have h3 := digits_app (c :: W') (pointP fr ++ u) hW hrest
  have d2 : (s ++ (c :: W' ++ pointP fr ++ u)).drop (s.length + (c :: W').length) = pointP fr ++ u := by
    rw [← List.drop_drop, d1, List.drop_left]
  have h4 : behindP (pointP fr ++ u) = fr.length := by
    unfold pointP
    split
    · rename_i h
      subst h
      cases u with
      | nil => rfl
      | cons x r =>
        show (if nv x = 46 then digitsP r else 0) = 0
        rw [if_neg (hu x rfl).2]
    · show (if nv (46 : UInt8) = 46 then digitsP (fr ++ u) else 0) = fr.length
      rw [if_pos (by decide)]
      exact digits_app fr u hF (fun x hx => (hu x hx).1)
  have d3 : ((s ++ (c :: W' ++ pointP fr ++ u)).drop (s.length + (c :: W').length + 1)).take fr.length = fr := by
    rw [← List.drop_drop, d2]
    unfold pointP
    split
    · rename_i h
      subst h
      rfl
    · simp
  have hsum : sumP (s ++ (c :: W' ++ pointP fr ++ u)) s.length (c :: W').length fr.length = (m : Int) := by
    unfold sumP
    rw [d1, List.take_left, d3]
    exact hS
  have hlen : (pointP fr).length = if fr.length = 0 then 0 else 1 + fr.length := by
    unfold pointP
    cases fr with
    | nil => rfl
    | cons x r => simp; omega
  unfold numberP
  rw [h1, h2, d1, h3, d2, h4]
  unfold numAt
  rw [if_neg (by simp), hsum]
  simp only [List.length_append, hlen]
  rw [Nat.add_assoc]

end Go.Proofs.YtphdmdncboegjaaDoor.dim
