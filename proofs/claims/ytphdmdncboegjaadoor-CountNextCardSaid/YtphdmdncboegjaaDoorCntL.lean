/- CountNext: letters and Roman digits of a number; the plain law. No walk. -/
import Derived.Test.YtphdmdncboegjaaDoorDimL0
import Derived.Lib.Case
namespace Go.Proofs.YtphdmdncboegjaaDoor.cnt
open Go.RowKit Go.Proofs.YtphdmdncboegjaaDoor.base Go.Proofs.YtphdmdncboegjaaDoor.tok Go.Proofs.YtphdmdncboegjaaDoor.dim
set_option linter.unusedVariables false

/-- the letters of a number, the last one first -/
def letR : Nat → Nat → Bs
  | 0, _ => []
  | f + 1, n => if n = 0 then [] else UInt8.ofNat (97 + (n - 1) % 26) :: letR f ((n - 1) / 26)
def letP (n : Nat) : Bs := (letR n n).reverse
def romT : List (Nat × Bs) := [(1000, [109]), (900, [99, 109]), (500, [100]), (400, [99, 100]), (100, [99]), (90, [120, 99]), (50, [108]), (40, [120, 108]), (10, [120]), (9, [105, 120]), (5, [118]), (4, [105, 118]), (1, [105])]
def romF : List (Nat × Bs) → Nat → Bs
  | [], _ => []
  | (d, s) :: T, n => (List.replicate (n / d) s).flatten ++ romF T (n % d)
def romP (n : Nat) : Bs := romF romT n
/-- a mark -/
def markP (k n : Nat) : Bs := if k = 2 then Lib.decDigits n else if k = 3 then letP n else if k = 4 then Lib.toUpperA (letP n) else if k = 5 then romP n else Lib.toUpperA (romP n)

/-! ### Letters: shorter, or as long and ahead -/
def shortB (s t : Bs) : Bool := decide (s.length < t.length) || (decide (s.length = t.length) && Op.bytesLess s t)
theorem less_irr : ∀ s : Bs, Op.bytesLess s s = false
  | [] => rfl
  | a :: s => by simp [Op.bytesLess, less_irr s]
theorem less_trans : ∀ s t u : Bs, Op.bytesLess s t = true → Op.bytesLess t u = true → Op.bytesLess s u = true
  | _, _, [], _, h2 => by simp [Op.bytesLess] at h2
  | _, [], _ :: _, h1, _ => by simp [Op.bytesLess] at h1
  | [], _ :: _, _ :: _, _, _ => by simp [Op.bytesLess]
  | a :: s, b :: t, c :: u, h1, h2 => by
    have ih := less_trans s t u
    simp only [Op.bytesLess, Bool.or_eq_true, Bool.and_eq_true, decide_eq_true_eq, beq_iff_eq, UInt8.lt_iff_toNat_lt] at h1 h2 ⊢
    rcases h1 with h1 | ⟨rfl, h1⟩
    · rcases h2 with h2 | ⟨rfl, h2⟩
      · left; omega
      · left; exact h1
    · rcases h2 with h2 | ⟨rfl, h2⟩
      · left; exact h2
      · right; exact ⟨rfl, ih h1 h2⟩
theorem short_irr (s : Bs) : shortB s s = false := by simp [shortB, less_irr]
theorem short_trans {s t u : Bs} (h1 : shortB s t = true) (h2 : shortB t u = true) : shortB s u = true := by
  simp only [shortB, Bool.or_eq_true, Bool.and_eq_true, decide_eq_true_eq] at h1 h2 ⊢
  rcases h1 with h1 | ⟨e1, h1⟩
  · rcases h2 with h2 | ⟨e2, h2⟩ <;> (left; omega)
  · rcases h2 with h2 | ⟨e2, h2⟩
    · left; omega
    · right; exact ⟨by omega, less_trans _ _ _ h1 h2⟩
set_option maxRecDepth 1000000 in
theorem short_next : ∀ n : Fin 3998, shortB (letP (n.val + 1)) (letP (n.val + 2)) = true := by decide +kernel
theorem short_up {x y : Nat} (h0 : 1 ≤ x) (h : x < y) (hy : y ≤ 3999) : shortB (letP x) (letP y) = true := by
  have key : ∀ d : Nat, x + d + 1 ≤ 3999 → shortB (letP x) (letP (x + d + 1)) = true := by
    intro d
    induction d with
    | zero =>
      intro h
      have := short_next ⟨x - 1, by omega⟩
      simp only at this
      rwa [show x - 1 + 1 = x from by omega, show x - 1 + 2 = x + 0 + 1 from by omega] at this
    | succ d ih =>
      intro h
      have h1 := ih (by omega)
      have h2 := short_next ⟨x + d, by omega⟩
      simp only at h2
      exact short_trans h1 (by rwa [show x + d + 2 = x + (d + 1) + 1 from by omega] at h2)
  have := key (y - x - 1) (by omega)
  rwa [show x + (y - x - 1) + 1 = y from by omega] at this
theorem short_is {x y : Nat} (hx : 1 ≤ x ∧ x ≤ 3999) (hy : 1 ≤ y ∧ y ≤ 3999) : shortB (letP x) (letP y) = decide (x < y) := by
  rcases Nat.lt_trichotomy x y with h | h | h
  · rw [short_up hx.1 h hy.2, decide_eq_true h]
  · subst h; rw [short_irr, decide_eq_false (by omega)]
  · rw [decide_eq_false (by omega)]
    cases hc : shortB (letP x) (letP y)
    · rfl
    · have := short_trans hc (short_up hy.1 h hx.2)
      rw [short_irr] at this
      cases this
theorem let_inj {x y : Nat} (hx : 1 ≤ x ∧ x ≤ 3999) (hy : 1 ≤ y ∧ y ≤ 3999) (h : letP x = letP y) : x = y := by
  have h1 := short_is hx hy
  have h2 := short_is hy hx
  rw [h, short_irr] at h1 h2
  have := of_decide_eq_false h1.symm
  have := of_decide_eq_false h2.symm
  omega

/-! ### Great letters are made small again -/
def smallB (c : UInt8) : Bool := decide (97 ≤ c.toNat ∧ c.toNat ≤ 122)
theorem up_back : ∀ i : Fin 256, smallB (UInt8.ofNat i.val) = true → Lib.lowerB (Lib.upperB (UInt8.ofNat i.val)) = UInt8.ofNat i.val := by decide +kernel
theorem up_back' {c : UInt8} (h : smallB c = true) : Lib.lowerB (Lib.upperB c) = c := by
  have := up_back ⟨c.toNat, c.toNat_lt⟩
  simp only [UInt8.ofNat_toNat] at this
  exact this h
theorem upA_inj {s t : Bs} (hs : ∀ c ∈ s, smallB c = true) (ht : ∀ c ∈ t, smallB c = true) (h : Lib.toUpperA s = Lib.toUpperA t) : s = t := by
  have key : ∀ l : Bs, (∀ c ∈ l, smallB c = true) → (Lib.toUpperA l).map Lib.lowerB = l := by
    intro l hl
    unfold Lib.toUpperA
    rw [List.map_map]
    conv => rhs; rw [← List.map_id l]
    exact List.map_congr_left fun c hc => up_back' (hl c hc)
  rw [← key s hs, ← key t ht, h]
theorem letR_small : ∀ (f n : Nat), ∀ c ∈ letR f n, smallB c = true
  | 0, _, c, h => by simp [letR] at h
  | f + 1, n, c, h => by
    unfold letR at h
    by_cases h0 : n = 0
    · rw [if_pos h0] at h; simp at h
    · rw [if_neg h0] at h
      rcases List.mem_cons.1 h with rfl | h
      · simp only [smallB, UInt8.toNat_ofNat', decide_eq_true_eq]
        omega
      · exact letR_small f _ c h
theorem let_small (n : Nat) : ∀ c ∈ letP n, smallB c = true := fun c h => letR_small n n c (by simpa [letP] using h)
theorem romT_small : ∀ p ∈ romT, ∀ c ∈ p.2, smallB c = true := by decide
theorem romF_small : ∀ (T : List (Nat × Bs)), (∀ p ∈ T, ∀ c ∈ p.2, smallB c = true) → ∀ n, ∀ c ∈ romF T n, smallB c = true
  | [], _, n, c, h => by simp [romF] at h
  | (d, s) :: T, hT, n, c, h => by
    unfold romF at h
    rcases List.mem_append.1 h with h | h
    · obtain ⟨l, hl, hc⟩ := List.mem_flatten.1 h
      obtain rfl := List.eq_of_mem_replicate hl
      exact hT (d, l) (by simp) c hc
    · exact romF_small T (fun p hp => hT p (by simp [hp])) _ c h
theorem rom_small (n : Nat) : ∀ c ∈ romP n, smallB c = true := romF_small romT romT_small n

/-! ### Roman digits, read again -/
def digV (c : UInt8) : Int := if c = 109 then 1000 else if c = 100 then 500 else if c = 99 then 100 else if c = 108 then 50 else if c = 120 then 10 else if c = 118 then 5 else 1
def romV : Bs → Int
  | [] => 0
  | [c] => digV c
  | c :: d :: r => (if digV c < digV d then - digV c else digV c) + romV (d :: r)
set_option maxRecDepth 1000000 in
theorem rom_back : ∀ n : Fin 4000, romV (romP n.val) = (n.val : Int) := by decide +kernel
theorem rom_inj {x y : Nat} (hx : x ≤ 3999) (hy : y ≤ 3999) (h : romP x = romP y) : x = y := by
  have h1 := rom_back ⟨x, by omega⟩
  have h2 := rom_back ⟨y, by omega⟩
  simp only at h1 h2
  rw [h, h2] at h1
  omega
theorem dec_inj {x y : Nat} (hx : x ≤ 3999) (hy : y ≤ 3999) (h : Lib.decDigits x = Lib.decDigits y) : x = y := by
  have h1 := dec_fold x (by omega)
  have h2 := dec_fold y (by omega)
  rw [h, h2] at h1
  omega

theorem mark_inj {k x y : Nat} (hx : 1 ≤ x ∧ x ≤ 3999) (hy : 1 ≤ y ∧ y ≤ 3999) : markP k x = markP k y ↔ x = y := by
  refine ⟨fun h => ?_, fun h => by rw [h]⟩
  unfold markP at h
  by_cases h2 : k = 2
  · rw [if_pos h2, if_pos h2] at h; exact dec_inj hx.2 hy.2 h
  rw [if_neg h2, if_neg h2] at h
  by_cases h3 : k = 3
  · rw [if_pos h3, if_pos h3] at h; exact let_inj hx hy h
  rw [if_neg h3, if_neg h3] at h
  by_cases h4 : k = 4
  · rw [if_pos h4, if_pos h4] at h; exact let_inj hx hy (upA_inj (let_small x) (let_small y) h)
  rw [if_neg h4, if_neg h4] at h
  by_cases h5 : k = 5
  · rw [if_pos h5, if_pos h5] at h; exact rom_inj hx.2 hy.2 h
  rw [if_neg h5, if_neg h5] at h
  exact rom_inj hx.2 hy.2 (upA_inj (rom_small x) (rom_small y) h)

/-! ### Letters, letter by letter -/
theorem letR_more : ∀ (f g n : Nat), n ≤ f → n ≤ g → letR f n = letR g n
  | 0, 0, _, _, _ => rfl
  | 0, g + 1, n, h, _ => by
    obtain rfl : n = 0 := by omega
    simp [letR]
  | f + 1, 0, n, _, h => by
    obtain rfl : n = 0 := by omega
    simp [letR]
  | f + 1, g + 1, n, h1, h2 => by
    unfold letR
    by_cases h0 : n = 0
    · rw [if_pos h0, if_pos h0]
    · rw [if_neg h0, if_neg h0, letR_more f g ((n - 1) / 26) (by omega) (by omega)]
theorem letR_step {n : Nat} (h : 0 < n) : letR n n = UInt8.ofNat (97 + (n - 1) % 26) :: letR ((n - 1) / 26) ((n - 1) / 26) := by
  obtain ⟨m, rfl⟩ : ∃ m, n = m + 1 := ⟨n - 1, by omega⟩
  conv => lhs; unfold letR
  rw [if_neg (by omega), letR_more m ((m + 1 - 1) / 26) _ (by omega) (Nat.le_refl _)]
theorem romF_more {d : Nat} {s : Bs} {T : List (Nat × Bs)} {n : Nat} (h0 : 0 < d) (h : d ≤ n) : romF ((d, s) :: T) n = s ++ romF ((d, s) :: T) (n - d) := by
  conv => lhs; unfold romF
  conv => rhs; unfold romF
  have e1 : n / d = (n - d) / d + 1 := by
    conv => lhs; rw [show n = (n - d) + d from by omega]
    rw [Nat.add_div_right _ h0]
  have e2 : n % d = (n - d) % d := by
    conv => lhs; rw [show n = (n - d) + d from by omega]
    rw [Nat.add_mod_right]
  rw [e1, e2, List.replicate_succ, List.flatten_cons, List.append_assoc]
theorem romF_less {d : Nat} {s : Bs} {T : List (Nat × Bs)} {n : Nat} (h : n < d) : romF ((d, s) :: T) n = romF T n := by
  show (List.replicate (n / d) s).flatten ++ romF T (n % d) = romF T n
  rw [Nat.div_eq_of_lt h, Nat.mod_eq_of_lt h]
  simp

end Go.Proofs.YtphdmdncboegjaaDoor.cnt
