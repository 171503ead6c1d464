/- Contracts and plain law, a bundle: Rt0 Rt1 Rt2 Rt3 Rt4 Rt5 Rt6 Rt7 Rt8 Rt9. -/
import Derived.Test.YtaihncbejhnceaaDoorBL
import Derived.Test.YtaihncbejhnceaaDoorShelfRul

namespace Go.Proofs.YtaihncbejhnceaaDoor.rul
open Go.RowKit Go.Proofs.YtaihncbejhnceaaDoor.base Go.Proofs.YtaihncbejhnceaaDoor.tok
set_option linter.unusedVariables false

/-- a rule -/
inductive Rl where
  | mk (media : Bool) (head : Bs) (decls : List Dc) (rules : List Rl)

/-- declarations that lie in blocks of S -/
def DAt (w : World) (S : Nat → Prop) (A : Option Addr) (ds : List Dc) : Prop := 0 < ds.length → ∃ b off, A = some ⟨b, off, none⟩ ∧ S b ∧ ∀ (i : Nat) (d : Dc), ds[i]? = some d → ∀ j, j < 3 → w.cell? ⟨b, off + i * 3 + j, none⟩ = (dcells d)[j]?
mutual
/-- the cells of a rule, whose parts lie in blocks of S -/
def RuleAt (w : World) (S : Nat → Prop) : Rl → List Value → Prop
  | .mk m h ds rs, vs => ∃ A c A2 c2, vs = [.bool m, .string (bs h), .slice A ds.length c, .slice A2 rs.length c2] ∧ ds.length ≤ c ∧ rs.length ≤ c2 ∧ DAt w S A ds ∧ (0 < rs.length → ∃ b off, A2 = some ⟨b, off, none⟩ ∧ S b ∧ RowAt w S b off rs)
/-- rules, one behind the other -/
def RowAt (w : World) (S : Nat → Prop) (b : Nat) : Nat → List Rl → Prop
  | _, [] => True
  | off, r :: rs => (∃ vs, (∀ j, j < 4 → w.cell? ⟨b, off + j, none⟩ = vs[j]?) ∧ RuleAt w S r vs) ∧ RowAt w S b (off + 4) rs
end

theorem cell_same {w w' : World} {b : Nat} (h : w'.heap[b]? = w.heap[b]?) (o : Nat) : w'.cell? ⟨b, o, none⟩ = w.cell? ⟨b, o, none⟩ := by
  simp [World.cell?, h]
theorem DAt.keep {w w' : World} {S S' : Nat → Prop} {A : Option Addr} {ds : List Dc} (h : DAt w S A ds) (hw : ∀ b, S b → w'.heap[b]? = w.heap[b]?) (hS : ∀ b, S b → S' b) : DAt w' S' A ds := fun h0 => by
  obtain ⟨b, off, hA, hs, hc⟩ := h h0
  exact ⟨b, off, hA, hS b hs, fun i d hd j hj => (cell_same (hw b hs) _).trans (hc i d hd j hj)⟩
mutual
theorem RuleAt.keep {w w' : World} {S S' : Nat → Prop} (hw : ∀ b, S b → w'.heap[b]? = w.heap[b]?) (hS : ∀ b, S b → S' b) : ∀ (r : Rl) (vs : List Value), RuleAt w S r vs → RuleAt w' S' r vs
  | .mk m h ds rs, vs, hr => by
    unfold RuleAt at hr ⊢
    obtain ⟨A, c, A2, c2, hv, h1, h2, hd, hrow⟩ := hr
    refine ⟨A, c, A2, c2, hv, h1, h2, hd.keep hw hS, fun h0 => ?_⟩
    obtain ⟨b, off, hA, hs, hx⟩ := hrow h0
    exact ⟨b, off, hA, hS b hs, RowAt.keep hw hS b hs off rs hx⟩
theorem RowAt.keep {w w' : World} {S S' : Nat → Prop} (hw : ∀ b, S b → w'.heap[b]? = w.heap[b]?) (hS : ∀ b, S b → S' b) (b : Nat) (hb : S b) : ∀ (off : Nat) (rs : List Rl), RowAt w S b off rs → RowAt w' S' b off rs
  | _, [], _ => by unfold RowAt; trivial
  | off, r :: rs, h => by
    unfold RowAt at h ⊢
    obtain ⟨⟨vs, hc, hr⟩, h2⟩ := h
    exact ⟨⟨vs, fun j hj => (cell_same (hw b hb) _).trans (hc j hj), RuleAt.keep hw hS r vs hr⟩, RowAt.keep hw hS b hb (off + 4) rs h2⟩
end
theorem RuleAt.four {w : World} {S : Nat → Prop} {r : Rl} {vs : List Value} (h : RuleAt w S r vs) : vs.length = 4 := by
  cases r with
  | mk m hd ds rs =>
    unfold RuleAt at h
    obtain ⟨A, c, A2, c2, rfl, _⟩ := h
    rfl
theorem RowAt.at_ {w : World} {S : Nat → Prop} {b : Nat} : ∀ (rs : List Rl) (off i : Nat) (r : Rl), RowAt w S b off rs → rs[i]? = some r → ∃ vs, (∀ j, j < 4 → w.cell? ⟨b, off + i * 4 + j, none⟩ = vs[j]?) ∧ RuleAt w S r vs
  | [], off, i, r, _, h => by simp at h
  | x :: rs, off, 0, r, hr, h => by
    unfold RowAt at hr
    obtain rfl : x = r := by simpa using h
    obtain ⟨⟨vs, hc, hx⟩, _⟩ := hr
    exact ⟨vs, by simpa using hc, hx⟩
  | x :: rs, off, i + 1, r, hr, h => by
    unfold RowAt at hr
    obtain ⟨vs, hc, hx⟩ := RowAt.at_ rs (off + 4) i r hr.2 (by simpa using h)
    refine ⟨vs, fun j hj => ?_, hx⟩
    rw [← hc j hj]
    congr 2
    omega
/-- a row whose cells are known -/
theorem RowAt.mk_ {w : World} {S : Nat → Prop} {b : Nat} : ∀ (rs : List Rl) (vss : List (List Value)) (off : Nat), rs.length = vss.length → (∀ (i : Nat) r vs, rs[i]? = some r → vss[i]? = some vs → RuleAt w S r vs) → (∀ j, j < rs.length * 4 → w.cell? ⟨b, off + j, none⟩ = (vss.flatten)[j]?) → RowAt w S b off rs
  | [], _, _, _, _, _ => by unfold RowAt; trivial
  | r :: rs, [], _, h, _, _ => by cases h
  | r :: rs, vs :: vss, off, h, hr, hc => by
    have h0 := hr 0 r vs rfl rfl
    have h4 := h0.four
    unfold RowAt
    refine ⟨⟨vs, fun j hj => ?_, h0⟩, RowAt.mk_ rs vss (off + 4) (by simpa using h) (fun i r' vs' h1 h2 => hr (i + 1) r' vs' (by simpa using h1) (by simpa using h2)) (fun j hj => ?_)⟩
    · rw [hc j (by simp; omega), List.flatten_cons, List.getElem?_append_left (by omega)]
    · have := hc (4 + j) (by simp; omega)
      rw [List.flatten_cons, List.getElem?_append_right (by omega), h4] at this
      rw [show off + 4 + j = off + (4 + j) by omega, this]
      congr 1
      omega

/-! ### What tokens say -/
def mediaW : Bs := [109, 101, 100, 105, 97]
def beginsR (a : Bool) (t : Tk) : Bool := braceP t || (a && semiP t)
def ruleW (sub : Option (List Tk → List Rl)) (head inn : List Tk) : Option Rl :=
  if head.any badP then none else
  match head with
  | [] => some (.mk false [] (declsP inn) [])
  | t :: r => if t.k = 3 then (if Lib.equalFold t.val mediaW then sub.map (fun f => .mk true (headP r) [] (f inn)) else none) else some (.mk false (headP head) (declsP inn) [])
def innP (b : Tk) (rest : List Tk) : List Tk := rest.take (if blkOk b rest then blkLen b rest - 2 else rest.length)
theorem solid_le (L : List Tk) : (solidP L).length ≤ L.length := (solid_sub L).length_le
def rulesW (sub : Option (List Tk → List Rl)) (L : List Tk) : List Rl :=
  match hM : solidP L with
  | [] => []
  | t :: r =>
    match hB : (t :: r).drop (findP (beginsR (decide (t.k = 3))) (t :: r)) with
    | [] => []
    | b :: rest => if braceP b then (ruleW sub ((t :: r).take (findP (beginsR (decide (t.k = 3))) (t :: r))) (innP b rest)).toList ++ rulesW sub (rest.drop (blkLen b rest - 1)) else rulesW sub rest
termination_by L.length
decreasing_by
  · have h1 := solid_le L
    have h2 := congrArg List.length hB
    rw [List.length_drop, List.length_cons] at h2
    rw [hM] at h1
    simp only [List.length_cons] at h1 h2
    simp
    omega
  · have h1 := solid_le L
    have h2 := congrArg List.length hB
    rw [List.length_drop, List.length_cons] at h2
    rw [hM] at h1
    simp only [List.length_cons] at h1 h2
    omega
def rulesP : Nat → List Tk → List Rl
  | 0 => rulesW none
  | m + 1 => rulesW (some (rulesP m))
def subP : Nat → Option (List Tk → List Rl)
  | 0 => none
  | m + 1 => some (rulesP m)
theorem rulesP_is (m : Nat) : rulesP m = rulesW (subP m) := by cases m <;> rfl
theorem rulesW_nil {sub : Option (List Tk → List Rl)} {L : List Tk} (h : solidP L = []) : rulesW sub L = [] := by
  unfold rulesW
  split
  · rfl
  · rename_i hM; rw [h] at hM; cases hM
theorem rulesW_none {sub : Option (List Tk → List Rl)} {L : List Tk} {t : Tk} {r : List Tk} (h : solidP L = t :: r) (hB : (t :: r).length ≤ findP (beginsR (decide (t.k = 3))) (t :: r)) : rulesW sub L = [] := by
  unfold rulesW
  split
  · rfl
  · rename_i t' r' hM
    rw [h] at hM
    injection hM with h1 h2
    subst h1 h2
    split
    · rfl
    · rename_i hB'
      rw [List.drop_eq_nil_of_le hB] at hB'
      cases hB'
theorem rulesW_some {sub : Option (List Tk → List Rl)} {L : List Tk} {t : Tk} {r : List Tk} {b : Tk} {rest : List Tk} (h : solidP L = t :: r) (hB : (t :: r).drop (findP (beginsR (decide (t.k = 3))) (t :: r)) = b :: rest) :
    rulesW sub L = if braceP b then (ruleW sub ((t :: r).take (findP (beginsR (decide (t.k = 3))) (t :: r))) (innP b rest)).toList ++ rulesW sub (rest.drop (blkLen b rest - 1)) else rulesW sub rest := by
  conv => lhs; unfold rulesW
  split
  · rename_i hM; rw [h] at hM; cases hM
  · rename_i t' r' hM
    rw [h] at hM
    injection hM with h1 h2
    subst h1 h2
    split
    · rename_i hB'; rw [hB] at hB'; cases hB'
    · rename_i b' rest' hB'
      rw [hB] at hB'
      injection hB' with h3 h4
      subst h3 h4
      rfl

end Go.Proofs.YtaihncbejhnceaaDoor.rul

namespace Go.Proofs.YtaihncbejhnceaaDoor.rul
open Go.RowKit Go.Proofs.YtaihncbejhnceaaDoor.base Go.Proofs.YtaihncbejhnceaaDoor.tok
set_option linter.unusedVariables false

instance : Inhabited Tk := ⟨⟨0, [], [], 0⟩⟩

theorem enters_bad : ∀ args w, (callFunc 106 args).run Tryd.prog w = .ok (.enter 106 args) w := Go.Proofs.enters_of Tryd.func106 (by kernel_rfl) rfl
theorem enters_begins : ∀ args w, (callFunc 65 args).run Tryd.prog w = .ok (.enter 65 args) w := Go.Proofs.enters_of Tryd.func65 (by kernel_rfl) rfl

theorem anyBad_ct (b off cap : Nat) (L : List Tk) (w : World) (hn : L.length ≤ 1000000) (hb : b < w.heap.size) (hL : TRd w w.heap.size (some ⟨b, off, none⟩) L.length L) :
    Calls Tryd.prog 105 #[.slice (some ⟨b, off, none⟩) L.length cap, .func (.func 106) #[] #[]] w fun e w' => e = .returned (.bool (L.any badP)) ∧ Below w.heap.size w w' := by
  have h := Tryd.slices_ContainsFunc_tok tcells tcells_len badP 106 #[] enters_bad b off L.length cap L w (fun W x hx => by
    rw [Array.append_empty]
    exact (bad_ct x W).mono fun e w' ⟨he, hb⟩ => ⟨he, hx.trans (hb.mono hx.size)⟩) (Nat.le_refl _) (by omega) hb (fun j hj i v hi => by
    obtain ⟨b', off', hA, hlt, hc⟩ := hL.2 (by omega)
    obtain ⟨rfl, rfl⟩ : b = b' ∧ off = off' := by simpa using hA
    have hi4 : i < 4 := by
      have := (List.getElem?_eq_some_iff.1 hi).1
      rwa [tcells_len] at this
    have hg : L[j]? = some L[j]! := by rw [getElem!_pos L j hj, List.getElem?_eq_getElem hj]
    exact (hc j _ hg i hi4).trans hi)
  rwa [List.take_length] at h

set_option maxRecDepth 100000 in
set_option maxHeartbeats 4000000 in
theorem begins_ct (a : Bool) (X : Nat) (k n : Int) (r v : Bs) (w : World) (hX : X < w.heap.size) (hc : w.cell? ⟨X, 0, none⟩ = some (.bool a)) :
    Calls Tryd.prog 65 #[.agg #[.int .i64 k, .string (bs r), .string (bs v), .int .i64 n], .pointer (some ⟨X, 0, none⟩)] w fun e w' => e = .returned (.bool (beginsR a ⟨k, r, v, n⟩)) ∧ Below w.heap.size w w' := by
  have HV := Lib.hid (show Below w.heap.size w (w.alloc (.cells #[.int .i64 k, .string (bs r), .string (bs v), .int .i64 n] 104)) from (Below.refl _ _).alloc (Nat.le_refl _) _)
  have HB0 := Lib.hid (show Blk (w.alloc (.cells #[.int .i64 k, .string (bs r), .string (bs v), .int .i64 n] 104)) w.heap.size 104 #[.int .i64 k, .string (bs r), .string (bs v), .int .i64 n] from Blk.new rfl)
  unfold beginsR
  cases hb : braceP ⟨k, r, v, n⟩
  · have c1 := Lib.hid (fun w => asks_at brace_ct hb w)
    simp only [Bool.false_or]
    clear hb
    cases a
    · simp only [Bool.false_and]
      go_enter Tryd.func65, Tryd.ntmps65
      go_wp2_with (first
        | (go_at_call 66; (with_reducible refine (c1.out _).mono ?_); rintro e W1 ⟨rfl, hb1⟩; have HB1 := Lib.hid (HV.out.trans (hb1.mono HV.out.size)); have g1 := (HB1.out.cell (p := ⟨X, 0, none⟩) hX).trans hc; clear hb1))
      go_ret
      exact ⟨rfl, HB1.out⟩
    · simp only [Bool.true_and]
      have c2 := Lib.hid (fun w => asks_at semi_ct (rfl : semiP ⟨k, r, v, n⟩ = semiP ⟨k, r, v, n⟩) w)
      generalize semiP ⟨k, r, v, n⟩ = sm at *
      go_enter Tryd.func65, Tryd.ntmps65
      go_wp2_with (first
        | (go_at_call 66; (with_reducible refine (c1.out _).mono ?_); rintro e W1 ⟨rfl, hb1⟩; have HB1 := Lib.hid (HV.out.trans (hb1.mono HV.out.size)); have g1 := (HB1.out.cell (p := ⟨X, 0, none⟩) hX).trans hc; have t1 := (HB0.out.below hb1 HB0.out.lt).cell; clear hb1)
        | (go_at_call 67; (with_reducible refine (c2.out _).mono ?_); rintro e W2 ⟨rfl, hb2⟩; have HB2 := Lib.hid (HB1.out.trans (hb2.mono HB1.out.size)); clear hb2))
      go_ret
      exact ⟨rfl, HB2.out⟩
  · have c1 := Lib.hid (fun w => asks_at brace_ct hb w)
    simp only [Bool.true_or]
    clear hb
    go_enter Tryd.func65, Tryd.ntmps65
    go_wp2_with (first
      | (go_at_call 66; (with_reducible refine (c1.out _).mono ?_); rintro e W1 ⟨rfl, hb1⟩; have HB1 := Lib.hid (HV.out.trans (hb1.mono HV.out.size)); clear hb1))
    go_ret
    exact ⟨rfl, HB1.out⟩

theorem word_media : Word mediaW := by
  refine ⟨by decide, ?_⟩
  intro c hc
  revert c
  decide
theorem foldM_ct (s : Bs) (hs : s.length ≤ 1000000) (w : World) (hF : FoldAt w) : Calls Tryd.prog 109 #[.string (bs s), .string ⟨#[109, 101, 100, 105, 97]⟩] w fun e w' => e = .returned (.bool (Lib.equalFold s mediaW)) ∧ Below w.heap.size w w' :=
  fold_ct (bs s) (by rw [bs_size]; omega) mediaW word_media w hF

end Go.Proofs.YtaihncbejhnceaaDoor.rul

namespace Go.Proofs.YtaihncbejhnceaaDoor.rul
open Go.RowKit Go.Proofs.YtaihncbejhnceaaDoor.base Go.Proofs.YtaihncbejhnceaaDoor.tok
set_option linter.unusedVariables false

/-- blocks that the call has made -/
def New (w w' : World) (b : Nat) : Prop := w.heap.size ≤ b ∧ b < w'.heap.size
/-- a slice of rules that a call has made -/
def RS (w w' : World) (v : Value) (rs : List Rl) : Prop := ∃ A cap, v = .slice A rs.length cap ∧ rs.length ≤ cap ∧ (0 < rs.length → ∃ b off, A = some ⟨b, off, none⟩ ∧ New w w' b ∧ RowAt w' (New w w') b off rs)
theorem dat_of_row {w : World} {base n cap : Nat} {A : Option Addr} {ds : List Dc} {S : Nat → Prop} (h : w.ownsRow base 65 3 (.slice A n cap) n (flatR dcells ds)) (hn : ds.length = n) (hS : ∀ g, base ≤ g → g < w.heap.size → S g) : DAt w S A ds := fun h0 => by
  rcases h.2 with ⟨hv, hz⟩ | ⟨g, cap', cur, hv, hb, hg, hc, _⟩
  · omega
  · injection hv with h1 h2 h3
    subst h1
    have hl := h.lt g rfl
    refine ⟨g, 0, rfl, hS g hb hl.2, fun i d hd j hj => ?_⟩
    rw [Nat.zero_add]
    have hil := (List.getElem?_eq_some_iff.1 hd).1
    have hlt : i * 3 + j < n * 3 := by omega
    exact (h.cellAt (i * 3 + j) hlt).trans (flatR_at dcells_len hd j hj)
/-- what rule leaves -/
def RuleRet (w w' : World) (r : Option Rl) (v : Value) : Prop := ∃ vs : List Value, v = .tuple #[.agg vs.toArray, .bool r.isSome] ∧ (match r with | none => vs = [.bool false, .string ⟨#[]⟩, .slice none 0 0, .slice none 0 0] | some r => RuleAt w' (New w w') r vs)
/-- the result's block, while others make memory -/
def RB (w X : World) : Prop := Below w.heap.size w X ∧ Blk X w.heap.size 41 #[.bool false, .string ⟨#[]⟩, .slice none 0 0, .slice none 0 0]
theorem RB.bel {w X : World} (h : RB w X) : Below w.heap.size w X := h.1
theorem RB.on {w X X' : World} (h : RB w X) (hb : Below X.heap.size X X') : RB w X' := ⟨h.1.trans (hb.mono h.1.size), h.2.below hb h.2.lt⟩
theorem RB.cells {w X : World} (h : RB w X) : (∀ i, X.cell? ⟨w.heap.size, i, none⟩ = (#[.bool false, .string ⟨#[]⟩, .slice none 0 0, .slice none 0 0] : Array Value)[i]?) ∧ ∀ i, X.frozen? ⟨w.heap.size, i, none⟩ = false := ⟨h.2.cell, h.2.frozen⟩
theorem RB.new (w : World) : RB w (w.alloc (.cells #[.bool false, .string ⟨#[]⟩, .slice none 0 0, .slice none 0 0] 41)) := ⟨(Below.refl _ _).alloc (Nat.le_refl _) _, Blk.new rfl⟩
theorem RB.fin {w X : World} (h : RB w X) (a b c d : Value) : (∀ i, ((((X.setCell ⟨w.heap.size, 0, none⟩ a).setCell ⟨w.heap.size, 1, none⟩ b).setCell ⟨w.heap.size, 2, none⟩ c).setCell ⟨w.heap.size, 3, none⟩ d).cell? ⟨w.heap.size, i, none⟩ = (#[a, b, c, d] : Array Value)[i]?) ∧ Below w.heap.size w ((((X.setCell ⟨w.heap.size, 0, none⟩ a).setCell ⟨w.heap.size, 1, none⟩ b).setCell ⟨w.heap.size, 2, none⟩ c).setCell ⟨w.heap.size, 3, none⟩ d) :=
  ⟨((((h.2.put 0 a).put 1 b).put 2 c).put 3 d).cell, (((h.1.setCell (Nat.le_refl _) a).setCell (Nat.le_refl _) b).setCell (Nat.le_refl _) c).setCell (Nat.le_refl _) d⟩
/-- other blocks stand -/
theorem RB.other {w X : World} (a b c d : Value) (k : Nat) (hk : k ≠ w.heap.size) : ((((X.setCell ⟨w.heap.size, 0, none⟩ a).setCell ⟨w.heap.size, 1, none⟩ b).setCell ⟨w.heap.size, 2, none⟩ c).setCell ⟨w.heap.size, 3, none⟩ d).heap[k]? = X.heap[k]? := by
  rw [Below.heap_setCell _ _ _ k hk, Below.heap_setCell _ _ _ k hk, Below.heap_setCell _ _ _ k hk, Below.heap_setCell _ _ _ k hk]
theorem RB.size4 {w X : World} (a b c d : Value) : ((((X.setCell ⟨w.heap.size, 0, none⟩ a).setCell ⟨w.heap.size, 1, none⟩ b).setCell ⟨w.heap.size, 2, none⟩ c).setCell ⟨w.heap.size, 3, none⟩ d).heap.size = X.heap.size := by simp only [size_setCell]

set_option maxRecDepth 100000 in
set_option maxHeartbeats 4000000 in
theorem rule_bad (m : Nat) (d : Int) (b off cap : Nat) (H : List Tk) (vi : Value) (I : List Tk) (w : World) (hfH : Fit H) (hfI : Fit I) (hb : b < w.heap.size) (hcH : H.length ≤ cap) (hH : TRd w w.heap.size (some ⟨b, off, none⟩) H.length H) (hI : TS w vi I) (hF : FoldAt w) (hm : MaxL w) (hx : H.any badP = true) :
    Calls Tryd.prog 69 #[.slice (some ⟨b, off, none⟩) H.length cap, vi, .int .i64 d] w fun e w' => (∃ v, e = .returned v ∧ RuleRet w w' (ruleW (subP m) H I) v) ∧ Below w.heap.size w w' := by
  have hHl := hfH.1
  have HFo := Lib.hid hF
  have HM := Lib.hid hm
  have HH := Lib.hid hH
  have HI := Lib.hid hI
  have cA := fun (X : World) (hX : Below w.heap.size w X) => anyBad_ct b off cap H X hfH.1 (Nat.lt_of_lt_of_le hb hX.size) (Rd.keep hH hX hX.size)
  rw [hx] at cA
  have hr : ruleW (subP m) H I = none := by unfold ruleW; rw [hx]; rfl
  rw [hr]
  replace cA := Lib.hid cA
  clear hfH hfI hb hH hI hF hm hx hr
  go_enter Tryd.func69, Tryd.ntmps69
  go_wp2_with (first
    | (go_at_call 105; (with_reducible refine (cA.out _ (RB.new w).bel).mono ?_); rintro e W1 ⟨rfl, hb1⟩; have D1 := Lib.hid ((RB.new w).on hb1); have d1c := D1.out.cells.1; have d1f := D1.out.cells.2;  clear hb1))
  have e := (D1.out.fin (.bool false) (.string ⟨#[]⟩) (.slice none 0 0) (.slice none 0 0)).1
  refine bodyPost_ret (v := .tuple #[.agg #[.bool false, .string ⟨#[]⟩, .slice none 0 0, .slice none 0 0], .bool false]) (by simp [results, Tryd.results69, go_sem, e]) rfl ⟨⟨_, rfl, [.bool false, .string ⟨#[]⟩, .slice none 0 0, .slice none 0 0], rfl, rfl⟩, ?_⟩
  exact (D1.out.fin (.bool false) (.string ⟨#[]⟩) (.slice none 0 0) (.slice none 0 0)).2

set_option maxRecDepth 100000 in
set_option maxHeartbeats 4000000 in
theorem rule_none (m : Nat) (d : Int) (b off cap : Nat) (H : List Tk) (vi : Value) (I : List Tk) (w : World) (hfH : Fit H) (hfI : Fit I) (hb : b < w.heap.size) (hcH : H.length ≤ cap) (hH : TRd w w.heap.size (some ⟨b, off, none⟩) H.length H) (hI : TS w vi I) (hF : FoldAt w) (hm : MaxL w) (hx : H.any badP = false) (h0 : H = []) :
    Calls Tryd.prog 69 #[.slice (some ⟨b, off, none⟩) H.length cap, vi, .int .i64 d] w fun e w' => (∃ v, e = .returned v ∧ RuleRet w w' (ruleW (subP m) H I) v) ∧ Below w.heap.size w w' := by
  have hHl := hfH.1
  have HFo := Lib.hid hF
  have HM := Lib.hid hm
  have HH := Lib.hid hH
  have HI := Lib.hid hI
  have cA := fun (X : World) (hX : Below w.heap.size w X) => anyBad_ct b off cap H X hfH.1 (Nat.lt_of_lt_of_le hb hX.size) (Rd.keep hH hX hX.size)
  rw [hx] at cA
  replace cA := Lib.hid cA
  have cH := Lib.hid (fun (X : World) (hX : Below w.heap.size w X) => head_ct (.slice (some ⟨b, off, none⟩) H.length cap) H X hfH.1 ⟨_, cap, rfl, hcH, Rd.keep hH hX hX.size⟩ hfH.2.1)
  have cD := Lib.hid (fun (X : World) (hX : Below w.heap.size w X) => decls_ct vi I X hfI (hI.on hX) (hF.on hX) (hm.on hX hm.lt))
  generalize hds : declsP I = ds at *
  generalize hhd : headP H = hd at *
  have hr : ruleW (subP m) H I = some (.mk false hd ds []) := by unfold ruleW; rw [hx, h0, ← hhd, h0, hds]; rfl
  rw [hr]
  have hz : ((H.length : Int) == 0) = true := by rw [h0]; rfl
  clear hfH hfI hb hH hI hF hm hx hr h0 hds hhd
  go_enter Tryd.func69, Tryd.ntmps69
  go_wp2_with (first
    | (go_at_call 105; (with_reducible refine (cA.out _ (RB.new w).bel).mono ?_); rintro e W1 ⟨rfl, hb1⟩; have D1 := Lib.hid ((RB.new w).on hb1); have d1c := D1.out.cells.1; have d1f := D1.out.cells.2;  clear hb1)
    | (go_at_call 107; (with_reducible refine (cH.out _ D1.out.bel).mono ?_); rintro e W2 ⟨rfl, hb2⟩; have D2 := Lib.hid (D1.out.on hb2); clear hb2 d1c d1f)
    | (go_at_call 108; (with_reducible refine (cD.out _ D2.out.bel).mono ?_); rintro e W3 ⟨⟨A3, cap3, rfl, hc3, hrd3, hown3⟩, hb3⟩; have D3 := Lib.hid (D2.out.on hb3); have d3c := D3.out.cells.1; have d3f := D3.out.cells.2; have HO3 := Lib.hid hown3; clear hb3 hrd3 hown3))
  have e := (D3.out.fin (.bool false) (.string (bs hd)) (.slice A3 ds.length cap3) (.slice none 0 0)).1
  refine bodyPost_ret (v := .tuple #[.agg #[.bool false, .string (bs hd), .slice A3 ds.length cap3, .slice none 0 0], .bool true]) (by simp [results, Tryd.results69, go_sem, e]) rfl ⟨⟨_, rfl, [.bool false, .string (bs hd), .slice A3 ds.length cap3, .slice none 0 0], rfl, ?_⟩, ?_⟩
  · show RuleAt _ _ (.mk false hd ds []) _
    unfold RuleAt
    have hz2 : w.heap.size < W2.heap.size := D2.out.2.lt
    refine ⟨A3, cap3, none, 0, rfl, hc3, Nat.le_refl _, ?_, fun h => absurd h (by simp)⟩
    exact (dat_of_row (S := fun g => W2.heap.size ≤ g ∧ g < W3.heap.size) HO3.out rfl (fun g h1 h2 => ⟨h1, h2⟩)).keep (fun k hk => RB.other _ _ _ _ k (by omega)) (fun k hk => ⟨by omega, by rw [RB.size4]; exact hk.2⟩)
  · exact (D3.out.fin (.bool false) (.string (bs hd)) (.slice A3 ds.length cap3) (.slice none 0 0)).2

set_option maxRecDepth 100000 in
set_option maxHeartbeats 4000000 in
theorem rule_plain (m : Nat) (d : Int) (b off cap : Nat) (H : List Tk) (vi : Value) (I : List Tk) (w : World) (hfH : Fit H) (hfI : Fit I) (hb : b < w.heap.size) (hcH : H.length ≤ cap) (hH : TRd w w.heap.size (some ⟨b, off, none⟩) H.length H) (hI : TS w vi I) (hF : FoldAt w) (hm : MaxL w) (hx : H.any badP = false) (t : Tk) (r : List Tk) (hM : H = t :: r) (hk : ¬ t.k = 3) :
    Calls Tryd.prog 69 #[.slice (some ⟨b, off, none⟩) H.length cap, vi, .int .i64 d] w fun e w' => (∃ v, e = .returned v ∧ RuleRet w w' (ruleW (subP m) H I) v) ∧ Below w.heap.size w w' := by
  have hHl := hfH.1
  have HFo := Lib.hid hF
  have HM := Lib.hid hm
  have HH := Lib.hid hH
  have HI := Lib.hid hI
  have cA := fun (X : World) (hX : Below w.heap.size w X) => anyBad_ct b off cap H X hfH.1 (Nat.lt_of_lt_of_le hb hX.size) (Rd.keep hH hX hX.size)
  rw [hx] at cA
  replace cA := Lib.hid cA
  have cH := Lib.hid (fun (X : World) (hX : Below w.heap.size w X) => head_ct (.slice (some ⟨b, off, none⟩) H.length cap) H X hfH.1 ⟨_, cap, rfl, hcH, Rd.keep hH hX hX.size⟩ hfH.2.1)
  have cD := Lib.hid (fun (X : World) (hX : Below w.heap.size w X) => decls_ct vi I X hfI (hI.on hX) (hF.on hX) (hm.on hX hm.lt))
  generalize hds : declsP I = ds at *
  generalize hhd : headP H = hd at *
  have hr : ruleW (subP m) H I = some (.mk false hd ds []) := by unfold ruleW; rw [hx, hM]; simp only [Bool.false_eq_true, if_false]; rw [if_neg hk, ← hM, hhd, hds]
  rw [hr]
  have hz : ((H.length : Int) == 0) = false := by rw [hM]; simp; omega
  have hz2 : (0 : Int) < H.length := by rw [hM]; simp only [List.length_cons]; omega
  have HTk := Lib.hid (show ∀ X, Below w.heap.size w X → X.cell? ⟨b, off, none⟩ = some (.int .i64 t.k) from fun X hX => by
    obtain ⟨b', o', hA, _, e0, _⟩ := tok_zero (t := t) (r := r) (by rw [← hM]; exact Rd.keep hH hX hX.size) (n := H.length) (by omega)
    obtain ⟨rfl, rfl⟩ : b = b' ∧ off = o' := by simpa using hA
    exact e0)
  have b1 : (t.k != 3) = true := by simpa using hk
  clear hfH hfI hb hH hI hF hm hx hr hM hds hhd hk
  go_enter Tryd.func69, Tryd.ntmps69
  go_wp2_with (first
    | (go_at_call 105; (with_reducible refine (cA.out _ (RB.new w).bel).mono ?_); rintro e W1 ⟨rfl, hb1⟩; have D1 := Lib.hid ((RB.new w).on hb1); have d1c := D1.out.cells.1; have d1f := D1.out.cells.2; have t1 := HTk.out _ D1.out.bel; clear hb1)
    | (go_at_call 107; (with_reducible refine (cH.out _ D1.out.bel).mono ?_); rintro e W2 ⟨rfl, hb2⟩; have D2 := Lib.hid (D1.out.on hb2); clear hb2 d1c d1f)
    | (go_at_call 108; (with_reducible refine (cD.out _ D2.out.bel).mono ?_); rintro e W3 ⟨⟨A3, cap3, rfl, hc3, hrd3, hown3⟩, hb3⟩; have D3 := Lib.hid (D2.out.on hb3); have d3c := D3.out.cells.1; have d3f := D3.out.cells.2; have HO3 := Lib.hid hown3; clear hb3 hrd3 hown3))
  have e := (D3.out.fin (.bool false) (.string (bs hd)) (.slice A3 ds.length cap3) (.slice none 0 0)).1
  refine bodyPost_ret (v := .tuple #[.agg #[.bool false, .string (bs hd), .slice A3 ds.length cap3, .slice none 0 0], .bool true]) (by simp [results, Tryd.results69, go_sem, e]) rfl ⟨⟨_, rfl, [.bool false, .string (bs hd), .slice A3 ds.length cap3, .slice none 0 0], rfl, ?_⟩, ?_⟩
  · show RuleAt _ _ (.mk false hd ds []) _
    unfold RuleAt
    have hz2 : w.heap.size < W2.heap.size := D2.out.2.lt
    refine ⟨A3, cap3, none, 0, rfl, hc3, Nat.le_refl _, ?_, fun h => absurd h (by simp)⟩
    exact (dat_of_row (S := fun g => W2.heap.size ≤ g ∧ g < W3.heap.size) HO3.out rfl (fun g h1 h2 => ⟨h1, h2⟩)).keep (fun k hk => RB.other _ _ _ _ k (by omega)) (fun k hk => ⟨by omega, by rw [RB.size4]; exact hk.2⟩)
  · exact (D3.out.fin (.bool false) (.string (bs hd)) (.slice A3 ds.length cap3) (.slice none 0 0)).2

set_option maxRecDepth 100000 in
set_option maxHeartbeats 4000000 in
theorem rule_other (m : Nat) (d : Int) (b off cap : Nat) (H : List Tk) (vi : Value) (I : List Tk) (w : World) (hfH : Fit H) (hfI : Fit I) (hb : b < w.heap.size) (hcH : H.length ≤ cap) (hH : TRd w w.heap.size (some ⟨b, off, none⟩) H.length H) (hI : TS w vi I) (hF : FoldAt w) (hm : MaxL w) (hx : H.any badP = false) (t : Tk) (r : List Tk) (hM : H = t :: r) (hk : t.k = 3) (hfo : Lib.equalFold t.val mediaW = false) :
    Calls Tryd.prog 69 #[.slice (some ⟨b, off, none⟩) H.length cap, vi, .int .i64 d] w fun e w' => (∃ v, e = .returned v ∧ RuleRet w w' (ruleW (subP m) H I) v) ∧ Below w.heap.size w w' := by
  have hHl := hfH.1
  have HFo := Lib.hid hF
  have HM := Lib.hid hm
  have HH := Lib.hid hH
  have HI := Lib.hid hI
  have cA := fun (X : World) (hX : Below w.heap.size w X) => anyBad_ct b off cap H X hfH.1 (Nat.lt_of_lt_of_le hb hX.size) (Rd.keep hH hX hX.size)
  rw [hx] at cA
  subst hM
  have cE := fun (X : World) (hX : Below w.heap.size w X) => foldM_ct t.val (hfH.2.2 t (by simp)).2.2 X (hF.on hX)
  rw [hfo] at cE
  replace cE := Lib.hid cE
  simp only [List.length_cons] at cA
  replace cA := Lib.hid cA
  have HTk := Lib.hid (show ∀ X, Below w.heap.size w X → X.cell? ⟨b, off, none⟩ = some (.int .i64 3) ∧ X.cell? ⟨b, off + 2, none⟩ = some (.string (bs t.val)) from fun X hX => by
    obtain ⟨b', o', hA, _, e0, _, e2, _⟩ := tok_zero (t := t) (r := r) (Rd.keep hH hX hX.size) (by simp)
    obtain ⟨rfl, rfl⟩ : b = b' ∧ off = o' := by simpa using hA
    exact ⟨by rw [e0, hk], e2⟩)
  have hz : ((r.length : Int) + 1 == 0) = false := by simp; omega
  have hz2 : (0 : Int) < (r.length : Int) + 1 := by omega
  have hr : ruleW (subP m) (t :: r) I = none := by unfold ruleW; rw [hx]; simp only [Bool.false_eq_true, if_false]; rw [if_pos hk, hfo]; rfl
  rw [hr]
  clear hfH hfI hb hH hI hF hm hx hr hk hfo
  go_enter Tryd.func69, Tryd.ntmps69
  go_wp2_with (first
    | (go_at_call 105; (with_reducible refine (cA.out _ (RB.new w).bel).mono ?_); rintro e W1 ⟨rfl, hb1⟩; have D1 := Lib.hid ((RB.new w).on hb1); have d1c := D1.out.cells.1; have d1f := D1.out.cells.2; obtain ⟨t1, t2⟩ := HTk.out _ D1.out.bel; clear hb1)
    | (go_at_call 109; (with_reducible refine (cE.out _ D1.out.bel).mono ?_); rintro e W2 ⟨rfl, hb2⟩; have D2 := Lib.hid (D1.out.on hb2); have d2c := D2.out.cells.1; have d2f := D2.out.cells.2; clear hb2 d1c d1f t1 t2))
  have e := (D2.out.fin (.bool false) (.string ⟨#[]⟩) (.slice none 0 0) (.slice none 0 0)).1
  refine bodyPost_ret (v := .tuple #[.agg #[.bool false, .string ⟨#[]⟩, .slice none 0 0, .slice none 0 0], .bool false]) (by simp [results, Tryd.results69, go_sem, e]) rfl ⟨⟨_, rfl, [.bool false, .string ⟨#[]⟩, .slice none 0 0, .slice none 0 0], rfl, rfl⟩, ?_⟩
  exact (D2.out.fin (.bool false) (.string ⟨#[]⟩) (.slice none 0 0) (.slice none 0 0)).2

set_option maxRecDepth 100000 in
set_option maxHeartbeats 4000000 in
theorem rule_deep (m : Nat) (d : Int) (b off cap : Nat) (H : List Tk) (vi : Value) (I : List Tk) (w : World) (hfH : Fit H) (hfI : Fit I) (hb : b < w.heap.size) (hcH : H.length ≤ cap) (hH : TRd w w.heap.size (some ⟨b, off, none⟩) H.length H) (hI : TS w vi I) (hF : FoldAt w) (hm : MaxL w) (hx : H.any badP = false) (t : Tk) (r : List Tk) (hM : H = t :: r) (hk : t.k = 3) (hfo : Lib.equalFold t.val mediaW = true) (h0 : m = 0) (hd : d = 3) :
    Calls Tryd.prog 69 #[.slice (some ⟨b, off, none⟩) H.length cap, vi, .int .i64 d] w fun e w' => (∃ v, e = .returned v ∧ RuleRet w w' (ruleW (subP m) H I) v) ∧ Below w.heap.size w w' := by
  have hHl := hfH.1
  have HFo := Lib.hid hF
  have HM := Lib.hid hm
  have HH := Lib.hid hH
  have HI := Lib.hid hI
  have cA := fun (X : World) (hX : Below w.heap.size w X) => anyBad_ct b off cap H X hfH.1 (Nat.lt_of_lt_of_le hb hX.size) (Rd.keep hH hX hX.size)
  rw [hx] at cA
  subst hM
  have cE := fun (X : World) (hX : Below w.heap.size w X) => foldM_ct t.val (hfH.2.2 t (by simp)).2.2 X (hF.on hX)
  rw [hfo] at cE
  replace cE := Lib.hid cE
  simp only [List.length_cons] at cA
  replace cA := Lib.hid cA
  have HTk := Lib.hid (show ∀ X, Below w.heap.size w X → X.cell? ⟨b, off, none⟩ = some (.int .i64 3) ∧ X.cell? ⟨b, off + 2, none⟩ = some (.string (bs t.val)) from fun X hX => by
    obtain ⟨b', o', hA, _, e0, _, e2, _⟩ := tok_zero (t := t) (r := r) (Rd.keep hH hX hX.size) (by simp)
    obtain ⟨rfl, rfl⟩ : b = b' ∧ off = o' := by simpa using hA
    exact ⟨by rw [e0, hk], e2⟩)
  have hz : ((r.length : Int) + 1 == 0) = false := by simp; omega
  have hz2 : (0 : Int) < (r.length : Int) + 1 := by omega
  subst hd h0
  have hr : ruleW (subP 0) (t :: r) I = none := by unfold ruleW; rw [hx]; simp only [Bool.false_eq_true, if_false]; rw [if_pos hk, hfo]; rfl
  rw [hr]
  clear hfH hfI hb hH hI hF hm hx hr hk hfo
  go_enter Tryd.func69, Tryd.ntmps69
  go_wp2_with (first
    | (go_at_call 105; (with_reducible refine (cA.out _ (RB.new w).bel).mono ?_); rintro e W1 ⟨rfl, hb1⟩; have D1 := Lib.hid ((RB.new w).on hb1); have d1c := D1.out.cells.1; have d1f := D1.out.cells.2; obtain ⟨t1, t2⟩ := HTk.out _ D1.out.bel; clear hb1)
    | (go_at_call 109; (with_reducible refine (cE.out _ D1.out.bel).mono ?_); rintro e W2 ⟨rfl, hb2⟩; have D2 := Lib.hid (D1.out.on hb2); have d2c := D2.out.cells.1; have d2f := D2.out.cells.2; clear hb2 d1c d1f t1 t2))
  have e := (D2.out.fin (.bool false) (.string ⟨#[]⟩) (.slice none 0 0) (.slice none 0 0)).1
  refine bodyPost_ret (v := .tuple #[.agg #[.bool false, .string ⟨#[]⟩, .slice none 0 0, .slice none 0 0], .bool false]) (by simp [results, Tryd.results69, go_sem, e]) rfl ⟨⟨_, rfl, [.bool false, .string ⟨#[]⟩, .slice none 0 0, .slice none 0 0], rfl, rfl⟩, ?_⟩
  exact (D2.out.fin (.bool false) (.string ⟨#[]⟩) (.slice none 0 0) (.slice none 0 0)).2

set_option maxRecDepth 100000 in
set_option maxHeartbeats 4000000 in
theorem rule_media (m : Nat) (d : Int) (b off cap : Nat) (H : List Tk) (vi : Value) (I : List Tk) (w : World) (hfH : Fit H) (hfI : Fit I) (hb : b < w.heap.size) (hcH : H.length ≤ cap) (hH : TRd w w.heap.size (some ⟨b, off, none⟩) H.length H) (hI : TS w vi I) (hF : FoldAt w) (hm : MaxL w) (hx : H.any badP = false) (t : Tk) (r : List Tk) (hM : H = t :: r) (hk : t.k = 3) (hfo : Lib.equalFold t.val mediaW = true) (m' : Nat) (h0 : m = m' + 1) (hm2 : m' ≤ 2) (hd : d = 2 - (m' : Int))
    (hIH : ∀ (v : Value) (L : List Tk) (X : World), Fit L → TS X v L → FoldAt X → MaxL X → Calls Tryd.prog 31 #[v, .int .i64 (2 - (m' : Int) + 1)] X fun e w' => (∃ v', e = .returned v' ∧ RS X w' v' (rulesP m' L)) ∧ Below X.heap.size X w') :
    Calls Tryd.prog 69 #[.slice (some ⟨b, off, none⟩) H.length cap, vi, .int .i64 d] w fun e w' => (∃ v, e = .returned v ∧ RuleRet w w' (ruleW (subP m) H I) v) ∧ Below w.heap.size w w' := by
  have hHl := hfH.1
  have HFo := Lib.hid hF
  have HM := Lib.hid hm
  have HH := Lib.hid hH
  have HI := Lib.hid hI
  have cA := fun (X : World) (hX : Below w.heap.size w X) => anyBad_ct b off cap H X hfH.1 (Nat.lt_of_lt_of_le hb hX.size) (Rd.keep hH hX hX.size)
  rw [hx] at cA
  subst hM
  have cE := fun (X : World) (hX : Below w.heap.size w X) => foldM_ct t.val (hfH.2.2 t (by simp)).2.2 X (hF.on hX)
  rw [hfo] at cE
  replace cE := Lib.hid cE
  simp only [List.length_cons] at cA
  replace cA := Lib.hid cA
  have HTk := Lib.hid (show ∀ X, Below w.heap.size w X → X.cell? ⟨b, off, none⟩ = some (.int .i64 3) ∧ X.cell? ⟨b, off + 2, none⟩ = some (.string (bs t.val)) from fun X hX => by
    obtain ⟨b', o', hA, _, e0, _, e2, _⟩ := tok_zero (t := t) (r := r) (Rd.keep hH hX hX.size) (by simp)
    obtain ⟨rfl, rfl⟩ : b = b' ∧ off = o' := by simpa using hA
    exact ⟨by rw [e0, hk], e2⟩)
  have hz : ((r.length : Int) + 1 == 0) = false := by simp; omega
  have hz2 : (0 : Int) < (r.length : Int) + 1 := by omega
  subst hd h0
  have hmz1 : (0 : Int) ≤ (m' : Int) := by omega
  have hmz2 : (m' : Int) ≤ 2 := by omega
  have hmz3 : ¬ (3 : Int) ≤ 2 - (m' : Int) := by omega
  have hwr := IntWalk.i64_in (2 - (m' : Int) + 1) (by omega)
  have cH := Lib.hid (fun (X : World) (hX : Below w.heap.size w X) => head_ct (.slice (addrAt 4 (some ⟨b, off, none⟩) cap 1) r.length (cap - 1)) r X (hfH.sub (List.sublist_cons_self _ _)).1 (TS.on (show TS w (.slice (addrAt 4 (some ⟨b, off, none⟩) cap 1) r.length (cap - 1)) r from ts_from hH hcH (i := 1) (by simp)) hX) (hfH.sub (List.sublist_cons_self _ _)).2.1)
  have cR := Lib.hid (fun (X : World) (hX : Below w.heap.size w X) => hIH vi I X hfI (hI.on hX) (hF.on hX) (hm.on hX hm.lt))
  have hsl := slice_one (some ⟨b, off, none⟩) r.length cap
  generalize hhd : headP r = hdd at *
  have hr : ruleW (subP (m' + 1)) (t :: r) I = some (.mk true hdd [] (rulesP m' I)) := by unfold ruleW; rw [hx]; simp only [Bool.false_eq_true, if_false]; rw [if_pos hk, hfo, hhd]; rfl
  rw [hr]
  generalize rulesP m' I = rs at *
  clear hfH hfI hb hH hI hF hm hx hr hk hfo hhd hIH
  go_enter Tryd.func69, Tryd.ntmps69
  go_wp2_with (first
    | (go_at_call 105; (with_reducible refine (cA.out _ (RB.new w).bel).mono ?_); rintro e W1 ⟨rfl, hb1⟩; have D1 := Lib.hid ((RB.new w).on hb1); have d1c := D1.out.cells.1; have d1f := D1.out.cells.2; obtain ⟨t1, t2⟩ := HTk.out _ D1.out.bel; clear hb1)
    | (go_at_call 109; (with_reducible refine (cE.out _ D1.out.bel).mono ?_); rintro e W2 ⟨rfl, hb2⟩; have D2 := Lib.hid (D1.out.on hb2); have d2c := D2.out.cells.1; have d2f := D2.out.cells.2; clear hb2 d1c d1f t1 t2)
    | (go_at_call 107; (with_reducible refine (cH.out _ D2.out.bel).mono ?_); rintro e W3 ⟨rfl, hb3⟩; have D3 := Lib.hid (D2.out.on hb3); clear hb3 d2c d2f)
    | (go_at_call 31; (with_reducible refine (cR.out _ D3.out.bel).mono ?_); rintro e W4 ⟨⟨v4, rfl, hrs4⟩, hb4⟩; have D4 := Lib.hid (D3.out.on hb4); have d4c := D4.out.cells.1; have d4f := D4.out.cells.2; obtain ⟨A4, cap4, rfl, hc4, hrow4⟩ := hrs4; have HR4 := Lib.hid hrow4; clear hb4 hrow4))
  have e := (D4.out.fin (.bool true) (.string (bs hdd)) (.slice none 0 0) (.slice A4 rs.length cap4)).1
  refine bodyPost_ret (v := .tuple #[.agg #[.bool true, .string (bs hdd), .slice none 0 0, .slice A4 rs.length cap4], .bool true]) (by simp [results, Tryd.results69, go_sem, e]) rfl ⟨⟨_, rfl, [.bool true, .string (bs hdd), .slice none 0 0, .slice A4 rs.length cap4], rfl, ?_⟩, ?_⟩
  · show RuleAt _ _ (.mk true hdd [] rs) _
    unfold RuleAt
    have hz3 : w.heap.size < W3.heap.size := D3.out.2.lt
    refine ⟨none, 0, A4, cap4, rfl, Nat.le_refl _, hc4, fun h => absurd h (by simp), fun h0 => ?_⟩
    obtain ⟨b4, o4, hA4, hn4, hx4⟩ := HR4.out h0
    have hkeep : ∀ k, New W3 W4 k → New w ((((W4.setCell ⟨w.heap.size, 0, none⟩ (.bool true)).setCell ⟨w.heap.size, 1, none⟩ (.string (bs hdd))).setCell ⟨w.heap.size, 2, none⟩ (.slice none 0 0)).setCell ⟨w.heap.size, 3, none⟩ (.slice A4 rs.length cap4)) k := fun k hk => ⟨by have := hk.1; omega, by rw [RB.size4]; exact hk.2⟩
    exact ⟨b4, o4, hA4, hkeep b4 hn4, RowAt.keep (fun k hk => RB.other _ _ _ _ k (by have := hk.1; omega)) hkeep b4 hn4 o4 rs hx4⟩
  · exact (D4.out.fin (.bool true) (.string (bs hdd)) (.slice none 0 0) (.slice A4 rs.length cap4)).2

end Go.Proofs.YtaihncbejhnceaaDoor.rul

namespace Go.Proofs.YtaihncbejhnceaaDoor.rul
open Go.RowKit Go.Proofs.YtaihncbejhnceaaDoor.base Go.Proofs.YtaihncbejhnceaaDoor.tok
set_option linter.unusedVariables false

theorem infoR : (Tryd.prog.info? 41).map (fun i => (i.zero, i.size, i.bytes)) = some (some (.agg #[.bool false, .string .empty, .slice none 0 0, .slice none 0 0]), 4, 72) := by kernel_rfl

/-- blocks that the call has made, but for the row itself -/
def Inn (w wr : World) (v : Value) (b : Nat) : Prop := w.heap.size ≤ b ∧ b < wr.heap.size ∧ v.ownBlock ≠ some b
/-- rules that are gathered -/
def Got (w wr : World) (v : Value) (acc : List Rl) : Prop := ∃ vss : List (List Value), vss.length = acc.length ∧ wr.ownsRow w.heap.size 41 4 v acc.length vss.flatten ∧ ∀ (i : Nat) r vs, acc[i]? = some r → vss[i]? = some vs → RuleAt wr (Inn w wr v) r vs
theorem Got.nil (w : World) : Got w w (.slice none 0 0) [] := ⟨[], rfl, World.ownsRow_nil _ _ _ _, fun i r vs h => by simp at h⟩
theorem Got.form {w wr : World} {v : Value} {acc : List Rl} (h : Got w wr v acc) : ∃ a cp, v = .slice a acc.length cp := by
  obtain ⟨vss, _, hrow, _⟩ := h
  exact row_form hrow
theorem Got.on {w wr w' : World} {v : Value} {acc : List Rl} (h : Got w wr v acc) (hb : Below wr.heap.size wr w') : Got w w' v acc := by
  obtain ⟨vss, hl, hrow, hr⟩ := h
  exact ⟨vss, hl, row_on hrow hb, fun i r vs h1 h2 => RuleAt.keep (fun b hb2 => hb.block b hb2.2.1) (fun b hb2 => ⟨hb2.1, Nat.lt_of_lt_of_le hb2.2.1 hb.size, hb2.2.2⟩) r vs (hr i r vs h1 h2)⟩
/-- what was gathered, as a slice -/
theorem Got.rs {w wr : World} {v : Value} {acc : List Rl} (h : Got w wr v acc) : RS w wr v acc := by
  obtain ⟨vss, hl, hrow, hr⟩ := h
  rcases hrow.2 with ⟨rfl, hz⟩ | ⟨g, cap, cur, rfl, hb, hg, hc, _⟩
  · exact ⟨none, 0, by rw [hz], by omega, fun h0 => by omega⟩
  · have hg2 := hrow.lt g rfl
    refine ⟨some ⟨g, 0, none⟩, cap, rfl, hc, fun _ => ⟨g, 0, rfl, hg2, ?_⟩⟩
    refine RowAt.mk_ acc vss 0 hl.symm (fun i r vs h1 h2 => RuleAt.keep (fun _ _ => rfl) (fun b hb2 => ⟨hb2.1, hb2.2.1⟩) r vs (hr i r vs h1 h2)) (fun j hj => ?_)
    rw [Nat.zero_add]
    exact hrow.cellAt j hj
/-- one more -/
theorem got_snoc {w wr w' : World} {v v' : Value} {acc : List Rl} {r : Rl} {vs : List Value} (vss : List (List Value)) (hl : vss.length = acc.length) (hrs : ∀ (i : Nat) r vs, acc[i]? = some r → vss[i]? = some vs → RuleAt wr (Inn w wr v) r vs)
    (hrow : w'.ownsRow w.heap.size 41 4 v' (acc.length + 1) (vss.flatten ++ vs)) (hg : wr.grownBy w' v.ownBlock) (hv : v'.ownBlock = v.ownBlock ∨ v'.ownBlock = some wr.heap.size) (hr : RuleAt wr (Inn w wr v) r vs) : Got w w' v' (acc ++ [r]) := by
  have hk : ∀ b, Inn w wr v b → w'.heap[b]? = wr.heap[b]? := fun b h => hg.block b h.2.1 (fun e => h.2.2 e.symm)
  have hS : ∀ b, Inn w wr v b → Inn w w' v' b := fun b h => ⟨h.1, Nat.lt_of_lt_of_le h.2.1 hg.size, fun e => by
    rcases hv with h3 | h3
    · rw [h3] at e; exact h.2.2 e
    · rw [h3] at e
      have := Option.some.inj e
      have := h.2.1
      omega⟩
  refine ⟨vss ++ [vs], by simp [hl], by rw [List.flatten_append, List.length_append]; simpa using hrow, fun i r' vs' h1 h2 => ?_⟩
  rcases Nat.lt_or_ge i acc.length with hi | hi
  · rw [List.getElem?_append_left hi] at h1
    rw [List.getElem?_append_left (by omega)] at h2
    exact RuleAt.keep hk hS r' vs' (hrs i r' vs' h1 h2)
  · rw [List.getElem?_append_right hi] at h1
    rw [List.getElem?_append_right (by omega), hl] at h2
    cases hq : i - acc.length with
    | succ n => rw [hq] at h1; simp at h1
    | zero =>
      rw [hq] at h1 h2
      simp at h1 h2
      subst h1 h2
      exact RuleAt.keep hk hS r vs hr
/-- a rule that was just made, beside a row that was there -/
theorem new_inn {w X X' : World} {v : Value} {base n : Nat} {e : TypeId} {size : Nat} {xs : List Value} (hb : Below w.heap.size w X) (hrow : X.ownsRow base e size v n xs) : ∀ b, New X X' b → Inn w X' v b := fun b h => ⟨Nat.le_trans hb.size h.1, h.2, fun e => by have := (hrow.lt b e).2; have := h.1; omega⟩
theorem Got.kept {w wr : World} {v : Value} {acc : List Rl} (h : Got w wr v acc) : ∀ g, v.ownBlock = some g → g < wr.heap.size := by
  obtain ⟨vss, _, hrow, _⟩ := h
  exact fun g hg => (hrow.lt g hg).2

theorem rd_lt {w : World} {b off n : Nat} {t : Tk} {r : List Tk} (h : TRd w w.heap.size (some ⟨b, off, none⟩) n (t :: r)) : b < w.heap.size := by
  obtain ⟨b', o', hA, hlt, _⟩ := h.2 (by rw [← h.1]; simp)
  obtain ⟨rfl, rfl⟩ : b = b' ∧ off = o' := by simpa using hA
  exact hlt
theorem slF (n i : Nat) (h : i ≤ n) (A : Option Addr) (cap : Nat) (w : World) : (Instr.slice 67 (.slice A (n + 1) cap) (some (.int .i64 ((i : Int) + 1))) none none).run Tryd.prog w = .ok (.slice (addrAt 4 A cap (i + 1)) (n - i) (cap - (i + 1))) w := by
  have := slice_from (P := Tryd.prog) (k := 4) Tryd.underlying67 Tryd.sizeOf104 A (n + 1) cap ((i : Int) + 1) (by omega) (by omega) w
  rw [this, show ((i : Int) + 1).toNat = i + 1 by omega, show n + 1 - (i + 1) = n - i by omega]

theorem slA (n i q : Nat) (h1 : 1 ≤ q) (h : i + q ≤ n + 1) (A : Option Addr) (cap : Nat) (hc : n + 1 ≤ cap) (w : World) : (Instr.slice 67 (.slice A (n + 1) cap) (some (.int .i64 ((i : Int) + 1))) (some (.int .i64 ((i : Int) + q))) none).run Tryd.prog w = .ok (.slice (addrAt 4 A cap (i + 1)) (q - 1) (cap - (i + 1))) w := by
  have := slice_both (P := Tryd.prog) (k := 4) Tryd.underlying67 Tryd.sizeOf104 A (n + 1) cap ((i : Int) + 1) ((i : Int) + q) (by omega) (by omega) (by omega) w
  rw [this, show ((i : Int) + 1).toNat = i + 1 by omega, show ((i : Int) + q).toNat - (i + 1) = q - 1 by omega]
theorem slB (n i q : Nat) (h1 : 2 ≤ q) (h : i + q ≤ n + 1) (A : Option Addr) (cap : Nat) (hc : n + 1 ≤ cap) (w : World) : (Instr.slice 67 (.slice A (n + 1) cap) (some (.int .i64 ((i : Int) + 1))) (some (.int .i64 ((i : Int) + q - 1))) none).run Tryd.prog w = .ok (.slice (addrAt 4 A cap (i + 1)) (q - 2) (cap - (i + 1))) w := by
  have := slice_both (P := Tryd.prog) (k := 4) Tryd.underlying67 Tryd.sizeOf104 A (n + 1) cap ((i : Int) + 1) ((i : Int) + q - 1) (by omega) (by omega) (by omega) w
  rw [this, show ((i : Int) + 1).toNat = i + 1 by omega, show ((i : Int) + q - 1).toNat - (i + 1) = q - 2 by omega]
theorem slU (n i : Nat) (h : i ≤ n) (A : Option Addr) (cap : Nat) (hc : n + 1 ≤ cap) (w : World) : (Instr.slice 67 (.slice A (n + 1) cap) none (some (.int .i64 (i : Int))) none).run Tryd.prog w = .ok (.slice A i cap) w := by
  have := slice_upto (P := Tryd.prog) (k := 4) Tryd.underlying67 Tryd.sizeOf104 A (n + 1) cap (i : Int) (by omega) (by omega) w
  rw [this, Int.toNat_natCast]
theorem slE (n i q : Nat) (h : i + q ≤ n + 1) (A : Option Addr) (cap : Nat) (w : World) : (Instr.slice 67 (.slice A (n + 1) cap) (some (.int .i64 ((i : Int) + q))) none none).run Tryd.prog w = .ok (.slice (addrAt 4 A cap (i + q)) (n + 1 - (i + q)) (cap - (i + q))) w := by
  have := slice_from (P := Tryd.prog) (k := 4) Tryd.underlying67 Tryd.sizeOf104 A (n + 1) cap ((i : Int) + q) (by omega) (by omega) w
  rw [this, show ((i : Int) + q).toNat = i + q by omega]

set_option maxRecDepth 100000 in
set_option maxHeartbeats 8000000 in
theorem rules_got (sub : Option (List Tk → List Rl)) (d : Int)
    (hRule : ∀ (b off cap : Nat) (H : List Tk) (vi : Value) (I : List Tk) (w : World), Fit H → Fit I → b < w.heap.size → H.length ≤ cap → TRd w w.heap.size (some ⟨b, off, none⟩) H.length H → TS w vi I → FoldAt w → MaxL w →
      Calls Tryd.prog 69 #[.slice (some ⟨b, off, none⟩) H.length cap, vi, .int .i64 d] w fun e w' => (∃ v, e = .returned v ∧ RuleRet w w' (ruleW sub H I) v) ∧ Below w.heap.size w w')
    (v : Value) (L : List Tk) (w : World) (hf : Fit L) (hL : TS w v L) (hF : FoldAt w) (hm : MaxL w) :
    Calls Tryd.prog 31 #[v, .int .i64 d] w fun e w' => (∃ v', e = .returned v' ∧ Got w w' v' (rulesW sub L)) ∧ Below w.heap.size w w' := by
  obtain ⟨i0, hi, hz0, hz1, hz2⟩ := info_parts infoR
  have Hz0 := Lib.hid hz0
  have Hi := Lib.hid hi
  have Hz1 := Lib.hid hz1
  have Hz2 := Lib.hid hz2
  have HF := Lib.hid hF
  have HM := Lib.hid hm
  have HL := Lib.hid hL
  have HFit := Lib.hid hf
  have HRule := Lib.hid hRule
  generalize hR : rulesW sub L = R
  have HR := Lib.hid hR
  clear hz0 hi hz1 hz2 hF hm hL hf hRule hR
  go_enter Tryd.func31, Tryd.ntmps31
  go_wp2_with fail
  go_loopw [0, 5] (fun x o wr => ∃ (M : List Tk) (acc : List Rl), TS w x M ∧ Fit M ∧ acc.length + M.length ≤ L.length ∧ acc ++ rulesW sub M = R ∧ Got w wr o acc ∧ Below w.heap.size w wr) (fun x _ _ => lenOf x)
  case atStart => exact ⟨L, [], HL.out, HFit.out, by simp, HR.out, Got.nil w, Below.refl _ _⟩
  case round =>
    obtain ⟨M, acc, hts, hfM, hlen, hinv, hgot, hbel⟩ := hrel
    have HBl := Lib.hid hbel
    have HInv := Lib.hid hinv
    have HG := Lib.hid hgot
    have hL6 := HFit.out.1
    have cS := Lib.hid (solid_ct _ M w wr hfM.1 hts hbel)
    obtain ⟨ov, ocp, rfl⟩ := hgot.form
    have hfK := hfM.sub (solid_sub M)
    have hMl := solid_le M
    obtain ⟨AM, capM, rfl, hcM, hrM⟩ := hts
    clear hinv hbel HR hrM
    cases hK : solidP M with
    | nil =>
      have HFin := Lib.hid (show R = acc by rw [← HInv.out, rulesW_nil hK, List.append_nil])
      rw [hK] at cS
      clear hfK hMl hgot hK
      go_wp2_with (first
        | (go_at_call 63; (with_reducible refine (cS.out).mono ?_); rintro e W1 ⟨⟨v1, rfl, hts1⟩, hb1⟩; have HB1 := Lib.hid (HBl.out.trans (hb1.mono HBl.out.size)); have HG1 := Lib.hid (HG.out.on hb1); obtain ⟨A1, cap1, rfl, hc1, hr1⟩ := hts1; clear hb1 hr1))
      go_ret
      exact ⟨⟨_, rfl, by rw [HFin.out]; exact HG1.out⟩, HB1.out⟩
    | cons t r =>
      rw [hK] at cS hfK hMl
      simp only [List.length_cons] at hMl
      have hrx : (r.length : Int) ≤ 1000000 := by have := hfK.1; simp at this; omega
      obtain ⟨a, ha⟩ : ∃ a, decide (t.k = 3) = a := ⟨_, rfl⟩
      have hb3 : (t.k == 3) = a := by rw [← ha]; rfl
      have hz : ((r.length : Int) + 1 == 0) = false := by simp; omega
      have hz2 : (0 : Int) < (r.length : Int) + 1 := by omega
      have hil := findP_le (beginsR a) _ (t :: r) (Nat.le_refl _)
      have cFind := fun (W1 : World) (b1 o1 cap1 : Nat) (hX : Below w.heap.size w W1) (hr : TRd w w.heap.size (some ⟨b1, o1, none⟩) (t :: r).length (t :: r)) => show Calls Tryd.prog 64 #[.slice (some ⟨b1, o1, none⟩) (r.length + 1) cap1, .int .i64 0, .func (.func 65) #[] #[.pointer (some ⟨W1.heap.size, 0, none⟩)]] (W1.alloc (.cells #[.bool a] 4)) fun e w' => e = .returned (.int .i64 ((findP (beginsR a) (t :: r) : Nat) : Int)) ∧ Below (W1.alloc (.cells #[.bool a] 4)).heap.size (W1.alloc (.cells #[.bool a] 4)) w' from by
        have hX2 := hX.alloc hX.size (.cells #[.bool a] 4)
        have := find_ct (beginsR a) 65 #[.pointer (some ⟨W1.heap.size, 0, none⟩)] enters_begins (some ⟨b1, o1, none⟩) cap1 (t :: r) 0 (by omega) (W1.alloc (.cells #[.bool a] 4)) hfK.1 (Rd.keep hr hX2 hX2.size) hfK.raws (fun W' hW k n rr vv => begins_ct a W1.heap.size k n rr vv W' (Nat.lt_of_lt_of_le (by simp) hW.size) ((hW.cell (p := ⟨W1.heap.size, 0, none⟩) (by simp)).trans (Blk.cell (Blk.new (w := W1) (t := 4) (cs := #[.bool a]) rfl) 0)))
        rw [List.drop_zero, Nat.zero_add] at this
        exact this
      have hnone : (t :: r).length ≤ findP (beginsR a) (t :: r) → rulesW sub M = [] := fun h => rulesW_none hK (by rw [ha]; exact h)
      have hsome := fun (b : Tk) (rest : List Tk) (h : (t :: r).drop (findP (beginsR a) (t :: r)) = b :: rest) => rulesW_some (sub := sub) hK (b := b) (rest := rest) (by rw [ha]; exact h)
      rw [ha] at hsome
      generalize hi : findP (beginsR a) (t :: r) = i at *
      simp only [List.length_cons] at hil hnone
      replace cFind := Lib.hid cFind
      have HfK := Lib.hid hfK
      have hix : (i : Int) ≤ 1000001 := by omega
      by_cases hall : i = r.length + 1
      · have HFin := Lib.hid (show R = acc by rw [← HInv.out, hnone (by omega), List.append_nil])
        have hq : ((i : Int) == (r.length : Int) + 1) = true := by simp; omega
        clear hgot hK hfK hMl ha hil hi hnone hsome hall
        obtain ⟨tk, tr, tv, tn⟩ := t
        simp only at hb3
        go_wp2_with (first
          | (go_at_call 63; (with_reducible refine (cS.out).mono ?_); rintro e W1 ⟨⟨v1, rfl, hts1⟩, hb1⟩; have HB1 := Lib.hid (HBl.out.trans (hb1.mono HBl.out.size)); have HG1 := Lib.hid (HG.out.on hb1); obtain ⟨A1, cap1, rfl, hc1, hr1⟩ := hts1; obtain ⟨b1, o1, rfl, hb1l, e0, e1, e2, e3⟩ := tok_zero (Rd.keep hr1 HB1.out HB1.out.size) (by simp); have HR1 := Lib.hid hr1; have HC1 := Lib.hid hc1; clear hb1 hr1 hc1)
          | (go_at_call 64; (with_reducible refine (cFind.out _ _ _ _ HB1.out HR1.out).mono ?_); rintro e W2 ⟨rfl, hb2⟩; have HB2 := Lib.hid ((HB1.out.alloc HB1.out.size _).trans (hb2.mono (by have := HB1.out.size; simp; omega))); have HG2 := Lib.hid ((HG1.out.on ((Below.refl _ _).alloc (Nat.le_refl _) _)).on hb2); clear hb2 e0 e1 e2 e3))
        go_ret
        exact ⟨⟨_, rfl, by rw [HFin.out]; exact HG2.out⟩, HB2.out⟩
      · have hir : i ≤ r.length := by omega
        have hq : ((i : Int) == (r.length : Int) + 1) = false := by simp; omega
        have hiz : (i : Int) < (r.length : Int) + 1 := by omega
        obtain ⟨tb, htb⟩ : ∃ tb, (t :: r)[i]? = some tb := ⟨(t :: r)[i]'(by simp; omega), List.getElem?_eq_getElem _⟩
        have hdrop := drop_at htb
        have hs := hsome tb _ hdrop
        have hftb := HfK.out.2.2 tb (List.mem_of_getElem? htb)
        have hrestl : ((t :: r).drop (i + 1)).length = r.length - i := by rw [List.length_drop, List.length_cons]; omega
        have hrsub : ((t :: r).drop (i + 1)).Sublist (t :: r) := List.drop_sublist _ _
        have HTok := Lib.hid (show ∀ (X : World) (b1 o1 : Nat), TRd X X.heap.size (some ⟨b1, o1, none⟩) (t :: r).length (t :: r) → X.cell? ⟨b1, o1 + i * 4, none⟩ = some (.int .i64 tb.k) ∧ X.cell? ⟨b1, o1 + i * 4 + 1, none⟩ = some (.string (bs tb.raw)) ∧ X.cell? ⟨b1, o1 + i * 4 + 2, none⟩ = some (.string (bs tb.val)) ∧ X.cell? ⟨b1, o1 + i * 4 + 3, none⟩ = some (.int .i64 tb.num) from fun X b1 o1 h => by
          obtain ⟨b', o', t', hA, _, hd, e0, e1, e2, e3⟩ := TRd.tok h (k := i) (by simp; omega)
          obtain ⟨rfl, rfl⟩ : b1 = b' ∧ o1 = o' := by simpa using hA
          obtain rfl : tb = t' := Option.some.inj (htb.symm.trans hd)
          exact ⟨e0, e1, e2, e3⟩)
        cases hbr : braceP tb
        · have HNew := Lib.hid (show acc ++ rulesW sub ((t :: r).drop (i + 1)) = R by rw [← HInv.out, hs, hbr]; rfl)
          obtain ⟨bk, br, bv, bn⟩ := tb
          have cB := Lib.hid (fun X => asks_at brace_ct hbr X)
          have HSl := Lib.hid (slF r.length i hir)
          have HTS := Lib.hid (show ∀ (A : Option Addr) (cap : Nat), (t :: r).length ≤ cap → TRd w w.heap.size A (t :: r).length (t :: r) → TS w (.slice (addrAt 4 A cap (i + 1)) (r.length - i) (cap - (i + 1))) ((t :: r).drop (i + 1)) from fun A cap h1 h2 => by
            have := ts_from h2 h1 (i := i + 1) (by simp; omega)
            rwa [show (t :: r).length - (i + 1) = r.length - i by simp] at this)
          have Hl := Lib.hid (show acc.length + ((t :: r).drop (i + 1)).length ≤ L.length by omega)
          have hfN := HfK.out.sub hrsub
          obtain ⟨tk, tr, tv, tn⟩ := t
          simp only at hb3 HTok
          clear hgot hK hfK ha hil hi hnone hsome hall hdrop hs hftb hrsub htb hbr
          go_wp2_with (first
            | (go_at_call 63; (with_reducible refine (cS.out).mono ?_); rintro e W1 ⟨⟨v1, rfl, hts1⟩, hb1⟩; have HB1 := Lib.hid (HBl.out.trans (hb1.mono HBl.out.size)); have HG1 := Lib.hid (HG.out.on hb1); obtain ⟨A1, cap1, rfl, hc1, hr1⟩ := hts1; obtain ⟨b1, o1, rfl, hb1l, e0, e1, e2, e3⟩ := tok_zero (Rd.keep hr1 HB1.out HB1.out.size) (by simp); have HR1 := Lib.hid hr1; have HC1 := Lib.hid hc1; clear hb1 hr1 hc1)
            | (go_at_call 64; (with_reducible refine (cFind.out _ _ _ _ HB1.out HR1.out).mono ?_); rintro e W2 ⟨rfl, hb2⟩; have HB2 := Lib.hid ((HB1.out.alloc HB1.out.size _).trans (hb2.mono (by have := HB1.out.size; simp; omega))); have HG2 := Lib.hid ((HG1.out.on ((Below.refl _ _).alloc (Nat.le_refl _) _)).on hb2); obtain ⟨f0, f1, f2, f3⟩ := HTok.out _ _ _ (Rd.keep HR1.out HB2.out HB2.out.size); clear hb2 e0 e1 e2 e3)
            | (go_at_call 66; (with_reducible refine (cB.out _).mono ?_); rintro e W3 ⟨rfl, hb3x⟩; have HB3 := Lib.hid (HB2.out.trans (hb3x.mono HB2.out.size)); have HG3 := Lib.hid (HG2.out.on hb3x); have hslx := HSl.out (some ⟨b1, o1, none⟩) cap1; have HTSx := Lib.hid (HTS.out _ _ HC1.out HR1.out); clear hb3x f0 f1 f2 f3))
          go_roundw
          case rel => exact ⟨_, acc, HTSx.out, hfN, Hl.out, HNew.out, HG3.out, HB3.out⟩
          case measure => simp only [lenOf]; omega
        · have hblk := block_is htb
          have hbd := blkLen_bd tb ((t :: r).drop (i + 1))
          rw [hrestl] at hbd
          have htwo := fun h => blk_two (t := tb) (L := (t :: r).drop (i + 1)) h
          have cBk := fun (X : World) (b1 o1 cap1 : Nat) (hX : TRd X X.heap.size (some ⟨b1, o1, none⟩) (t :: r).length (t :: r)) => block_ct (some ⟨b1, o1, none⟩) cap1 (t :: r) i (by simp; omega) X HfK.out.1 hX HfK.out.raws
          rw [hblk] at cBk
          simp only [List.length_cons] at cBk
          rw [hbr] at hs
          simp only [if_true] at hs
          unfold innP at hs
          have hHl : ((t :: r).take i).length = i := by rw [List.length_take, List.length_cons]; omega
          have hHs : ((t :: r).take i).Sublist (t :: r) := List.take_sublist _ _
          have hHd := Lib.hid (show ∀ (b1 o1 : Nat), TRd w w.heap.size (some ⟨b1, o1, none⟩) (t :: r).length (t :: r) → TRd w w.heap.size (some ⟨b1, o1, none⟩) i ((t :: r).take i) from fun b1 o1 h => Rd.first h (by simp; omega))
          have hfHd := HfK.out.sub hHs
          generalize hq0 : blkLen tb ((t :: r).drop (i + 1)) = q at *
          have hqx : (q : Int) ≤ 1000001 := by omega
          have hq1 : 1 ≤ q := hbd.1
          have hrd : ((t :: r).drop (i + 1)).drop (q - 1) = (t :: r).drop (i + q) := by rw [List.drop_drop]; congr 1; omega
          rw [hrd] at hs
          have HSlU := Lib.hid (slU r.length i hir)
          have HSlA := Lib.hid (slA r.length i q hbd.1 (by omega))
          have HSlE := Lib.hid (slE r.length i q (by omega))
          have HTE := Lib.hid (show ∀ (A : Option Addr) (cap : Nat), (t :: r).length ≤ cap → TRd w w.heap.size A (t :: r).length (t :: r) → TS w (.slice (addrAt 4 A cap (i + q)) (r.length + 1 - (i + q)) (cap - (i + q))) ((t :: r).drop (i + q)) from fun A cap h1 h2 => ts_from h2 h1 (i := i + q) (by omega))
          have hEl : ((t :: r).drop (i + q)).length = r.length + 1 - (i + q) := by rw [List.length_drop, List.length_cons]
          have Hl := Lib.hid (show acc.length + 1 + ((t :: r).drop (i + q)).length ≤ L.length by omega)
          have hfN := HfK.out.sub (List.drop_sublist (i + q) (t :: r))
          obtain ⟨bk, br, bv, bn⟩ := tb
          have cB := Lib.hid (fun X => asks_at brace_ct hbr X)
          cases hok : blkOk ⟨bk, br, bv, bn⟩ ((t :: r).drop (i + 1))
          · rw [hok] at hs cBk
            simp only [Bool.false_eq_true, if_false] at hs
            have hqr : q - 1 = ((t :: r).drop (i + 1)).length := by
              have := hq0
              unfold blkLen at this
              unfold blkOk at hok
              cases hcl : closeP [closerP br] ((t :: r).drop (i + 1)) with
              | none => simp only [hcl] at this; omega
              | some e => rw [hcl] at hok; cases hok
            rw [← hqr] at hs
            clear hqr
            have hIl : (((t :: r).drop (i + 1)).take (q - 1)).length = q - 1 := by rw [List.length_take, hrestl]; omega
            have hIs : (((t :: r).drop (i + 1)).take (q - 1)).Sublist (t :: r) := (List.take_sublist _ _).trans hrsub
            have HTI := Lib.hid (show ∀ (A : Option Addr) (cap : Nat), (t :: r).length ≤ cap → TRd w w.heap.size A (t :: r).length (t :: r) → TS w (.slice (addrAt 4 A cap (i + 1)) (q - 1) (cap - (i + 1))) (((t :: r).drop (i + 1)).take (q - 1)) from fun A cap h1 h2 => ts_cut h2 h1 (i := i + 1) (m := q - 1) (by simp; omega))
            have cRule := fun (b1 o1 cap1 : Nat) (X : World) (vi : Value) (hX : Below w.heap.size w X) (hb : b1 < X.heap.size) (hcp : i ≤ cap1) (h1 : TRd w w.heap.size (some ⟨b1, o1, none⟩) i ((t :: r).take i)) (h2 : TS w vi (((t :: r).drop (i + 1)).take (q - 1))) => HRule.out b1 o1 cap1 ((t :: r).take i) vi (((t :: r).drop (i + 1)).take (q - 1)) X hfHd (HfK.out.sub hIs) hb (by rw [hHl]; exact hcp) (by rw [hHl]; exact Rd.keep h1 hX hX.size) (h2.on hX) (HF.out.on hX) (HM.out.on hX HM.out.lt)
            rw [hHl] at cRule
            generalize hrw : ruleW sub ((t :: r).take i) (((t :: r).drop (i + 1)).take (q - 1)) = rr at *
            generalize (t :: r).take i = HH at *
            generalize ((t :: r).drop (i + 1)).take (q - 1) = II at *
            cases rr with
            | none =>
              have HNew := Lib.hid (show acc ++ rulesW sub ((t :: r).drop (i + q)) = R by rw [← HInv.out, hs]; rfl)
              replace cBk := Lib.hid cBk
              have cR2 := Lib.hid (fun (b1 o1 cap1 : Nat) (X : World) (vi : Value) hX hb hcp h1 h2 => (cRule b1 o1 cap1 X vi hX hb hcp h1 h2).mono (R' := fun e w' => e = .returned (.tuple #[.agg #[.bool false, .string ⟨#[]⟩, .slice none 0 0, .slice none 0 0], .bool false]) ∧ Below X.heap.size X w') (fun e w' ⟨⟨v, he, vs, hv, hvs⟩, hb⟩ => by simp only at hvs; subst hvs; rw [he, hv]; exact ⟨rfl, hb⟩))
              clear hgot hK hfK ha hil hi hnone hsome hall hdrop hs hftb hrsub htb hbr hblk hbd htwo hHl hHs hfHd hq0 hrd hEl hok hrestl cRule hrw hIl hIs
              go_wp2_with (first
                | (go_at_call 63; (with_reducible refine (cS.out).mono ?_); rintro e W1 ⟨⟨v1, rfl, hts1⟩, hb1⟩; have HB1 := Lib.hid (HBl.out.trans (hb1.mono HBl.out.size)); have HG1 := Lib.hid (HG.out.on hb1); obtain ⟨A1, cap1, rfl, hc1, hr1⟩ := hts1; obtain ⟨b1, o1, rfl, hb1l, e0, e1, e2, e3⟩ := tok_zero (Rd.keep hr1 HB1.out HB1.out.size) (by simp); have HR1 := Lib.hid hr1; have HC1 := Lib.hid hc1; clear hb1 hr1 hc1)
                | (go_at_call 64; (with_reducible refine (cFind.out _ _ _ _ HB1.out HR1.out).mono ?_); rintro e W2 ⟨rfl, hb2⟩; have HB2 := Lib.hid ((HB1.out.alloc HB1.out.size _).trans (hb2.mono (by have := HB1.out.size; simp; omega))); have HG2 := Lib.hid ((HG1.out.on ((Below.refl _ _).alloc (Nat.le_refl _) _)).on hb2); obtain ⟨f0, f1, f2, f3⟩ := HTok.out _ _ _ (Rd.keep HR1.out HB2.out HB2.out.size); clear hb2 e0 e1 e2 e3)
                | (go_at_call 66; (with_reducible refine (cB.out _).mono ?_); rintro e W3 ⟨rfl, hb3x⟩; have HB3 := Lib.hid (HB2.out.trans (hb3x.mono HB2.out.size)); have HG3 := Lib.hid (HG2.out.on hb3x); have hsu := HSlU.out (some ⟨b1, o1, none⟩) cap1 (by have := HC1.out; simpa using this); have hsa := HSlA.out (some ⟨b1, o1, none⟩) cap1 (by have := HC1.out; simpa using this); have hse := HSlE.out (some ⟨b1, o1, none⟩) cap1;  have HTEx := Lib.hid (HTE.out _ _ HC1.out HR1.out); have HTIx := Lib.hid (HTI.out _ _ HC1.out HR1.out); clear hb3x f0 f1 f2 f3)
                | (go_at_call 68; (with_reducible refine (cBk.out _ _ _ _ (Rd.keep HR1.out HB3.out HB3.out.size)).mono ?_); rintro e W4 ⟨rfl, hb4⟩; have HB4 := Lib.hid (HB3.out.trans (hb4.mono HB3.out.size)); have HG4 := Lib.hid (HG3.out.on hb4); clear hb4)
                | (go_at_call 69; (with_reducible refine (cR2.out b1 o1 cap1 _ _ HB4.out (Nat.lt_of_lt_of_le (rd_lt HR1.out) HB4.out.size) (by have := HC1.out; simp at this; omega) (hHd.out _ _ HR1.out) HTIx.out).mono ?_); rintro e W5 ⟨rfl, hb5⟩; have HB5 := Lib.hid (HB4.out.trans (hb5.mono HB4.out.size)); have HG5 := Lib.hid (HG4.out.on hb5); clear hb5))
              go_roundw
              case rel => exact ⟨_, acc, HTEx.out, hfN, by have := Hl.out; omega, HNew.out, HG5.out.on ((Below.refl _ _).alloc (Nat.le_refl _) _), HB5.out.alloc HB5.out.size _⟩
              case measure => simp only [lenOf]; omega
            | some r0 =>
              have HNew := Lib.hid (show (acc ++ [r0]) ++ rulesW sub ((t :: r).drop (i + q)) = R by rw [← HInv.out, hs]; simp)
              replace cBk := Lib.hid cBk
              have cR2 := Lib.hid (fun (b1 o1 cap1 : Nat) (X : World) (vi : Value) hX hb hcp h1 h2 => (cRule b1 o1 cap1 X vi hX hb hcp h1 h2).mono (R' := fun e w' => (∃ (cm : Bool) (ch : ByteArray) (cA : Option Addr) (cn cc : Nat) (cA2 : Option Addr) (cn2 cc2 : Nat), e = .returned (.tuple #[.agg #[.bool cm, .string ch, .slice cA cn cc, .slice cA2 cn2 cc2], .bool true]) ∧ RuleAt w' (New X w') r0 [.bool cm, .string ch, .slice cA cn cc, .slice cA2 cn2 cc2]) ∧ Below X.heap.size X w') (fun e w' ⟨⟨v, he, vs, hv, hvs⟩, hb⟩ => by
                have hvs2 := hvs
                cases r0 with
                | mk m h ds rs =>
                  simp only at hvs2
                  unfold RuleAt at hvs2
                  obtain ⟨A, c, A2, cc2, rfl, _⟩ := hvs2
                  exact ⟨⟨m, bs h, A, ds.length, c, A2, rs.length, cc2, by rw [he, hv]; rfl, hvs⟩, hb⟩))
              have hacx : acc.length ≤ 1000000 := by omega
              clear hgot hK hfK ha hil hi hnone hsome hall hdrop hs hftb hrsub htb hbr hblk hbd htwo hHl hHs hfHd hq0 hrd hEl hok hrestl cRule hrw hIl hIs
              go_wp2_with (first
                | (go_at_call 63; (with_reducible refine (cS.out).mono ?_); rintro e W1 ⟨⟨v1, rfl, hts1⟩, hb1⟩; have HB1 := Lib.hid (HBl.out.trans (hb1.mono HBl.out.size)); have HG1 := Lib.hid (HG.out.on hb1); obtain ⟨A1, cap1, rfl, hc1, hr1⟩ := hts1; obtain ⟨b1, o1, rfl, hb1l, e0, e1, e2, e3⟩ := tok_zero (Rd.keep hr1 HB1.out HB1.out.size) (by simp); have HR1 := Lib.hid hr1; have HC1 := Lib.hid hc1; clear hb1 hr1 hc1)
                | (go_at_call 64; (with_reducible refine (cFind.out _ _ _ _ HB1.out HR1.out).mono ?_); rintro e W2 ⟨rfl, hb2⟩; have HB2 := Lib.hid ((HB1.out.alloc HB1.out.size _).trans (hb2.mono (by have := HB1.out.size; simp; omega))); have HG2 := Lib.hid ((HG1.out.on ((Below.refl _ _).alloc (Nat.le_refl _) _)).on hb2); obtain ⟨f0, f1, f2, f3⟩ := HTok.out _ _ _ (Rd.keep HR1.out HB2.out HB2.out.size); clear hb2 e0 e1 e2 e3)
                | (go_at_call 66; (with_reducible refine (cB.out _).mono ?_); rintro e W3 ⟨rfl, hb3x⟩; have HB3 := Lib.hid (HB2.out.trans (hb3x.mono HB2.out.size)); have HG3 := Lib.hid (HG2.out.on hb3x); have hsu := HSlU.out (some ⟨b1, o1, none⟩) cap1 (by have := HC1.out; simpa using this); have hsa := HSlA.out (some ⟨b1, o1, none⟩) cap1 (by have := HC1.out; simpa using this); have hse := HSlE.out (some ⟨b1, o1, none⟩) cap1;  have HTEx := Lib.hid (HTE.out _ _ HC1.out HR1.out); have HTIx := Lib.hid (HTI.out _ _ HC1.out HR1.out); clear hb3x f0 f1 f2 f3)
                | (go_at_call 68; (with_reducible refine (cBk.out _ _ _ _ (Rd.keep HR1.out HB3.out HB3.out.size)).mono ?_); rintro e W4 ⟨rfl, hb4⟩; have HB4 := Lib.hid (HB3.out.trans (hb4.mono HB3.out.size)); have HG4 := Lib.hid (HG3.out.on hb4); clear hb4)
                | (go_at_call 69; (with_reducible refine (cR2.out b1 o1 cap1 _ _ HB4.out (Nat.lt_of_lt_of_le (rd_lt HR1.out) HB4.out.size) (by have := HC1.out; simp at this; omega) (hHd.out _ _ HR1.out) HTIx.out).mono ?_); rintro e W5 ⟨⟨cm, ch, cA, cn, cc, cA2, cn2, cc2, rfl, hra⟩, hb5⟩; have HB5 := Lib.hid (HB4.out.trans (hb5.mono HB4.out.size)); obtain ⟨vss, hvl, hrow4, hrs4⟩ := HG4.out.on hb5; have HRow := Lib.hid hrow4; have HVl := Lib.hid hvl; have HRs := Lib.hid hrs4; obtain ⟨_, _, hrow40, _⟩ := HG4.out; have HRa := Lib.hid (RuleAt.keep (fun _ _ => rfl) (new_inn HB4.out hrow40) _ _ hra); clear hb5 hra hvl hrow4 hrs4 hrow40)
                | (at_builtin; refine wpList_append_own_at _ rfl _ _ 23 rfl w.heap.size 41 i0 _ 4 72 Tryd.underlying23 Hi.out Hz0.out Hz1.out Hz2.out rfl (by decide) _ _ _ rfl ((HRow.out.alloc _).alloc _) ⟨W5.heap.size + 1, 0, none⟩ 1 1 [.bool cm, .string ch, .slice cA cn cc, .slice cA2 cn2 cc2] rfl rfl ?c1 ?c2 ?c3 ?c4 ?c5 ?_))
              case c1 => exact (Blk.new (w := W5.alloc (.cells #[.bool cm, .string ch, .slice cA cn cc, .slice cA2 cn2 cc2] 41)) (t := 41) (cs := #[.bool cm, .string ch, .slice cA cn cc, .slice cA2 cn2 cc2]) (by simp)).news
              case c2 => simp [Value.oneCell']
              case c3 => unfold maxLen; omega
              case c4 => omega
              case c5 => have := HB5.out.size; simp; omega
              intro v' w6 hown6 hgrow6 hnil6 hblk6
              have HB6 := Lib.hid (below_app ((HB5.out.alloc HB5.out.size _).alloc (by have := HB5.out.size; simp; omega) _) hgrow6 ((HRow.out.alloc _).alloc _) (Nat.le_refl _) (by have := HB5.out.size; simp; omega))
              have hup : Below W5.heap.size W5 ((W5.alloc (.cells #[.bool cm, .string ch, .slice cA cn cc, .slice cA2 cn2 cc2] 41)).alloc (.cells #[.bool cm, .string ch, .slice cA cn cc, .slice cA2 cn2 cc2] 41)) := ((Below.refl _ _).alloc (Nat.le_refl _) _).alloc (by simp) _
              have hinn : ∀ b, Inn w W5 (.slice ov acc.length ocp) b → Inn w ((W5.alloc (.cells #[.bool cm, .string ch, .slice cA cn cc, .slice cA2 cn2 cc2] 41)).alloc (.cells #[.bool cm, .string ch, .slice cA cn cc, .slice cA2 cn2 cc2] 41)) (.slice ov acc.length ocp) b := fun b h => ⟨h.1, Nat.lt_of_lt_of_le h.2.1 hup.size, h.2.2⟩
              have HG6 := Lib.hid (got_snoc vss HVl.out (fun i r vs h1 h2 => RuleAt.keep (fun b hb => hup.block b hb.2.1) hinn r vs (HRs.out i r vs h1 h2)) hown6 hgrow6 (by simpa using hblk6) (RuleAt.keep (fun b hb => hup.block b hb.2.1) hinn r0 _ HRa.out))
              clear hown6 hgrow6 hnil6 hblk6 hup hinn
              go_wp2
              go_roundw
              case rel => exact ⟨_, acc ++ [r0], HTEx.out, hfN, by have := Hl.out; simp only [List.length_append, List.length_cons, List.length_nil]; omega, HNew.out, HG6.out, HB6.out⟩
              case measure => simp only [lenOf]; omega
          · have h2 := htwo hok
            rw [hok] at hs cBk
            simp only [if_true] at hs
            have HSlB := Lib.hid (slB r.length i q h2 (by omega))
            have hIl : (((t :: r).drop (i + 1)).take (q - 2)).length = q - 2 := by rw [List.length_take, hrestl]; omega
            have hIs : (((t :: r).drop (i + 1)).take (q - 2)).Sublist (t :: r) := (List.take_sublist _ _).trans hrsub
            have HTI := Lib.hid (show ∀ (A : Option Addr) (cap : Nat), (t :: r).length ≤ cap → TRd w w.heap.size A (t :: r).length (t :: r) → TS w (.slice (addrAt 4 A cap (i + 1)) (q - 2) (cap - (i + 1))) (((t :: r).drop (i + 1)).take (q - 2)) from fun A cap h1 h2 => ts_cut h2 h1 (i := i + 1) (m := q - 2) (by simp; omega))
            have cRule := fun (b1 o1 cap1 : Nat) (X : World) (vi : Value) (hX : Below w.heap.size w X) (hb : b1 < X.heap.size) (hcp : i ≤ cap1) (h1 : TRd w w.heap.size (some ⟨b1, o1, none⟩) i ((t :: r).take i)) (h2 : TS w vi (((t :: r).drop (i + 1)).take (q - 2))) => HRule.out b1 o1 cap1 ((t :: r).take i) vi (((t :: r).drop (i + 1)).take (q - 2)) X hfHd (HfK.out.sub hIs) hb (by rw [hHl]; exact hcp) (by rw [hHl]; exact Rd.keep h1 hX hX.size) (h2.on hX) (HF.out.on hX) (HM.out.on hX HM.out.lt)
            rw [hHl] at cRule
            generalize hrw : ruleW sub ((t :: r).take i) (((t :: r).drop (i + 1)).take (q - 2)) = rr at *
            generalize (t :: r).take i = HH at *
            generalize ((t :: r).drop (i + 1)).take (q - 2) = II at *
            cases rr with
            | none =>
              have HNew := Lib.hid (show acc ++ rulesW sub ((t :: r).drop (i + q)) = R by rw [← HInv.out, hs]; rfl)
              replace cBk := Lib.hid cBk
              have cR2 := Lib.hid (fun (b1 o1 cap1 : Nat) (X : World) (vi : Value) hX hb hcp h1 h2 => (cRule b1 o1 cap1 X vi hX hb hcp h1 h2).mono (R' := fun e w' => e = .returned (.tuple #[.agg #[.bool false, .string ⟨#[]⟩, .slice none 0 0, .slice none 0 0], .bool false]) ∧ Below X.heap.size X w') (fun e w' ⟨⟨v, he, vs, hv, hvs⟩, hb⟩ => by simp only at hvs; subst hvs; rw [he, hv]; exact ⟨rfl, hb⟩))
              clear hgot hK hfK ha hil hi hnone hsome hall hdrop hs hftb hrsub htb hbr hblk hbd htwo hHl hHs hfHd hq0 hrd hEl hok hrestl cRule hrw hIl hIs
              go_wp2_with (first
                | (go_at_call 63; (with_reducible refine (cS.out).mono ?_); rintro e W1 ⟨⟨v1, rfl, hts1⟩, hb1⟩; have HB1 := Lib.hid (HBl.out.trans (hb1.mono HBl.out.size)); have HG1 := Lib.hid (HG.out.on hb1); obtain ⟨A1, cap1, rfl, hc1, hr1⟩ := hts1; obtain ⟨b1, o1, rfl, hb1l, e0, e1, e2, e3⟩ := tok_zero (Rd.keep hr1 HB1.out HB1.out.size) (by simp); have HR1 := Lib.hid hr1; have HC1 := Lib.hid hc1; clear hb1 hr1 hc1)
                | (go_at_call 64; (with_reducible refine (cFind.out _ _ _ _ HB1.out HR1.out).mono ?_); rintro e W2 ⟨rfl, hb2⟩; have HB2 := Lib.hid ((HB1.out.alloc HB1.out.size _).trans (hb2.mono (by have := HB1.out.size; simp; omega))); have HG2 := Lib.hid ((HG1.out.on ((Below.refl _ _).alloc (Nat.le_refl _) _)).on hb2); obtain ⟨f0, f1, f2, f3⟩ := HTok.out _ _ _ (Rd.keep HR1.out HB2.out HB2.out.size); clear hb2 e0 e1 e2 e3)
                | (go_at_call 66; (with_reducible refine (cB.out _).mono ?_); rintro e W3 ⟨rfl, hb3x⟩; have HB3 := Lib.hid (HB2.out.trans (hb3x.mono HB2.out.size)); have HG3 := Lib.hid (HG2.out.on hb3x); have hsu := HSlU.out (some ⟨b1, o1, none⟩) cap1 (by have := HC1.out; simpa using this); have hsa := HSlA.out (some ⟨b1, o1, none⟩) cap1 (by have := HC1.out; simpa using this); have hse := HSlE.out (some ⟨b1, o1, none⟩) cap1; have hsb := HSlB.out (some ⟨b1, o1, none⟩) cap1 (by have := HC1.out; simpa using this); have HTEx := Lib.hid (HTE.out _ _ HC1.out HR1.out); have HTIx := Lib.hid (HTI.out _ _ HC1.out HR1.out); clear hb3x f0 f1 f2 f3)
                | (go_at_call 68; (with_reducible refine (cBk.out _ _ _ _ (Rd.keep HR1.out HB3.out HB3.out.size)).mono ?_); rintro e W4 ⟨rfl, hb4⟩; have HB4 := Lib.hid (HB3.out.trans (hb4.mono HB3.out.size)); have HG4 := Lib.hid (HG3.out.on hb4); clear hb4)
                | (go_at_call 69; (with_reducible refine (cR2.out b1 o1 cap1 _ _ HB4.out (Nat.lt_of_lt_of_le (rd_lt HR1.out) HB4.out.size) (by have := HC1.out; simp at this; omega) (hHd.out _ _ HR1.out) HTIx.out).mono ?_); rintro e W5 ⟨rfl, hb5⟩; have HB5 := Lib.hid (HB4.out.trans (hb5.mono HB4.out.size)); have HG5 := Lib.hid (HG4.out.on hb5); clear hb5))
              go_roundw
              case rel => exact ⟨_, acc, HTEx.out, hfN, by have := Hl.out; omega, HNew.out, HG5.out.on ((Below.refl _ _).alloc (Nat.le_refl _) _), HB5.out.alloc HB5.out.size _⟩
              case measure => simp only [lenOf]; omega
            | some r0 =>
              have HNew := Lib.hid (show (acc ++ [r0]) ++ rulesW sub ((t :: r).drop (i + q)) = R by rw [← HInv.out, hs]; simp)
              replace cBk := Lib.hid cBk
              have cR2 := Lib.hid (fun (b1 o1 cap1 : Nat) (X : World) (vi : Value) hX hb hcp h1 h2 => (cRule b1 o1 cap1 X vi hX hb hcp h1 h2).mono (R' := fun e w' => (∃ (cm : Bool) (ch : ByteArray) (cA : Option Addr) (cn cc : Nat) (cA2 : Option Addr) (cn2 cc2 : Nat), e = .returned (.tuple #[.agg #[.bool cm, .string ch, .slice cA cn cc, .slice cA2 cn2 cc2], .bool true]) ∧ RuleAt w' (New X w') r0 [.bool cm, .string ch, .slice cA cn cc, .slice cA2 cn2 cc2]) ∧ Below X.heap.size X w') (fun e w' ⟨⟨v, he, vs, hv, hvs⟩, hb⟩ => by
                have hvs2 := hvs
                cases r0 with
                | mk m h ds rs =>
                  simp only at hvs2
                  unfold RuleAt at hvs2
                  obtain ⟨A, c, A2, cc2, rfl, _⟩ := hvs2
                  exact ⟨⟨m, bs h, A, ds.length, c, A2, rs.length, cc2, by rw [he, hv]; rfl, hvs⟩, hb⟩))
              have hacx : acc.length ≤ 1000000 := by omega
              clear hgot hK hfK ha hil hi hnone hsome hall hdrop hs hftb hrsub htb hbr hblk hbd htwo hHl hHs hfHd hq0 hrd hEl hok hrestl cRule hrw hIl hIs
              go_wp2_with (first
                | (go_at_call 63; (with_reducible refine (cS.out).mono ?_); rintro e W1 ⟨⟨v1, rfl, hts1⟩, hb1⟩; have HB1 := Lib.hid (HBl.out.trans (hb1.mono HBl.out.size)); have HG1 := Lib.hid (HG.out.on hb1); obtain ⟨A1, cap1, rfl, hc1, hr1⟩ := hts1; obtain ⟨b1, o1, rfl, hb1l, e0, e1, e2, e3⟩ := tok_zero (Rd.keep hr1 HB1.out HB1.out.size) (by simp); have HR1 := Lib.hid hr1; have HC1 := Lib.hid hc1; clear hb1 hr1 hc1)
                | (go_at_call 64; (with_reducible refine (cFind.out _ _ _ _ HB1.out HR1.out).mono ?_); rintro e W2 ⟨rfl, hb2⟩; have HB2 := Lib.hid ((HB1.out.alloc HB1.out.size _).trans (hb2.mono (by have := HB1.out.size; simp; omega))); have HG2 := Lib.hid ((HG1.out.on ((Below.refl _ _).alloc (Nat.le_refl _) _)).on hb2); obtain ⟨f0, f1, f2, f3⟩ := HTok.out _ _ _ (Rd.keep HR1.out HB2.out HB2.out.size); clear hb2 e0 e1 e2 e3)
                | (go_at_call 66; (with_reducible refine (cB.out _).mono ?_); rintro e W3 ⟨rfl, hb3x⟩; have HB3 := Lib.hid (HB2.out.trans (hb3x.mono HB2.out.size)); have HG3 := Lib.hid (HG2.out.on hb3x); have hsu := HSlU.out (some ⟨b1, o1, none⟩) cap1 (by have := HC1.out; simpa using this); have hsa := HSlA.out (some ⟨b1, o1, none⟩) cap1 (by have := HC1.out; simpa using this); have hse := HSlE.out (some ⟨b1, o1, none⟩) cap1; have hsb := HSlB.out (some ⟨b1, o1, none⟩) cap1 (by have := HC1.out; simpa using this); have HTEx := Lib.hid (HTE.out _ _ HC1.out HR1.out); have HTIx := Lib.hid (HTI.out _ _ HC1.out HR1.out); clear hb3x f0 f1 f2 f3)
                | (go_at_call 68; (with_reducible refine (cBk.out _ _ _ _ (Rd.keep HR1.out HB3.out HB3.out.size)).mono ?_); rintro e W4 ⟨rfl, hb4⟩; have HB4 := Lib.hid (HB3.out.trans (hb4.mono HB3.out.size)); have HG4 := Lib.hid (HG3.out.on hb4); clear hb4)
                | (go_at_call 69; (with_reducible refine (cR2.out b1 o1 cap1 _ _ HB4.out (Nat.lt_of_lt_of_le (rd_lt HR1.out) HB4.out.size) (by have := HC1.out; simp at this; omega) (hHd.out _ _ HR1.out) HTIx.out).mono ?_); rintro e W5 ⟨⟨cm, ch, cA, cn, cc, cA2, cn2, cc2, rfl, hra⟩, hb5⟩; have HB5 := Lib.hid (HB4.out.trans (hb5.mono HB4.out.size)); obtain ⟨vss, hvl, hrow4, hrs4⟩ := HG4.out.on hb5; have HRow := Lib.hid hrow4; have HVl := Lib.hid hvl; have HRs := Lib.hid hrs4; obtain ⟨_, _, hrow40, _⟩ := HG4.out; have HRa := Lib.hid (RuleAt.keep (fun _ _ => rfl) (new_inn HB4.out hrow40) _ _ hra); clear hb5 hra hvl hrow4 hrs4 hrow40)
                | (at_builtin; refine wpList_append_own_at _ rfl _ _ 23 rfl w.heap.size 41 i0 _ 4 72 Tryd.underlying23 Hi.out Hz0.out Hz1.out Hz2.out rfl (by decide) _ _ _ rfl ((HRow.out.alloc _).alloc _) ⟨W5.heap.size + 1, 0, none⟩ 1 1 [.bool cm, .string ch, .slice cA cn cc, .slice cA2 cn2 cc2] rfl rfl ?d1 ?d2 ?d3 ?d4 ?d5 ?_))
              case d1 => exact (Blk.new (w := W5.alloc (.cells #[.bool cm, .string ch, .slice cA cn cc, .slice cA2 cn2 cc2] 41)) (t := 41) (cs := #[.bool cm, .string ch, .slice cA cn cc, .slice cA2 cn2 cc2]) (by simp)).news
              case d2 => simp [Value.oneCell']
              case d3 => unfold maxLen; omega
              case d4 => omega
              case d5 => have := HB5.out.size; simp; omega
              intro v' w6 hown6 hgrow6 hnil6 hblk6
              have HB6 := Lib.hid (below_app ((HB5.out.alloc HB5.out.size _).alloc (by have := HB5.out.size; simp; omega) _) hgrow6 ((HRow.out.alloc _).alloc _) (Nat.le_refl _) (by have := HB5.out.size; simp; omega))
              have hup : Below W5.heap.size W5 ((W5.alloc (.cells #[.bool cm, .string ch, .slice cA cn cc, .slice cA2 cn2 cc2] 41)).alloc (.cells #[.bool cm, .string ch, .slice cA cn cc, .slice cA2 cn2 cc2] 41)) := ((Below.refl _ _).alloc (Nat.le_refl _) _).alloc (by simp) _
              have hinn : ∀ b, Inn w W5 (.slice ov acc.length ocp) b → Inn w ((W5.alloc (.cells #[.bool cm, .string ch, .slice cA cn cc, .slice cA2 cn2 cc2] 41)).alloc (.cells #[.bool cm, .string ch, .slice cA cn cc, .slice cA2 cn2 cc2] 41)) (.slice ov acc.length ocp) b := fun b h => ⟨h.1, Nat.lt_of_lt_of_le h.2.1 hup.size, h.2.2⟩
              have HG6 := Lib.hid (got_snoc vss HVl.out (fun i r vs h1 h2 => RuleAt.keep (fun b hb => hup.block b hb.2.1) hinn r vs (HRs.out i r vs h1 h2)) hown6 hgrow6 (by simpa using hblk6) (RuleAt.keep (fun b hb => hup.block b hb.2.1) hinn r0 _ HRa.out))
              clear hown6 hgrow6 hnil6 hblk6 hup hinn
              go_wp2
              go_roundw
              case rel => exact ⟨_, acc ++ [r0], HTEx.out, hfN, by have := Hl.out; simp only [List.length_append, List.length_cons, List.length_nil]; omega, HNew.out, HG6.out, HB6.out⟩
              case measure => simp only [lenOf]; omega

theorem rules_step (sub : Option (List Tk → List Rl)) (d : Int)
    (hRule : ∀ (b off cap : Nat) (H : List Tk) (vi : Value) (I : List Tk) (w : World), Fit H → Fit I → b < w.heap.size → H.length ≤ cap → TRd w w.heap.size (some ⟨b, off, none⟩) H.length H → TS w vi I → FoldAt w → MaxL w →
      Calls Tryd.prog 69 #[.slice (some ⟨b, off, none⟩) H.length cap, vi, .int .i64 d] w fun e w' => (∃ v, e = .returned v ∧ RuleRet w w' (ruleW sub H I) v) ∧ Below w.heap.size w w')
    (v : Value) (L : List Tk) (w : World) (hf : Fit L) (hL : TS w v L) (hF : FoldAt w) (hm : MaxL w) :
    Calls Tryd.prog 31 #[v, .int .i64 d] w fun e w' => (∃ v', e = .returned v' ∧ RS w w' v' (rulesW sub L)) ∧ Below w.heap.size w w' :=
  (rules_got sub d hRule v L w hf hL hF hm).mono fun e w' ⟨⟨v', he, hg⟩, hb⟩ => ⟨⟨v', he, hg.rs⟩, hb⟩

end Go.Proofs.YtaihncbejhnceaaDoor.rul

namespace Go.Proofs.YtaihncbejhnceaaDoor.rul
open Go.RowKit Go.Proofs.YtaihncbejhnceaaDoor.base Go.Proofs.YtaihncbejhnceaaDoor.tok
set_option linter.unusedVariables false

theorem rule_ct (m : Nat) (d : Int) (hm3 : m ≤ 3) (hd : d = 3 - (m : Int))
    (hIH : ∀ m', m = m' + 1 → ∀ (v : Value) (L : List Tk) (X : World), Fit L → TS X v L → FoldAt X → MaxL X → Calls Tryd.prog 31 #[v, .int .i64 (2 - (m' : Int) + 1)] X fun e w' => (∃ v', e = .returned v' ∧ RS X w' v' (rulesP m' L)) ∧ Below X.heap.size X w')
    (b off cap : Nat) (H : List Tk) (vi : Value) (I : List Tk) (w : World) (hfH : Fit H) (hfI : Fit I) (hb : b < w.heap.size) (hcH : H.length ≤ cap) (hH : TRd w w.heap.size (some ⟨b, off, none⟩) H.length H) (hI : TS w vi I) (hF : FoldAt w) (hm : MaxL w) :
    Calls Tryd.prog 69 #[.slice (some ⟨b, off, none⟩) H.length cap, vi, .int .i64 d] w fun e w' => (∃ v, e = .returned v ∧ RuleRet w w' (ruleW (subP m) H I) v) ∧ Below w.heap.size w w' := by
  cases hx : H.any badP with
  | true => exact rule_bad m d b off cap H vi I w hfH hfI hb hcH hH hI hF hm hx
  | false =>
    cases hM : H with
    | nil => rw [← hM]; exact rule_none m d b off cap H vi I w hfH hfI hb hcH hH hI hF hm hx hM
    | cons t r =>
      rw [← hM]
      by_cases hk : t.k = 3
      · cases hfo : Lib.equalFold t.val mediaW with
        | false => exact rule_other m d b off cap H vi I w hfH hfI hb hcH hH hI hF hm hx t r hM hk hfo
        | true =>
          cases h0 : m with
          | zero => rw [← h0]; exact rule_deep m d b off cap H vi I w hfH hfI hb hcH hH hI hF hm hx t r hM hk hfo h0 (by omega)
          | succ m' => rw [← h0]; exact rule_media m d b off cap H vi I w hfH hfI hb hcH hH hI hF hm hx t r hM hk hfo m' h0 (by omega) (by omega) (hIH m' h0)
      · exact rule_plain m d b off cap H vi I w hfH hfI hb hcH hH hI hF hm hx t r hM hk

theorem rules_ct : ∀ (m : Nat) (d : Int), m ≤ 3 → d = 3 - (m : Int) → ∀ (v : Value) (L : List Tk) (w : World), Fit L → TS w v L → FoldAt w → MaxL w →
    Calls Tryd.prog 31 #[v, .int .i64 d] w fun e w' => (∃ v', e = .returned v' ∧ RS w w' v' (rulesP m L)) ∧ Below w.heap.size w w'
  | 0, d, h3, hd, v, L, w, hf, hL, hF, hM => by
    rw [rulesP_is]
    exact rules_step (subP 0) d (fun b off cap H vi I w hfH hfI hb hcH hH hI hF hm => rule_ct 0 d h3 hd (fun m' h => by cases h) b off cap H vi I w hfH hfI hb hcH hH hI hF hm) v L w hf hL hF hM
  | m + 1, d, h3, hd, v, L, w, hf, hL, hF, hM => by
    rw [rulesP_is]
    refine rules_step (subP (m + 1)) d (fun b off cap H vi I w hfH hfI hb hcH hH hI hF hm => rule_ct (m + 1) d h3 hd (fun m' h => ?_) b off cap H vi I w hfH hfI hb hcH hH hI hF hm) v L w hf hL hF hM
    cases h
    exact fun v L X h1 h2 h3' h4 => rules_ct m (2 - (m : Int) + 1) (by omega) (by omega) v L X h1 h2 h3' h4

/-- of a sheet: a row of the call's own -/
theorem rules_top (v : Value) (L : List Tk) (w : World) (hf : Fit L) (hL : TS w v L) (hF : FoldAt w) (hM : MaxL w) :
    Calls Tryd.prog 31 #[v, .int .i64 0] w fun e w' => (∃ v', e = .returned v' ∧ Got w w' v' (rulesP 3 L)) ∧ Below w.heap.size w w' := by
  rw [rulesP_is]
  refine rules_got (subP 3) 0 (fun b off cap H vi I w hfH hfI hb hcH hH hI hF hm => rule_ct 3 0 (Nat.le_refl _) (by decide) (fun m' h => ?_) b off cap H vi I w hfH hfI hb hcH hH hI hF hm) v L w hf hL hF hM
  cases h
  exact fun v L X h1 h2 h3' h4 => rules_ct 2 (2 - ((2 : Nat) : Int) + 1) (by decide) (by decide) v L X h1 h2 h3' h4

end Go.Proofs.YtaihncbejhnceaaDoor.rul

namespace Go.Proofs.YtaihncbejhnceaaDoor.rul
open Go.RowKit Go.Proofs.YtaihncbejhnceaaDoor.base Go.Proofs.YtaihncbejhnceaaDoor.tok
set_option linter.unusedVariables false

mutual
/-- how many rules lie within; is one too long -/
def manyR : Rl → Nat × Bool
  | .mk _ _ ds rs => ((manyG rs.length rs).1, (manyG rs.length rs).2 || decide (30 < ds.length))
def manyG : Nat → List Rl → Nat × Bool
  | n, [] => (n, false)
  | n, r :: rs => if (manyR r).2 then (n + (manyR r).1, true) else manyG (n + (manyR r).1) rs
end
def manyP (rs : List Rl) : Nat × Bool := manyG rs.length rs
mutual
/-- all rules of a tree, and all their declarations -/
def fullR : Rl → Nat
  | .mk _ _ ds rs => 1 + ds.length + fullG rs
def fullG : List Rl → Nat
  | [] => 0
  | r :: rs => fullR r + fullG rs
end
theorem fullG_len : ∀ rs : List Rl, rs.length ≤ fullG rs
  | [] => by simp
  | .mk m h ds rs' :: rs => by have := fullG_len rs; simp only [fullG, fullR, List.length_cons]; omega
mutual
theorem manyR_le : ∀ r : Rl, (manyR r).1 + 1 ≤ fullR r
  | .mk m h ds rs => by
    have := manyG_le rs.length rs
    simp only [manyR, fullR]; omega
theorem manyG_le : ∀ (n : Nat) (rs : List Rl), (manyG n rs).1 + rs.length ≤ n + fullG rs
  | n, [] => by simp [manyG, fullG]
  | n, r :: rs => by
    have h1 := manyR_le r
    have h2 := manyG_le (n + (manyR r).1) rs
    have h3 := fullG_len rs
    simp only [manyG, fullG, List.length_cons]
    split
    · simp only; omega
    · omega
end
theorem fullG_drop : ∀ (rs : List Rl) (k : Nat) (r : Rl), rs[k]? = some r → fullG (rs.drop k) = fullR r + fullG (rs.drop (k + 1)) ∧ fullR r ≤ fullG rs ∧ rs.drop k = r :: rs.drop (k + 1)
  | [], k, r, h => by simp at h
  | x :: rs, 0, r, h => by
    obtain rfl : x = r := by simpa using h
    exact ⟨by simp [fullG], by simp only [fullG]; omega, rfl⟩
  | x :: rs, k + 1, r, h => by
    obtain ⟨h1, h2, h3⟩ := fullG_drop rs k r (by simpa using h)
    refine ⟨by simpa using h1, by simp only [fullG]; omega, by simpa using h3⟩

/-- a slice that holds rules -/
def RSl (w : World) (v : Value) (rs : List Rl) : Prop := ∃ A cap, v = .slice A rs.length cap ∧ rs.length ≤ cap ∧ (0 < rs.length → ∃ b off, A = some ⟨b, off, none⟩ ∧ b < w.heap.size ∧ RowAt w (fun g => g < w.heap.size) b off rs)
theorem RS.sl {w w' : World} {v : Value} {rs : List Rl} (h : RS w w' v rs) : RSl w' v rs := by
  obtain ⟨A, cap, hv, hc, h0⟩ := h
  refine ⟨A, cap, hv, hc, fun hp => ?_⟩
  obtain ⟨b, off, hA, hn, hr⟩ := h0 hp
  exact ⟨b, off, hA, hn.2, RowAt.keep (S := New w w') (S' := fun g => g < w'.heap.size) (fun _ _ => rfl) (fun g hg => hg.2) b hn off rs hr⟩
theorem RSl.on {w w' : World} {v : Value} {rs : List Rl} (h : RSl w v rs) (hb : Below w.heap.size w w') : RSl w' v rs := by
  obtain ⟨A, cap, hv, hc, h0⟩ := h
  refine ⟨A, cap, hv, hc, fun hp => ?_⟩
  obtain ⟨b, off, hA, hn, hr⟩ := h0 hp
  exact ⟨b, off, hA, Nat.lt_of_lt_of_le hn hb.size, RowAt.keep (fun g hg => hb.block g hg) (fun g hg => Nat.lt_of_lt_of_le hg hb.size) b hn off rs hr⟩
/-- one rule of a slice: its cells, and what its parts hold -/
theorem RSl.rule {w : World} {A : Option Addr} {cap : Nat} {rs : List Rl} (h : RSl w (.slice A rs.length cap) rs) {k : Nat} (hk : k < rs.length) : ∃ b off m hd ds sub A1 c1 A2 c2, A = some ⟨b, off, none⟩ ∧ b < w.heap.size ∧ rs[k]? = some (.mk m hd ds sub) ∧
    w.cell? ⟨b, off + k * 4, none⟩ = some (.bool m) ∧ w.cell? ⟨b, off + k * 4 + 1, none⟩ = some (.string (bs hd)) ∧ w.cell? ⟨b, off + k * 4 + 2, none⟩ = some (.slice A1 ds.length c1) ∧ w.cell? ⟨b, off + k * 4 + 3, none⟩ = some (.slice A2 sub.length c2) ∧
    ds.length ≤ c1 ∧ DAt w (fun g => g < w.heap.size) A1 ds ∧ RSl w (.slice A2 sub.length c2) sub := by
  obtain ⟨A', cap', hv, hc, h0⟩ := h
  obtain ⟨b, off, hA, hn, hr⟩ := h0 (by omega)
  injection hv with e1 e2 e3
  subst e1 e3
  have hg : rs[k]? = some rs[k] := List.getElem?_eq_getElem hk
  obtain ⟨vs, hcs, hR⟩ := RowAt.at_ rs off k _ hr hg
  generalize rs[k] = r at *
  obtain ⟨m, hd, ds, sub⟩ := r
  unfold RuleAt at hR
  obtain ⟨A1, c1, A2, c2, rfl, hc1, hc2, hD, hrow⟩ := hR
  exact ⟨b, off, m, hd, ds, sub, A1, c1, A2, c2, hA, hn, hg, hcs 0 (by decide), hcs 1 (by decide), hcs 2 (by decide), hcs 3 (by decide), hc1, hD, A2, c2, rfl, hc2, hrow⟩

set_option maxRecDepth 100000 in
set_option maxHeartbeats 4000000 in
theorem many_ct : ∀ (N : Nat) (rs : List Rl), fullG rs ≤ N → N ≤ 1000000 → ∀ (v : Value) (w : World), RSl w v rs →
    Calls Tryd.prog 33 #[v] w fun e w' => e = .returned (.tuple #[.int .i64 (manyP rs).1, .bool (manyP rs).2]) ∧ Below w.heap.size w w' := by
  intro N
  induction N with
  | zero =>
    intro rs hN hN2 v w h
    obtain rfl := List.eq_nil_of_length_eq_zero (Nat.le_zero.1 (Nat.le_trans (fullG_len rs) hN))
    obtain ⟨A, cap, rfl, hc, h0⟩ := h
    go_enter Tryd.func33, Tryd.ntmps33
    go_wp2_with fail
    go_loopw [4, 13] (fun n i wr => n = .int .i64 0 ∧ i = .int .i64 0 ∧ wr = w) (fun _ i _ => 0)
    case atStart => exact ⟨rfl, rfl, rfl⟩
    case round =>
      obtain ⟨rfl, rfl, rfl⟩ := hrel
      go_wp2
      go_ret2
      exact ⟨rfl, Below.refl _ _⟩
  | succ N ih =>
    intro rs hN hN2 v w h
    obtain ⟨A, cap, rfl, hc, h0⟩ := id h
    have HS := Lib.hid h
    have hlen := fullG_len rs
    have IH := Lib.hid (fun rs' (h1 : fullG rs' ≤ N) v w h => ih rs' h1 (by omega) v w h)
    generalize hR : manyP rs = R
    have HR := Lib.hid hR
    clear ih h h0
    have hrl : rs.length ≤ 1000000 := by omega
    go_enter Tryd.func33, Tryd.ntmps33
    go_wp2_with fail
    go_loopw [4, 13] (fun n i wr => ∃ k acc : Nat, k ≤ rs.length ∧ i = .int .i64 k ∧ n = .int .i64 acc ∧ acc + fullG (rs.drop k) ≤ 2000000 ∧ manyG acc (rs.drop k) = R ∧ Below w.heap.size w wr) (fun _ i _ => rs.length - (intOf i).toNat)
    case atStart => exact ⟨0, rs.length, by omega, rfl, rfl, by simp; omega, HR.out, Below.refl _ _⟩
    case round =>
      obtain ⟨k, acc, hk, rfl, rfl, hsum, hrest, hbel⟩ := hrel
      have HBl := Lib.hid hbel
      have hz := hbel.size
      have HSr := Lib.hid (HS.out.on hbel)
      by_cases hlt : k < rs.length
      · have hlt' : (k : Int) < (rs.length : Int) := by omega
        obtain ⟨b, off, m, hd, ds, sub, A1, c1, A2, c2, rfl, hb, hg, e0, e1, e2, e3, hc1, hD, hSub⟩ := HSr.out.rule hlt
        obtain ⟨f1, f2, f3⟩ := fullG_drop rs k _ hg
        have hfr : 1 + fullG sub ≤ fullG rs := by have := f2; simp only [fullR] at this; omega
        have cSub := fun (W : World) (hW : RSl W (.slice A2 sub.length c2) sub) => IH.out sub (by omega) _ W hW
        have hml := manyG_le sub.length sub
        rw [f3, manyG] at hrest
        rw [f1] at hsum
        simp only [manyR, fullR] at hrest hsum
        have HSub := Lib.hid hSub
        have hdl : ds.length ≤ c1 := hc1
        unfold manyP at cSub
        have hsl := fullG_len sub
        have hb1 : (manyG sub.length sub).1 ≤ fullG sub := by omega
        clear hml hsl
        rcases hP : manyG sub.length sub with ⟨p, q⟩
        simp only [hP] at hrest cSub hb1 hsum
        clear hP
        have Hsum := Lib.hid (show acc + p + fullG (rs.drop (k + 1)) ≤ 2000000 by omega)
        have hap : acc ≤ 2000000 := by omega
        have hpp : p ≤ 1000000 := by omega
        have Hrest := Lib.hid hrest
        replace hg := Lib.hid hg
        replace cSub := Lib.hid cSub
        clear hrest hsum f1 f2 f3 hfr hD hSub hb1 hbel hN hlen
        cases q with
        | true =>
          have hr : R = (acc + p, true) := by have := Hrest.out; simpa using this.symm
          subst hr
          go_wp2_with (go_at_call 33; (with_reducible refine (cSub.out _ (HSub.out.on ((Below.refl _ _).alloc (Nat.le_refl _) _))).mono ?_); rintro e W1 ⟨rfl, hb1⟩; have HB1 := Lib.hid ((HBl.out.alloc hz _).trans (hb1.mono (by simp; omega))); clear hb1)
          go_ret2
          exact ⟨by simp, HB1.out⟩
        | false =>
          have hq : (false || decide (30 < ds.length)) = decide (30 < ds.length) := rfl
          rw [hq] at Hrest
          by_cases h30 : 30 < ds.length
          · have h30i : (30 : Int) < (ds.length : Int) := by omega
            have hr : R = (acc + p, true) := by have := Hrest.out; rw [if_pos (decide_eq_true h30)] at this; exact this.symm
            subst hr
            go_wp2_with (go_at_call 33; (with_reducible refine (cSub.out _ (HSub.out.on ((Below.refl _ _).alloc (Nat.le_refl _) _))).mono ?_); rintro e W1 ⟨rfl, hb1⟩; have HK0 := (Blk.new (w := wr) (t := 41) (cs := #[.bool m, .string (bs hd), .slice A1 ds.length c1, .slice A2 sub.length c2]) rfl); have HK := HK0.below hb1 HK0.lt; have k2 : W1.cell? ⟨wr.heap.size, 2, none⟩ = some (.slice A1 ds.length c1) := HK.cell 2; clear HK HK0; have HB1 := Lib.hid ((HBl.out.alloc hz _).trans (hb1.mono (by simp; omega))); clear hb1)
            go_ret2
            exact ⟨by simp, HB1.out⟩
          · have h30i : ¬ (30 : Int) < (ds.length : Int) := by omega
            have HNew := Lib.hid (show manyG (acc + p) (rs.drop (k + 1)) = R by have := Hrest.out; rwa [if_neg (by simpa using h30)] at this)
            go_wp2_with (go_at_call 33; (with_reducible refine (cSub.out _ (HSub.out.on ((Below.refl _ _).alloc (Nat.le_refl _) _))).mono ?_); rintro e W1 ⟨rfl, hb1⟩; have HK0 := (Blk.new (w := wr) (t := 41) (cs := #[.bool m, .string (bs hd), .slice A1 ds.length c1, .slice A2 sub.length c2]) rfl); have HK := HK0.below hb1 HK0.lt; have k2 : W1.cell? ⟨wr.heap.size, 2, none⟩ = some (.slice A1 ds.length c1) := HK.cell 2; clear HK HK0; have HB1 := Lib.hid ((HBl.out.alloc hz _).trans (hb1.mono (by simp; omega))); clear hb1)
            go_roundw
            case rel => exact ⟨k + 1, acc + p, by omega, by go_num, by go_num, Hsum.out, HNew.out, HB1.out⟩
            case measure => simp [intOf]; omega
      · obtain rfl : k = rs.length := by omega
        have hr : R = (acc, false) := by have := hrest; simpa [manyG] using this.symm
        subst hr
        go_wp2
        go_ret2
        exact ⟨rfl, HBl.out⟩

end Go.Proofs.YtaihncbejhnceaaDoor.rul

namespace Go.Proofs.YtaihncbejhnceaaDoor.rul
open Go.RowKit Go.Proofs.YtaihncbejhnceaaDoor.base Go.Proofs.YtaihncbejhnceaaDoor.tok
set_option linter.unusedVariables false

theorem fullG_app : ∀ (a b : List Rl), fullG (a ++ b) = fullG a + fullG b
  | [], b => by simp [fullG]
  | r :: a, b => by have := fullG_app a b; simp only [List.cons_append, fullG]; omega
theorem declsP_few : ∀ (n : Nat) (L : List Tk), L.length ≤ n → (declsP L).length ≤ L.length := by
  intro n
  induction n with
  | zero =>
    intro L h
    obtain rfl := List.eq_nil_of_length_eq_zero (Nat.le_zero.1 h)
    rw [declsP_nil]; exact Nat.le_refl _
  | succ n ih =>
    intro L h
    by_cases h0 : L = []
    · subst h0; rw [declsP_nil]; exact Nat.le_refl _
    · rw [declsP_cons h0, List.length_append]
      have hp := List.length_pos_iff.2 h0
      have h1 := ih (L.drop (findP semiP L + 1)) (by rw [List.length_drop]; omega)
      rw [List.length_drop] at h1
      split <;> simp <;> omega
theorem ruleW_full (sub : Option (List Tk → List Rl)) (hs : ∀ f, sub = some f → ∀ L, fullG (f L) ≤ L.length) (head inn : List Tk) : fullG (ruleW sub head inn).toList ≤ 1 + inn.length := by
  have hd := declsP_few _ inn (Nat.le_refl _)
  unfold ruleW
  split
  · simp [fullG]
  · split
    · simp [fullG, fullR]; exact hd
    · split
      · split
        · cases sub with
          | none => simp [fullG]
          | some f => have := hs f rfl inn; simp [fullG, fullR]; omega
        · simp [fullG]
      · simp [fullG, fullR]; omega
theorem innP_len (b : Tk) (rest : List Tk) : 1 + (innP b rest).length + (rest.drop (blkLen b rest - 1)).length ≤ rest.length + 1 := by
  have h1 := blkLen_bd b rest
  unfold innP
  rw [List.length_take, List.length_drop]
  cases h : blkOk b rest with
  | true => have := blk_two h; simp; omega
  | false =>
    have : blkLen b rest = rest.length + 1 := by
      unfold blkOk at h
      unfold blkLen
      cases hc : closeP [closerP b.raw] rest with
      | none => rfl
      | some e => rw [hc] at h; cases h
    simp; omega
theorem rulesW_full (sub : Option (List Tk → List Rl)) (hs : ∀ f, sub = some f → ∀ L, fullG (f L) ≤ L.length) : ∀ (n : Nat) (L : List Tk), L.length ≤ n → fullG (rulesW sub L) ≤ L.length := by
  intro n
  induction n with
  | zero =>
    intro L h
    obtain rfl := List.eq_nil_of_length_eq_zero (Nat.le_zero.1 h)
    rw [rulesW_nil (by have := solid_le []; exact List.eq_nil_of_length_eq_zero (Nat.le_zero.1 this))]
    simp [fullG]
  | succ n ih =>
    intro L h
    cases hM : solidP L with
    | nil => rw [rulesW_nil hM]; simp [fullG]
    | cons t r =>
      have h1 := solid_le L
      rw [hM] at h1
      cases hB : (t :: r).drop (findP (beginsR (decide (t.k = 3))) (t :: r)) with
      | nil =>
        rw [rulesW_none hM (List.drop_eq_nil_iff.1 hB)]
        simp [fullG]
      | cons b rest =>
        rw [rulesW_some hM hB]
        have h2 := congrArg List.length hB
        simp only [List.length_drop, List.length_cons] at h1 h2
        split
        · rw [fullG_app]
          have h3 := ruleW_full sub hs ((t :: r).take (findP (beginsR (decide (t.k = 3))) (t :: r))) (innP b rest)
          have h4 := innP_len b rest
          have h5 := ih (rest.drop (blkLen b rest - 1)) (by rw [List.length_drop]; omega)
          omega
        · have h5 := ih rest (by omega)
          omega
theorem rulesP_full : ∀ (m : Nat) (L : List Tk), fullG (rulesP m L) ≤ L.length
  | 0, L => rulesW_full none (fun f h => by cases h) _ L (Nat.le_refl _)
  | m + 1, L => rulesW_full (some (rulesP m)) (fun f h => by obtain rfl := Option.some.inj h; exact rulesP_full m) _ L (Nat.le_refl _)

/-- rules of a sheet; none: too much -/
def ParseP (s : Bs) : Option (List Rl) := if 3000 < s.length then none else if ((manyP (rulesP 3 (cutP s))).2 || decide (60 < (manyP (rulesP 3 (cutP s))).1)) = true then none else some (rulesP 3 (cutP s))

theorem got_base {w W1 wr : World} {v : Value} {acc : List Rl} (h : Got W1 wr v acc) (hb : w.heap.size ≤ W1.heap.size) : Got w wr v acc := by
  obtain ⟨vss, hl, hrow, hr⟩ := h
  exact ⟨vss, hl, owns_base hrow hb, fun i r vs h1 h2 => RuleAt.keep (fun _ _ => rfl) (fun b hb2 => ⟨Nat.le_trans hb hb2.1, hb2.2⟩) r vs (hr i r vs h1 h2)⟩

set_option maxRecDepth 100000 in
set_option maxHeartbeats 4000000 in
theorem Parse_got (s : Bs) (hs : s.length ≤ 1000000000) (w : World) (hF : FoldAt w) (hm : MaxL w) :
    Calls Tryd.prog 13 #[.string (bs s)] w fun e w' => (match ParseP s with | none => e = .returned (.tuple #[.slice none 0 0, .int .i64 2]) | some R => ∃ v', e = .returned (.tuple #[v', .int .i64 0]) ∧ Got w w' v' R ∧ fullG R ≤ 3000) ∧ Below w.heap.size w w' := by
  unfold ParseP
  by_cases h3 : 3000 < s.length
  · have hz : (3000 : Int) < ((bs s).size : Int) := by rw [bs_size]; omega
    rw [if_pos h3]
    clear hF hm
    go_enter Tryd.func13, Tryd.ntmps13
    go_wp2_with fail
    go_ret2
    exact ⟨rfl, Below.refl _ _⟩
  · have hz : ¬ (3000 : Int) < ((bs s).size : Int) := by rw [bs_size]; omega
    rw [if_neg h3]
    have cC := fun w hm => cut_ct (bs s) (by rw [bs_size]; omega) w hm
    rw [show (bs s).data.toList = s from rfl] at cC
    have hfl := rulesP_full 3 (cutP s)
    have hcf := cut_few s
    have cD := fun (W : World) (v : Value) (h : TS W v (cutP s)) (hF : FoldAt W) (hm : MaxL W) => rules_top v (cutP s) W (fit_cut (by omega)) h hF hm
    have HTs := Lib.hid (fun (W : World) (A : Option Addr) (cap : Nat) (hc : (cutP s).length ≤ cap) (h : TRd W W.heap.size A (cutP s).length (cutP s)) => show TS W (.slice A (cutP s).length cap) (cutP s) from ⟨A, cap, rfl, hc, h⟩)
    have hR3 : fullG (rulesP 3 (cutP s)) ≤ 3000 := by omega
    generalize rulesP 3 (cutP s) = R at *
    generalize cutP s = L at *
    have cM := fun (W : World) (v : Value) (h : RSl W v R) => many_ct 3000 R hR3 (by decide) v W h
    have hml := manyG_le R.length R
    have hp : (manyP R).1 ≤ 3000 := by unfold manyP; omega
    rcases hP : manyP R with ⟨p, q⟩
    simp only [hP] at cM hp ⊢
    have HF := Lib.hid hF
    have HM := Lib.hid hm
    have HR3 := Lib.hid hR3
    replace cC := Lib.hid cC
    replace cD := Lib.hid cD
    replace cM := Lib.hid cM
    clear hF hm h3 hml hP hfl hcf hR3
    cases q with
    | true =>
      rw [if_pos (by rfl)]
      go_enter Tryd.func13, Tryd.ntmps13
      go_wp2_with (first
        | (go_at_call 32; (with_reducible refine (cC.out _ HM.out).mono ?_); rintro e W1 ⟨⟨A1, cap1, rfl, hc1, hr1⟩, hb1⟩; have HB1 := Lib.hid hb1; have HT1 := Lib.hid (HTs.out _ _ _ hc1 hr1); clear hb1 hr1)
        | (go_at_call 31; (with_reducible refine (cD.out _ _ HT1.out (HF.out.on HB1.out) (HM.out.on HB1.out HM.out.lt)).mono ?_); rintro e W2 ⟨⟨v2, rfl, hr2⟩, hb2⟩; have HB2 := Lib.hid (HB1.out.trans (hb2.mono HB1.out.size)); have HR2 := Lib.hid (RS.sl hr2.rs); have HG2 := Lib.hid hr2; clear hb2 hr2)
        | (go_at_call 33; (with_reducible refine (cM.out _ _ HR2.out).mono ?_); rintro e W3 ⟨rfl, hb3⟩; have HB3 := Lib.hid (HB2.out.trans (hb3.mono HB2.out.size)); clear hb3))
      go_ret2
      exact ⟨rfl, HB3.out⟩
    | false =>
      by_cases h60 : 60 < p
      · have h60i : (60 : Int) < (p : Int) := by omega
        rw [if_pos (by simpa using h60)]
        go_enter Tryd.func13, Tryd.ntmps13
        go_wp2_with (first
          | (go_at_call 32; (with_reducible refine (cC.out _ HM.out).mono ?_); rintro e W1 ⟨⟨A1, cap1, rfl, hc1, hr1⟩, hb1⟩; have HB1 := Lib.hid hb1; have HT1 := Lib.hid (HTs.out _ _ _ hc1 hr1); clear hb1 hr1)
          | (go_at_call 31; (with_reducible refine (cD.out _ _ HT1.out (HF.out.on HB1.out) (HM.out.on HB1.out HM.out.lt)).mono ?_); rintro e W2 ⟨⟨v2, rfl, hr2⟩, hb2⟩; have HB2 := Lib.hid (HB1.out.trans (hb2.mono HB1.out.size)); have HR2 := Lib.hid (RS.sl hr2.rs); have HG2 := Lib.hid hr2; clear hb2 hr2)
          | (go_at_call 33; (with_reducible refine (cM.out _ _ HR2.out).mono ?_); rintro e W3 ⟨rfl, hb3⟩; have HB3 := Lib.hid (HB2.out.trans (hb3.mono HB2.out.size)); clear hb3))
        go_ret2
        exact ⟨rfl, HB3.out⟩
      · have h60i : ¬ (60 : Int) < (p : Int) := by omega
        rw [if_neg (by simpa using h60)]
        go_enter Tryd.func13, Tryd.ntmps13
        go_wp2_with (first
          | (go_at_call 32; (with_reducible refine (cC.out _ HM.out).mono ?_); rintro e W1 ⟨⟨A1, cap1, rfl, hc1, hr1⟩, hb1⟩; have HB1 := Lib.hid hb1; have HT1 := Lib.hid (HTs.out _ _ _ hc1 hr1); clear hb1 hr1)
          | (go_at_call 31; (with_reducible refine (cD.out _ _ HT1.out (HF.out.on HB1.out) (HM.out.on HB1.out HM.out.lt)).mono ?_); rintro e W2 ⟨⟨v2, rfl, hr2⟩, hb2⟩; have HB2 := Lib.hid (HB1.out.trans (hb2.mono HB1.out.size)); have HR2 := Lib.hid (RS.sl hr2.rs); have HG2 := Lib.hid hr2; clear hb2 hr2)
          | (go_at_call 33; (with_reducible refine (cM.out _ _ HR2.out).mono ?_); rintro e W3 ⟨rfl, hb3⟩; have HB3 := Lib.hid (HB2.out.trans (hb3.mono HB2.out.size)); have HG3 := Lib.hid (HG2.out.on hb3); clear hb3))
        go_ret2
        exact ⟨⟨_, rfl, got_base HG3.out HB1.out.size, HR3.out⟩, HB3.out⟩

theorem Parse_ct (s : Bs) (hs : s.length ≤ 1000000000) (w : World) (hF : FoldAt w) (hm : MaxL w) :
    Calls Tryd.prog 13 #[.string (bs s)] w fun e w' => (match ParseP s with | none => e = .returned (.tuple #[.slice none 0 0, .int .i64 2]) | some R => ∃ v', e = .returned (.tuple #[v', .int .i64 0]) ∧ RSl w' v' R ∧ fullG R ≤ 3000) ∧ Below w.heap.size w w' :=
  (Parse_got s hs w hF hm).mono fun e w' ⟨h, hb⟩ => by
    cases hp : ParseP s with
    | none => rw [hp] at h; exact ⟨h, hb⟩
    | some R =>
      rw [hp] at h
      obtain ⟨v', he, hg, hf⟩ := h
      exact ⟨⟨v', he, RS.sl hg.rs, hf⟩, hb⟩

end Go.Proofs.YtaihncbejhnceaaDoor.rul

namespace Go.Proofs.YtaihncbejhnceaaDoor.rul
open Go.RowKit Go.Proofs.YtaihncbejhnceaaDoor.base Go.Proofs.YtaihncbejhnceaaDoor.tok
set_option linter.unusedVariables false

mutual
/-- are two rules the same -/
def sameR : Rl → Rl → Bool
  | .mk m h ds rs, .mk m' h' ds' rs' => m == m' && decide (h = h') && decide (ds = ds') && sameG rs rs'
def sameG : List Rl → List Rl → Bool
  | [], [] => true
  | x :: xs, y :: ys => sameR x y && sameG xs ys
  | [], _ :: _ => false
  | _ :: _, [] => false
end
mutual
theorem sameR_refl : ∀ r : Rl, sameR r r = true
  | .mk m h ds rs => by simp [sameR, sameG_refl rs]
theorem sameG_refl : ∀ rs : List Rl, sameG rs rs = true
  | [] => by simp [sameG]
  | r :: rs => by simp [sameG, sameR_refl r, sameG_refl rs]
end
mutual
theorem sameR_eq : ∀ a b : Rl, sameR a b = true → a = b
  | .mk m h ds rs, .mk m' h' ds' rs', he => by
    simp only [sameR, Bool.and_eq_true, beq_iff_eq, decide_eq_true_eq] at he
    obtain ⟨⟨⟨rfl, rfl⟩, rfl⟩, h4⟩ := he
    rw [sameG_eq rs rs' h4]
theorem sameG_eq : ∀ a b : List Rl, sameG a b = true → a = b
  | [], [], _ => rfl
  | [], _ :: _, h => by simp [sameG] at h
  | _ :: _, [], h => by simp [sameG] at h
  | x :: xs, y :: ys, h => by
    simp only [sameG, Bool.and_eq_true] at h
    rw [sameR_eq x y h.1, sameG_eq xs ys h.2]
end
theorem sameG_len : ∀ a b : List Rl, ¬ a.length = b.length → sameG a b = false
  | [], [], h => absurd rfl h
  | [], _ :: _, _ => by simp [sameG]
  | _ :: _, [], _ => by simp [sameG]
  | x :: xs, y :: ys, h => by
    rw [sameG, sameG_len xs ys (fun e => h (by simp [e]))]
    simp
theorem drd_of {w : World} {A : Option Addr} {ds : List Dc} (h : DAt w (fun g => g < w.heap.size) A ds) : DRd w w.heap.size A ds.length ds :=
  ⟨rfl, fun h0 => by
    obtain ⟨b, off, hA, hs, hc⟩ := h h0
    exact ⟨b, off, hA, hs, hc⟩⟩

theorem below_drewN {B : Nat} {a w : World} (h : Below B a w) : ∀ n, Below B a (w.drewN n) := fun n => ⟨h.os, h.tape, h.output, h.size, h.block⟩
theorem sameG_drop {L1 L2 : List Rl} {k : Nat} {r1 r2 : Rl} (h1 : L1[k]? = some r1) (h2 : L2[k]? = some r2) : sameG (L1.drop k) (L2.drop k) = (sameR r1 r2 && sameG (L1.drop (k + 1)) (L2.drop (k + 1))) := by
  rw [(fullG_drop L1 k r1 h1).2.2, (fullG_drop L2 k r2 h2).2.2, sameG]

end Go.Proofs.YtaihncbejhnceaaDoor.rul

namespace Go.Proofs.YtaihncbejhnceaaDoor.rul
open Go.RowKit Go.Proofs.YtaihncbejhnceaaDoor.base Go.Proofs.YtaihncbejhnceaaDoor.tok
set_option linter.unusedVariables false

set_option maxRecDepth 100000 in
set_option maxHeartbeats 4000000 in
theorem same_len (L1 L2 : List Rl) (v1 v2 : Value) (w : World) (h1 : RSl w v1 L1) (h2 : RSl w v2 L2) (hne : ¬ L1.length = L2.length) :
    Calls Tryd.prog 15 #[v1, v2] w fun e w' => e = .returned (.bool (sameG L1 L2)) ∧ ∃ m, w' = w.drewN m := by
  have hni : ((L1.length : Int) != (L2.length : Int)) = true := by simp; omega
  obtain ⟨A1, c1, rfl, g1, g2⟩ := h1
  obtain ⟨A2, c2, rfl, g3, g4⟩ := h2
  rw [sameG_len L1 L2 hne]
  clear g1 g2 g3 g4
  clear hne
  go_enter Tryd.func15, Tryd.ntmps15
  go_wp2
  go_ret
  exact ⟨rfl, 0, rfl⟩

end Go.Proofs.YtaihncbejhnceaaDoor.rul

namespace Go.Proofs.YtaihncbejhnceaaDoor.rul
open Go.RowKit Go.Proofs.YtaihncbejhnceaaDoor.base Go.Proofs.YtaihncbejhnceaaDoor.tok
set_option linter.unusedVariables false

theorem dr_more {w wr : World} (h : ∃ m, wr = w.drewN m) (n : Nat) : ∃ m, wr.drewN n = w.drewN m := by
  obtain ⟨m, rfl⟩ := h
  exact ⟨_, by rw [World.drewN_drewN]⟩

set_option maxRecDepth 100000 in
set_option maxHeartbeats 4000000 in
theorem sameRules_step (L1 L2 : List Rl) (hN1 : fullG L1 ≤ 1000000) (hN2 : fullG L2 ≤ 1000000)
    (hIH : ∀ (M1 M2 : List Rl), fullG M1 < fullG L1 → fullG M2 ≤ 1000000 → ∀ v1 v2 w, RSl w v1 M1 → RSl w v2 M2 → Calls Tryd.prog 15 #[v1, v2] w fun e w' => e = .returned (.bool (sameG M1 M2)) ∧ ∃ m, w' = w.drewN m)
    (v1 v2 : Value) (w : World) (h1 : RSl w v1 L1) (h2 : RSl w v2 L2) (heq : L1.length = L2.length) :
    Calls Tryd.prog 15 #[v1, v2] w fun e w' => e = .returned (.bool (sameG L1 L2)) ∧ ∃ m, w' = w.drewN m := by
  have HS1 := Lib.hid h1
  have HS2 := Lib.hid h2
  have IH := Lib.hid hIH
  obtain ⟨A1, c1, rfl, g1, g2⟩ := h1
  obtain ⟨A2, c2, rfl, g3, g4⟩ := h2
  have hl1 := Nat.le_trans (fullG_len L1) hN1
  generalize hR : sameG L1 L2 = R
  have HR := Lib.hid hR
  have HN1 := Lib.hid hN1
  have HN2 := Lib.hid hN2
  clear g2 g4 hIH hR hN1 hN2
  rw [← heq] at HS2 g3 ⊢
  replace heq := Lib.hid heq
  go_enter Tryd.func15, Tryd.ntmps15
  go_wp2_with fail
  go_loopw [5] (fun i wr => ∃ k : Nat, k ≤ L1.length ∧ i = .int .i64 k ∧ sameG (L1.drop k) (L2.drop k) = R ∧ ∃ m, wr = w.drewN m) (fun i _ => L1.length - (intOf i).toNat)
  case atStart => exact ⟨0, by omega, rfl, by simpa using HR.out, 0, rfl⟩
  case round =>
    obtain ⟨k, hk, rfl, hrest, hdr⟩ := hrel
    by_cases hlt : k < L1.length
    · have hlt' : (k : Int) < (L1.length : Int) := by omega
      have hb : Below w.heap.size w wr := by obtain ⟨m, rfl⟩ := hdr; exact below_drewN (Below.refl _ _) m
      have HD := Lib.hid hdr
      have Z2 := HS2.out.on hb
      rw [heq.out] at Z2
      obtain ⟨b, off, m, hd, ds, sub, A3, c3, A4, c4, rfl, hb1, hg, e0, e1, e2, e3, hc1, hDa, hSub⟩ := (HS1.out.on hb).rule hlt
      obtain ⟨b', off', m', hd', ds', sub', A5, c5, A6, c6, rfl, hb2, hg', f0, f1, f2, f3, hc2, hDb, hSub'⟩ := Z2.rule (k := k) (by rw [← heq.out]; exact hlt)
      obtain ⟨-, n1, -⟩ := fullG_drop L1 k _ hg
      obtain ⟨-, n2, -⟩ := fullG_drop L2 k _ hg'
      rw [sameG_drop hg hg'] at hrest
      simp only [fullR] at n1 n2
      have k1 := HN1.out
      have k2 := HN2.out
      have cD := fun (n : Nat) => sameD_ct A3 A5 ds.length ds'.length c3 c5 ds ds' (wr.drewN n) (by unfold maxLen; omega) (by unfold maxLen; omega) (drd_of hDa) (drd_of hDb)
      have cR := fun (n : Nat) => IH.out sub sub' (by omega) (by omega) (.slice A4 sub.length c4) (.slice A6 sub'.length c6) (wr.drewN n) (hSub.on (below_drewN (Below.refl _ _) n)) (hSub'.on (below_drewN (Below.refl _ _) n))
      simp only [sameR] at hrest
      replace hg := Lib.hid hg
      replace hg' := Lib.hid hg'
      replace cD := Lib.hid cD
      replace cR := Lib.hid cR
      clear Z2 hc1 hc2 hDa hDb hSub hSub' n1 n2 k1 k2 hb hdr
      by_cases hm : m = m'
      · subst hm
        have keq : ∀ W : World, (binOp .neq 4 (.bool m) (.bool m)).run Tryd.prog W = .ok (.bool false) W := fun W => by cases m <;> rfl
        by_cases hh : hd = hd'
        · subst hh
          have Hrest := Lib.hid (show (decide (ds = ds') && sameG sub sub' && sameG (L1.drop (k + 1)) (L2.drop (k + 1))) = R by simpa using hrest)
          clear hrest
          have keq2 : ∀ W : World, (binOp .neq 9 (.string (bs hd)) (.string (bs hd))).run Tryd.prog W = .ok (.bool false) W := fun W => by simp [go_sem]
          generalize decide (ds = ds') = q1 at *
          generalize sameG sub sub' = q2 at *
          cases q1 with
          | false =>
            have hr : R = false := by have := Hrest.out; simpa using this.symm
            subst hr
            go_wp2_with fail
            go_quiet ((go_at_call 38; exact Calls.quiet_of (cD.out _)))
            go_wp2
            go_ret
            exact ⟨rfl, dr_more HD.out _⟩
          | true =>
            cases q2 with
            | false =>
              have hr : R = false := by have := Hrest.out; simpa using this.symm
              subst hr
              go_wp2_with fail
              go_quiet (first | (go_at_call 38; exact Calls.quiet_of (cD.out _)) | (go_at_call 15; exact Calls.quiet_of (cR.out _)))
              go_wp2
              go_ret
              exact ⟨rfl, dr_more HD.out _⟩
            | true =>
              go_wp2_with fail
              go_quiet (first | (go_at_call 38; exact Calls.quiet_of (cD.out _)) | (go_at_call 15; exact Calls.quiet_of (cR.out _)))
              go_wp2
              go_roundw
              case rel => exact ⟨k + 1, by omega, by go_num, by have := Hrest.out; simpa using this, dr_more HD.out _⟩
              case measure => simp [intOf]; omega
        · have hr : R = false := by rw [← hrest, decide_eq_false hh]; simp
          subst hr
          have hbs : ((bs hd).toList == (bs hd').toList) = false := by simpa [bs_toList] using hh
          replace hh := Lib.hid hh
          clear hrest
          go_wp2_with fail
          go_quiet (fail)
          go_wp2
          go_ret
          exact ⟨rfl, dr_more HD.out _⟩
      · have hr : R = false := by rw [← hrest, show (m == m') = false by simpa using hm]; simp
        subst hr
        have keq : ∀ W : World, (binOp .neq 4 (.bool m) (.bool m')).run Tryd.prog W = .ok (.bool true) W := fun W => by cases m <;> cases m' <;> first | (exact absurd rfl hm) | rfl
        replace hm := Lib.hid hm
        clear hrest
        go_wp2_with fail
        go_quiet (fail)
        go_wp2
        go_ret
        exact ⟨rfl, dr_more HD.out _⟩
    · obtain rfl : k = L1.length := by omega
      have hr : R = true := by have := hrest; rw [List.drop_eq_nil_of_le (Nat.le_refl _), List.drop_eq_nil_of_le (by rw [heq.out]; exact Nat.le_refl _), sameG] at this; exact this.symm
      subst hr
      replace hdr := Lib.hid hdr
      go_wp2
      go_ret
      exact ⟨rfl, hdr.out⟩

/-- are two trees of rules the same: of any that are not too great -/
theorem sameRules_ct : ∀ (n : Nat) (L1 L2 : List Rl), fullG L1 ≤ n → fullG L1 ≤ 1000000 → fullG L2 ≤ 1000000 → ∀ (v1 v2 : Value) (w : World), RSl w v1 L1 → RSl w v2 L2 →
    Calls Tryd.prog 15 #[v1, v2] w fun e w' => e = .returned (.bool (sameG L1 L2)) ∧ ∃ m, w' = w.drewN m
  | 0, L1, L2, hn, h1, h2, v1, v2, w, r1, r2 => by
    by_cases he : L1.length = L2.length
    · exact sameRules_step L1 L2 h1 h2 (fun M1 M2 hlt => absurd hlt (by omega)) v1 v2 w r1 r2 he
    · exact same_len L1 L2 v1 v2 w r1 r2 he
  | n + 1, L1, L2, hn, h1, h2, v1, v2, w, r1, r2 => by
    by_cases he : L1.length = L2.length
    · exact sameRules_step L1 L2 h1 h2 (fun M1 M2 hlt hm2 u1 u2 W q1 q2 => sameRules_ct n M1 M2 (by omega) (by omega) hm2 u1 u2 W q1 q2) v1 v2 w r1 r2 he
    · exact same_len L1 L2 v1 v2 w r1 r2 he

end Go.Proofs.YtaihncbejhnceaaDoor.rul
