/- Contracts and plain law, a bundle: WVarPlain Var8 Var9 VarA VarB VarC VarD. -/
import Derived.Shelf.SlicesQ.IndexFunc
import Derived.Maps.Own
import Derived.Maps.OwnOps
import Derived.Deep.LoopGhost
import Derived.Test.YtmjbaimccbkmpaaDoorBG

namespace Go.Proofs.YtmjbaimccbkmpaaDoor.vrs
open Go.RowKit Go.Proofs.YtmjbaimccbkmpaaDoor.base Go.Proofs.YtmjbaimccbkmpaaDoor.tok Go.Proofs.YtmjbaimccbkmpaaDoor.rul
set_option linter.unusedVariables false

theorem vrd_one {W : World} {k : Nat} {t : TypeId} {p : Vr} (h : Blk W k t #[.string (bs p.1), .string (bs p.2)]) : VRd W W.heap.size (some ⟨k, 0, none⟩) 1 [p] := by
  refine ⟨rfl, fun _ => ⟨k, 0, rfl, h.lt, fun i d hd j hj => ?_⟩⟩
  have hi : i = 0 := by have := (List.getElem?_eq_some_iff.1 hd).1; simp at this; omega
  subst hi
  obtain rfl : p = d := by simpa using hd
  have hj2 : j = 0 ∨ j = 1 := by omega
  rcases hj2 with rfl | rfl <;> exact h.cell _
theorem vrd_two {W : World} {k : Nat} {t : TypeId} {p q : Vr} (h : Blk W k t #[.string (bs p.1), .string (bs p.2), .string (bs q.1), .string (bs q.2)]) : VRd W W.heap.size (some ⟨k, 0, none⟩) 2 [p, q] := by
  refine ⟨rfl, fun _ => ⟨k, 0, rfl, h.lt, fun i d hd j hj => ?_⟩⟩
  have hi : i = 0 ∨ i = 1 := by have := (List.getElem?_eq_some_iff.1 hd).1; simp at this; omega
  have hj2 : j = 0 ∨ j = 1 := by omega
  rcases hi with rfl | rfl
  · obtain rfl : p = d := by simpa using hd
    rcases hj2 with rfl | rfl <;> exact h.cell _
  · obtain rfl : q = d := by simpa using hd
    rcases hj2 with rfl | rfl <;> exact h.cell _
theorem env_of {w : World} (hF : FoldAt w) (hm : MaxL w) : VEnv w.heap.size w := fun w' h => ⟨hm.on h hm.lt, hF.on h⟩

/-- the law's own fact -/
theorem fact_ct (w : World) (hF : FoldAt w) (hm : MaxL w) :
    Calls Tryd.prog 7 #[] w fun e w' => e = .returned (.bool true) ∧ Below w.heap.size w w' := by
  have hE := env_of hF hm
  have cF := Lib.hid (show ∀ W1 t, Blk W1 w.heap.size t #[.string ⟨#[45, 45, 120]⟩, .string ⟨#[99]⟩] → Below w.heap.size w W1 → Calls Tryd.prog 8 #[.string ⟨#[97, 32, 118, 97, 114, 40, 45, 45, 120, 44, 32, 98, 41]⟩, .slice (some ⟨w.heap.size, 0, none⟩) 1 1] W1 fun e W2 => e = .returned (.tuple #[.string (bs [97, 32, 99]), .bool true]) ∧ Below W1.heap.size W1 W2 from fun W1 t h1 h2 => by
    have := fill_ct (b := w.heap.size) (V := [([45, 45, 120], [99])]) (by simp) (by simp) putT (by decide) (some ⟨w.heap.size, 0, none⟩) 1 W1 (vrd_one h1) h2.size (hE.on h2)
    rw [put_fact] at this
    exact this)
  clear hE hF hm
  have b1 : ((bs [97, 32, 99]).toList == [97, 32, 99]) = true := by rw [bs_toList]; rfl
  go_enter Tryd.func7, Tryd.ntmps7
  go_wp2_with (go_at_call 8; (with_reducible refine (cF.out _ _ (Blk.new rfl) ((Below.refl _ _).alloc (Nat.le_refl _) _)).mono ?_); rintro e W1 ⟨rfl, hb1⟩; have HB1 := Lib.hid (((Below.refl w.heap.size w).alloc (Nat.le_refl _) _).trans (hb1.mono (by simp))); clear hb1)
  go_ret
  exact ⟨rfl, HB1.out⟩

set_option maxRecDepth 100000 in
set_option maxHeartbeats 8000000 in
theorem plain_at (s n v : Bs) (w : World) (hs : s.length ≤ 140737488351232) (hv : v.length ≤ 140737488351232) (hF : FoldAt w) (hm : MaxL w) :
    Calls Tryd.prog 3 #[.string (bs s), .string (bs n), .string (bs v)] w fun e w' => e = .returned (.bool true) ∧ Below w.heap.size w w' := by
  have hE := env_of hF hm
  have cP := Lib.hid (fact_ct w hF hm)
  have cT := Lib.hid (show ∀ W1, Calls Tryd.prog 9 #[.string (bs s), .string ⟨#[40]⟩] W1 fun e w' => e = .returned (.bool (decide (40 ∈ s))) ∧ Below W1.heap.size W1 w' from fun W1 => by
    have := hasText_ct s [40] (by decide) (by omega) (by decide) W1
    rw [hasT_one] at this
    exact this)
  have c1 := fun W1 (k : Nat) (t : TypeId) (h1 : Blk W1 k t #[.string (bs n), .string (bs v)]) (h2 : Below w.heap.size w W1) => fill_ct (b := w.heap.size) (V := [(n, v)]) (by simp) (by simpa using hv) s (by omega) (some ⟨k, 0, none⟩) 1 W1 (vrd_one h1) h2.size (hE.on h2)
  have c2 := fun W1 (k : Nat) (t : TypeId) (h1 : Blk W1 k t #[.string (bs [45, 45, 97]), .string (bs v), .string (bs n), .string (bs s)]) (h2 : Below w.heap.size w W1) => fill_ct (b := w.heap.size) (V := [([45, 45, 97], v), (n, s)]) (by simp) (by simpa using ⟨hv, hs⟩) askT (by decide) (some ⟨k, 0, none⟩) 2 W1 (vrd_two h1) h2.size (hE.on h2)
  simp only [ask_fact, List.length_cons, List.length_nil, Nat.zero_add, Nat.reduceAdd] at c1 c2
  have hfirst : (decide (40 ∈ s) = true) ∨ (decide (40 ∈ s) = false ∧ decide (((bs s).size : Int) ≤ 400) = true ∧ fillP [(n, v)] s = (s, true)) ∨ (decide (40 ∈ s) = false ∧ decide (((bs s).size : Int) ≤ 400) = false ∧ fillP [(n, v)] s = ([], false)) := by
    by_cases h : 40 ∈ s
    · exact .inl (decide_eq_true h)
    · by_cases hl : s.length ≤ 400
      · exact .inr (.inl ⟨decide_eq_false h, decide_eq_true (by rw [bs_size]; omega), fill_stays h hl⟩)
      · exact .inr (.inr ⟨decide_eq_false h, decide_eq_false (by rw [bs_size]; omega), fill_large (by omega)⟩)
  have hwant : (((bs n).toList == [45, 45, 97]) = true ∧ wantP n s v = s) ∨ (((bs n).toList == [45, 45, 97]) = false ∧ wantP n s v = v) := by
    unfold wantP
    rw [bs_toList]
    by_cases h : n = [45, 45, 97]
    · exact .inl ⟨by simpa using h, if_pos h⟩
    · exact .inr ⟨by simpa using h, if_neg h⟩
  generalize hR : fillP [(n, v)] s = R at *
  obtain ⟨r, is⟩ := R
  generalize hD : decide (40 ∈ s) = D at *
  generalize hW : wantP n s v = wt at *
  have hlen : (wt.length ≤ 400 ∧ decide (((bs wt).size : Int) ≤ 400) = true) ∨ (¬ wt.length ≤ 400 ∧ decide (((bs wt).size : Int) ≤ 400) = false) := by
    rw [bs_size]
    by_cases h : wt.length ≤ 400
    · exact .inl ⟨h, decide_eq_true (by omega)⟩
    · exact .inr ⟨h, decide_eq_false (by omega)⟩
  clear hR hD hW hE hs hv hF hm
  have ss : ((bs s).toList != (bs s).toList) = false := by simp
  have ww : ((bs wt).toList == (bs wt).toList) = true := by simp
  replace c1 := Lib.hid c1
  rcases hfirst with rfl | ⟨rfl, hz, hRR⟩ | ⟨rfl, hz, hRR⟩
  case' inr.inl => injection hRR with h1 h2; subst h1 h2
  case' inr.inr => injection hRR with h1 h2; subst h1 h2
  all_goals
    rcases hlen with ⟨hl, hlz⟩ | ⟨hl, hlz⟩
    case' inl => simp only [hl, if_true] at c2
    case' inr => simp only [hl, if_false] at c2
    all_goals
      rcases hwant with ⟨hn, rfl⟩ | ⟨hn, rfl⟩
      all_goals (try exact absurd (hz.symm.trans hlz) (by decide))
      all_goals
        replace c2 := Lib.hid c2
        clear hl
        go_enter Tryd.func3, Tryd.ntmps3
        go_wp2_with (first
          | (go_at_call 7; (with_reducible refine (cP.out).mono ?_); rintro e W1 ⟨rfl, hb1⟩; have HB1 := Lib.hid hb1; clear hb1)
          | (go_at_call 8; (with_reducible refine (c1.out _ _ _ (Blk.new rfl) (HB1.out.alloc HB1.out.size _)).mono ?_); rintro e W2 ⟨rfl, hb2⟩; have HB2 := Lib.hid ((HB1.out.alloc HB1.out.size _).trans (hb2.mono (by have := HB1.out.size; simp; omega))); clear hb2)
          | (go_at_call 9; (with_reducible refine (cT.out _).mono ?_); rintro e W3 ⟨rfl, hb3⟩; have HB3 := Lib.hid (HB2.out.trans (hb3.mono HB2.out.size)); clear hb3)
          | (go_at_call 8; (refine (c2.out _ _ _ (Blk.new rfl) (HB3.out.alloc HB3.out.size _)).mono ?_); rintro e W4 ⟨rfl, hb4⟩; have HB4 := Lib.hid ((HB3.out.alloc HB3.out.size _).trans (hb4.mono (by have := HB3.out.size; simp; omega))); clear hb4))
        go_ret
        exact ⟨rfl, HB4.out⟩

theorem plain.law_ct (a n v : ByteArray) (w : World) (hs : a.size ≤ 140737488351232) (hn : n.size ≤ maxLen) (hv : v.size ≤ 140737488351232) (hF : FoldAt w) (hm : MaxL w) :
    Calls Tryd.prog 3 #[.string a, .string n, .string v] w fun e w' => e = .returned (.bool true) ∧ Below w.heap.size w w' :=
  plain_at a.data.toList n.data.toList v.data.toList w hs hv hF hm

end Go.Proofs.YtmjbaimccbkmpaaDoor.vrs

namespace Go.Proofs.YtmjbaimccbkmpaaDoor.vrs
open Go.RowKit Go.Proofs.YtmjbaimccbkmpaaDoor.base Go.Proofs.YtmjbaimccbkmpaaDoor.tok Go.Proofs.YtmjbaimccbkmpaaDoor.rul
set_option linter.unusedVariables false

def idxF {α : Type} (p : α → Bool) : List α → Nat → Int
  | [], _ => -1
  | x :: L, i => if p x then (i : Int) else idxF p L (i + 1)
theorem idxF_hit {α : Type} {p : α → Bool} {L : List α} {i : Nat} {x : α} (h : L[i]? = some x) (hp : p x = true) : idxF p (L.drop i) i = i := by
  obtain ⟨hl, he⟩ := List.getElem?_eq_some_iff.1 h
  rw [List.drop_eq_getElem_cons hl, he, idxF, hp]
  rfl
theorem idxF_miss {α : Type} {p : α → Bool} {L : List α} {i : Nat} {x : α} (h : L[i]? = some x) (hp : p x = false) : idxF p (L.drop (i + 1)) (i + 1) = idxF p (L.drop i) i := by
  obtain ⟨hl, he⟩ := List.getElem?_eq_some_iff.1 h
  rw [List.drop_eq_getElem_cons hl, he, idxF, hp]
  rfl
theorem idxF_any {α : Type} (p : α → Bool) : ∀ (L : List α) (i : Nat), (L.any p = true ∧ (i : Int) ≤ idxF p L i) ∨ (L.any p = false ∧ idxF p L i = -1)
  | [], i => .inr ⟨rfl, rfl⟩
  | x :: L, i => by
    rw [idxF, List.any_cons]
    cases h : p x with
    | true => exact .inl ⟨rfl, Int.le_refl _⟩
    | false =>
      rcases idxF_any p L (i + 1) with ⟨h1, h2⟩ | ⟨h1, h2⟩
      · exact .inl ⟨by simpa using h1, by simp; omega⟩
      · exact .inr ⟨by simpa using h1, by simpa using h2⟩

abbrev PdV (P : Vr → Bool) (g : Nat) (lb : Array Value) (V : List Vr) (w : World) : Prop :=
  ∀ (W : World) (x : Vr), x ∈ V → Below w.heap.size w W → Calls Tryd.prog g (#[.agg #[.string (bs x.1), .string (bs x.2)]] ++ lb) W fun e w' => e = .returned (.bool (P x)) ∧ Below w.heap.size w w'
abbrev PdS (P : Bs → Bool) (g : Nat) (lb : Array Value) (V : List Bs) (w : World) : Prop :=
  ∀ (W : World) (x : Bs), x ∈ V → Below w.heap.size w W → Calls Tryd.prog g (#[.string (bs x)] ++ lb) W fun e w' => e = .returned (.bool (P x)) ∧ Below w.heap.size w w'

set_option maxHeartbeats 2000000 in
theorem vIdx_ct (p : Vr → Bool) (g : Nat) (lb : Array Value) (eg : ∀ args w, (callFunc g args).run Tryd.prog w = .ok (.enter g args) w) (A : Option Addr) (cap : Nat) (V : List Vr) (hn : V.length ≤ 1000000) (w : World) (hI : VRd w w.heap.size A V.length V) (hp : PdV p g lb V w) :
    Calls Tryd.prog 37 #[.slice A V.length cap, .func (.func g) #[] lb] w fun e w' => e = .returned (.int .i64 (idxF p V 0)) ∧ Below w.heap.size w w' := by
  have HI := Lib.hid hI
  have HP := Lib.hid hp
  clear hI hp
  generalize hR : idxF p V 0 = R
  have HR := Lib.hid hR
  clear hR
  go_enter Tryd.func37, Tryd.ntmps37
  go_wp2_with fail
  go_loopw [5, 8] (fun _ x wr => ∃ i : Nat, i ≤ V.length ∧ x = .int .i64 i ∧ idxF p (V.drop i) i = R ∧ Below w.heap.size w wr) (fun _ x _ => V.length - (intOf x).toNat)
  case atStart => exact ⟨0, Nat.zero_le _, rfl, HR.out, Below.refl _ _⟩
  case round =>
    obtain ⟨i, hil, rfl, hinv, hbel⟩ := hrel
    have HInv := Lib.hid hinv
    have HBl := Lib.hid hbel
    clear hinv HR
    by_cases hlt : i < V.length
    · have hlt' : (i : Int) < (V.length : Int) := by omega
      obtain ⟨b, off, x, rfl, hbb, hd, c0, c1⟩ := VRd.var (HI.out.keep hbel hbel.size) hlt
      have hcall := HP.out wr x (List.mem_of_getElem? hd) hbel
      have HD := Lib.hid hd
      clear hd hbel
      cases hq : p x with
      | true =>
        rw [hq] at hcall
        have HF := Lib.hid ((idxF_hit HD.out hq).symm.trans HInv.out)
        clear hq
        go_wp2_with (go_at_fn g; refine hcall.mono ?_; rintro e w' ⟨rfl, hb'⟩; have HB2 := Lib.hid hb'; clear hb')
        go_ret
        exact ⟨congrArg (fun z => Ending.returned (Value.int IntKind.i64 z)) HF.out, HB2.out⟩
      | false =>
        rw [hq] at hcall
        have HF := Lib.hid ((idxF_miss HD.out hq).trans HInv.out)
        clear hq
        go_wp2_with (go_at_fn g; refine hcall.mono ?_; rintro e w' ⟨rfl, hb'⟩; have HB2 := Lib.hid hb'; clear hb')
        go_roundw
        case rel => exact ⟨i + 1, by omega, by go_num, HF.out, HB2.out⟩
        case measure => simp [intOf]; omega
    · obtain rfl : i = V.length := by omega
      have HF := Lib.hid (show R = -1 by rw [← HInv.out, List.drop_length]; rfl)
      clear hbel
      go_wp2_with fail
      go_ret
      exact ⟨congrArg (fun z => Ending.returned (Value.int IntKind.i64 z)) HF.out.symm, HBl.out⟩

set_option maxHeartbeats 2000000 in
theorem sIdx_ct (p : Bs → Bool) (g : Nat) (lb : Array Value) (eg : ∀ args w, (callFunc g args).run Tryd.prog w = .ok (.enter g args) w) (A : Option Addr) (cap : Nat) (V : List Bs) (hn : V.length ≤ 10000000) (w : World) (hI : Rd 1 (fun x => [.string (bs x)]) w w.heap.size A V.length V) (hp : PdS p g lb V w) :
    Calls Tryd.prog 40 #[.slice A V.length cap, .func (.func g) #[] lb] w fun e w' => e = .returned (.int .i64 (idxF p V 0)) ∧ Below w.heap.size w w' := by
  have HI := Lib.hid hI
  have HP := Lib.hid hp
  clear hI hp
  generalize hR : idxF p V 0 = R
  have HR := Lib.hid hR
  clear hR
  go_enter Tryd.func40, Tryd.ntmps40
  go_wp2_with fail
  go_loopw [5, 8] (fun _ x wr => ∃ i : Nat, i ≤ V.length ∧ x = .int .i64 i ∧ idxF p (V.drop i) i = R ∧ Below w.heap.size w wr) (fun _ x _ => V.length - (intOf x).toNat)
  case atStart => exact ⟨0, Nat.zero_le _, rfl, HR.out, Below.refl _ _⟩
  case round =>
    obtain ⟨i, hil, rfl, hinv, hbel⟩ := hrel
    have HInv := Lib.hid hinv
    have HBl := Lib.hid hbel
    clear hinv HR
    by_cases hlt : i < V.length
    · have hlt' : (i : Int) < (V.length : Int) := by omega
      obtain ⟨b, off, x, rfl, hbb, hd, hc⟩ := Rd.at_ (HI.out.keep hbel hbel.size) hlt
      have c0 := hc 0 (by decide)
      simp only [Nat.mul_one, Nat.add_zero] at c0
      have c0' : wr.cell? ⟨b, off + i, none⟩ = some (.string (bs x)) := c0
      have hcall := HP.out wr x (List.mem_of_getElem? hd) hbel
      have HD := Lib.hid hd
      clear hd hbel hc c0
      cases hq : p x with
      | true =>
        rw [hq] at hcall
        have HF := Lib.hid ((idxF_hit HD.out hq).symm.trans HInv.out)
        clear hq
        go_wp2_with (go_at_fn g; refine hcall.mono ?_; rintro e w' ⟨rfl, hb'⟩; have HB2 := Lib.hid hb'; clear hb')
        go_ret
        exact ⟨congrArg (fun z => Ending.returned (Value.int IntKind.i64 z)) HF.out, HB2.out⟩
      | false =>
        rw [hq] at hcall
        have HF := Lib.hid ((idxF_miss HD.out hq).trans HInv.out)
        clear hq
        go_wp2_with (go_at_fn g; refine hcall.mono ?_; rintro e w' ⟨rfl, hb'⟩; have HB2 := Lib.hid hb'; clear hb')
        go_roundw
        case rel => exact ⟨i + 1, by omega, by go_num, HF.out, HB2.out⟩
        case measure => simp [intOf]; omega
    · obtain rfl : i = V.length := by omega
      have HF := Lib.hid (show R = -1 by rw [← HInv.out, List.drop_length]; rfl)
      clear hbel
      go_wp2_with fail
      go_ret
      exact ⟨congrArg (fun z => Ending.returned (Value.int IntKind.i64 z)) HF.out.symm, HBl.out⟩

theorem vHas_ct (p : Vr → Bool) (g : Nat) (lb : Array Value) (eg : ∀ args w, (callFunc g args).run Tryd.prog w = .ok (.enter g args) w) (A : Option Addr) (cap : Nat) (V : List Vr) (hn : V.length ≤ 1000000) (w : World) (hI : VRd w w.heap.size A V.length V) (hp : PdV p g lb V w) :
    Calls Tryd.prog 28 #[.slice A V.length cap, .func (.func g) #[] lb] w fun e w' => e = .returned (.bool (V.any p)) ∧ Below w.heap.size w w' := by
  have cI := Lib.hid (vIdx_ct p g lb eg A cap V hn w hI hp)
  have h3 := idxF_any p V 0
  generalize idxF p V 0 = R at *
  clear hI hp
  rcases h3 with ⟨h1, h2⟩ | ⟨h1, rfl⟩
  · rw [h1]
    have h2' : (0 : Int) ≤ R := by simpa using h2
    clear h2
    go_enter Tryd.func28, Tryd.ntmps28
    go_wp2_with (go_at_call 37; (with_reducible refine (cI.out).mono ?_); rintro e W1 ⟨rfl, hb1⟩; have HB1 := Lib.hid hb1; clear hb1)
    go_ret
    exact ⟨rfl, HB1.out⟩
  · rw [h1]
    go_enter Tryd.func28, Tryd.ntmps28
    go_wp2_with (go_at_call 37; (with_reducible refine (cI.out).mono ?_); rintro e W1 ⟨rfl, hb1⟩; have HB1 := Lib.hid hb1; clear hb1)
    go_ret
    exact ⟨rfl, HB1.out⟩
theorem sHas_ct (p : Bs → Bool) (g : Nat) (lb : Array Value) (eg : ∀ args w, (callFunc g args).run Tryd.prog w = .ok (.enter g args) w) (A : Option Addr) (cap : Nat) (V : List Bs) (hn : V.length ≤ 10000000) (w : World) (hI : Rd 1 (fun x => [.string (bs x)]) w w.heap.size A V.length V) (hp : PdS p g lb V w) :
    Calls Tryd.prog 25 #[.slice A V.length cap, .func (.func g) #[] lb] w fun e w' => e = .returned (.bool (V.any p)) ∧ Below w.heap.size w w' := by
  have cI := Lib.hid (sIdx_ct p g lb eg A cap V hn w hI hp)
  have h3 := idxF_any p V 0
  generalize idxF p V 0 = R at *
  clear hI hp
  rcases h3 with ⟨h1, h2⟩ | ⟨h1, rfl⟩
  · rw [h1]
    have h2' : (0 : Int) ≤ R := by simpa using h2
    clear h2
    go_enter Tryd.func25, Tryd.ntmps25
    go_wp2_with (go_at_call 40; (with_reducible refine (cI.out).mono ?_); rintro e W1 ⟨rfl, hb1⟩; have HB1 := Lib.hid hb1; clear hb1)
    go_ret
    exact ⟨rfl, HB1.out⟩
  · rw [h1]
    go_enter Tryd.func25, Tryd.ntmps25
    go_wp2_with (go_at_call 40; (with_reducible refine (cI.out).mono ?_); rintro e W1 ⟨rfl, hb1⟩; have HB1 := Lib.hid hb1; clear hb1)
    go_ret
    exact ⟨rfl, HB1.out⟩

end Go.Proofs.YtmjbaimccbkmpaaDoor.vrs

namespace Go.Proofs.YtmjbaimccbkmpaaDoor.vrs
open Go.RowKit Go.Proofs.YtmjbaimccbkmpaaDoor.base Go.Proofs.YtmjbaimccbkmpaaDoor.tok Go.Proofs.YtmjbaimccbkmpaaDoor.rul
set_option linter.unusedVariables false

def nextP (L : List Tk) : List Bs :=
  match L.dropWhile silP with
  | [] => []
  | x :: _ => if x.k = 1 then [x.val] else []
def onL : List Tk → List Bs
  | [] => []
  | t :: L => (if isVarP t then nextP L else []) ++ onL L
def onP (s : Bs) : List Bs := onL (cutP s)
theorem onL_other {L : List Tk} {i : Nat} {t : Tk} (h : L[i]? = some t) (hv : isVarP t = false) : onL (L.drop i) = onL (L.drop (i + 1)) := by
  rw [drop_at h, onL, hv]; rfl
theorem onL_var {L : List Tk} {i : Nat} {t : Tk} (h : L[i]? = some t) (hv : isVarP t = true) : onL (L.drop i) = nextP (L.drop (i + 1)) ++ onL (L.drop (i + 1)) := by
  rw [drop_at h, onL, hv]; rfl
theorem next_end {L : List Tk} (h : ([] : List Tk) = L.dropWhile silP) : nextP L = [] := by unfold nextP; rw [← h]
theorem next_name {L M : List Tk} {t : Tk} (h : t :: M = L.dropWhile silP) (hk : t.k = 1) : nextP L = [t.val] := by unfold nextP; rw [← h]; simp only; rw [if_pos hk]
theorem next_other {L M : List Tk} {t : Tk} (h : t :: M = L.dropWhile silP) (hk : ¬ t.k = 1) : nextP L = [] := by unfold nextP; rw [← h]; simp only; rw [if_neg hk]
theorem drop_sil {L : List Tk} {i : Nat} {t : Tk} (h : L[i]? = some t) (hs : silP t = true) : (L.drop (i + 1)).dropWhile silP = (L.drop i).dropWhile silP := by
  rw [drop_at h, List.dropWhile_cons, if_pos hs]
theorem drop_not {L : List Tk} {i : Nat} {t : Tk} (h : L[i]? = some t) (hs : silP t = false) : t :: L.drop (i + 1) = (L.drop i).dropWhile silP := by
  rw [drop_at h, List.dropWhile_cons, hs]; rfl
theorem next_few (L : List Tk) : (nextP L).length ≤ 1 := by
  unfold nextP
  split
  · simp
  · split <;> simp
theorem on_few : ∀ L : List Tk, (onL L).length ≤ L.length
  | [] => Nat.le_refl _
  | t :: L => by
    have := on_few L
    have := next_few L
    rw [onL, List.length_append, List.length_cons]
    split <;> simp <;> omega

abbrev SRd (w : World) (B : Nat) (A : Option Addr) (n : Nat) (V : List Bs) : Prop := Rd 1 (fun x => [.string (bs x)]) w B A n V
theorem flat_str (L : List Bs) : flatR (fun x => [Value.string (bs x)]) L = L.map strV := by
  induction L with
  | nil => rfl
  | cons x L ih => simpa [flatR, strV] using ih

def OnRel (W : World) (L : List Tk) (R : List Bs) (v x : Value) (wr : World) : Prop :=
  ∃ (i : Nat) (out : List Bs), i ≤ L.length ∧ x = .int .i64 i ∧ out.length ≤ i ∧ out ++ onL (L.drop i) = R ∧ wr.ownsRow W.heap.size 9 1 v out.length (out.map strV) ∧ Below W.heap.size W wr
def InRel (W : World) (M : List Tk) (out : List Bs) (v x : Value) (wr : World) : Prop :=
  ∃ k : Nat, k ≤ M.length ∧ x = .int .i64 k ∧ (M.drop k).dropWhile silP = M.dropWhile silP ∧ wr.ownsRow W.heap.size 9 1 v out.length (out.map strV) ∧ Below W.heap.size W wr

set_option maxRecDepth 100000 in
set_option maxHeartbeats 8000000 in
theorem on_row (s : Bs) (hs : s.length ≤ 2000000) (w : World) (hm : MaxL w) (hF : FoldAt w) :
    Calls Tryd.prog 26 #[.string (bs s)] w fun e w' => (∃ v, e = .returned v ∧ w'.ownsRow w.heap.size 9 1 v (onP s).length ((onP s).map strV)) ∧ Below w.heap.size w w' := by
  obtain ⟨i0, hi, hz0, hz1, hz2⟩ := info_parts infoS
  have Hz0 := Lib.hid hz0
  have Hi := Lib.hid hi
  have Hz1 := Lib.hid hz1
  have Hz2 := Lib.hid hz2
  clear hz0 hi hz1 hz2
  have cC := Lib.hid (cut_ct (bs s) (by rw [bs_size]; omega) w hm)
  have cV := Lib.hid (fun (t : Tk) (ht : t.val.length ≤ 2000000) (w' : World) (h : Below w.heap.size w w') => isVar_ct t (by omega) w' (hF.on h))
  have HVal := Lib.hid (show ∀ t ∈ cutP s, t.val.length ≤ 2000000 from fun t ht => by have := (cut_vals _ s (Nat.le_refl _) t ht).2.2; omega)
  have hfew := cut_few s
  unfold onP
  have hLs : (cutP (bs s).data.toList) = cutP s := rfl
  rw [hLs] at cC
  generalize cutP s = L at *
  have hLn : L.length ≤ 2000000 := by omega
  generalize hR : onL L = R
  have HR := Lib.hid hR
  clear hR hfew hLs hm hF hs
  go_enter Tryd.func26, Tryd.ntmps26
  go_wp2_with (go_at_call 12; (with_reducible refine (cC.out).mono ?_); rintro e W1 ⟨⟨A1, c1, rfl, hc1, hr1⟩, hb1⟩; have HB1 := Lib.hid hb1; have HL := Lib.hid hr1; clear hb1 hr1)
  go_loopw [3, 13] (fun v x wr => OnRel W1 L R v x wr) (fun _ x _ => L.length - (intOf x).toNat)
  case atStart => exact ⟨0, [], Nat.zero_le _, rfl, Nat.le_refl _, HR.out, World.ownsRow_nil _ _ _ _, Below.refl _ _⟩
  case round =>
    obtain ⟨i, out, hil, rfl, hol, hinv, hrow, hbel⟩ := hrel
    have HInv := Lib.hid hinv
    have HRow := Lib.hid hrow
    have HBl := Lib.hid hbel
    have HBw := Lib.hid (HB1.out.trans (hbel.mono HB1.out.size))
    obtain ⟨av, cp, rfl⟩ := row_form hrow
    clear hinv hrow HR
    by_cases hlt : i < L.length
    · have hlt' : (i : Int) < (L.length : Int) := by omega
      have hrd := HL.out.keep hbel hbel.size
      obtain ⟨tb, off, t, rfl, htb, hd, e0, e1, e2, e3⟩ := TRd.tok hrd hlt
      have cVt := Lib.hid (fun w' h => cV.out t (HVal.out t (List.mem_of_getElem? hd)) w' h)
      have q1 : IntKind.i64.wrap ((i : Int) + 1) = (i : Int) + 1 := IntWalk.i64_in _ (by omega)
      cases hv : isVarP t
      · have HNew := Lib.hid (show out ++ onL (L.drop (i + 1)) = R by rw [← HInv.out, onL_other hd hv])
        rw [hv] at cVt
        obtain ⟨tk, tr, tv, tn⟩ := t
        simp only [Tk.cells] at e0 e1 e2 e3 cVt
        clear hbel hrd hd hv
        go_wp2_with (go_at_call 13; (with_reducible refine (cVt.out _ (HBw.out.alloc HBw.out.size _)).mono ?_); rintro e W2 ⟨rfl, hb2⟩; have HB2 := Lib.hid ((HBl.out.alloc HBl.out.size _).trans (hb2.mono (by have := HBl.out.size; simp; omega))); have HRow2 := Lib.hid (row_on (HRow.out.alloc _) hb2); clear hb2 e0 e1 e2 e3)
        go_roundw
        case rel => exact ⟨i + 1, out, by omega, by go_num, by omega, HNew.out, HRow2.out, HB2.out⟩
        case measure => simp [intOf]; omega
      · have hNew : out ++ nextP (L.drop (i + 1)) ++ onL (L.drop (i + 1)) = R := by rw [← HInv.out, onL_var hd hv, List.append_assoc]
        have HNew := Lib.hid hNew
        have hMl : (L.drop (i + 1)).length = L.length - (i + 1) := List.length_drop
        have HM := Lib.hid (rd_from HL.out hc1 (i := i + 1) (by omega))
        have hsl := fun w => slice_from (P := Tryd.prog) (k := 4) Tryd.underlying36 Tryd.sizeOf43 (some ⟨tb, off, none⟩) L.length c1 ((i : Int) + 1) (by omega) (by omega) w
        simp only [show ((i : Int) + 1).toNat = i + 1 by omega] at hsl
        have HMv := Lib.hid (show ∀ x ∈ L.drop (i + 1), x.val.length ≤ 2000000 from fun x hx => HVal.out x (List.mem_of_mem_drop hx))
        generalize hMM : L.drop (i + 1) = M at *
        have HMM := Lib.hid hMM
        rw [hv] at cVt
        obtain ⟨tk, tr, tv, tn⟩ := t
        simp only [Tk.cells] at e0 e1 e2 e3 cVt
        rw [← hMl] at HM hsl
        have hMs : M.length ≤ 2000000 := by omega
        generalize hA2 : addrAt 4 (some ⟨tb, off, none⟩) c1 (i + 1) = A2 at *
        clear hbel hrd hd hv hNew hMM hA2
        go_wp2_with (go_at_call 13; (with_reducible refine (cVt.out _ (HBw.out.alloc HBw.out.size _)).mono ?_); rintro e W2 ⟨rfl, hb2⟩; have HB2 := Lib.hid ((HBl.out.alloc HBl.out.size _).trans (hb2.mono (by have := HBl.out.size; simp; omega))); have HRow2 := Lib.hid (row_on (HRow.out.alloc _) hb2); clear hb2 e0 e1 e2 e3)
        go_loopw [3, 26] (fun v x wr => InRel W1 M out v x wr) (fun _ x _ => M.length - (intOf x).toNat)
        case atStart => exact ⟨0, Nat.zero_le _, rfl, rfl, HRow2.out, HB2.out⟩
        case round =>
          obtain ⟨k, hkl, rfl, hinv2, hrow2, hbel2⟩ := hrel
          have HInv2 := Lib.hid hinv2
          have HRow3 := Lib.hid hrow2
          have HBl3 := Lib.hid hbel2
          obtain ⟨av3, cp3, rfl⟩ := row_form hrow2
          clear hinv2 hrow2 HB2 HRow2
          by_cases hkt : k < M.length
          · have hkt' : (k : Int) < (M.length : Int) := by omega
            obtain ⟨xb, xoff, x, rfl, hxb, hd, e0, e1, e2, e3⟩ := TRd.tok (HM.out.keep hbel2 hbel2.size) hkt
            have q2 : IntKind.i64.wrap ((k : Int) + 1) = (k : Int) + 1 := IntWalk.i64_in _ (by omega)
            cases hsi : silP x
            · have hnx := (drop_not hd hsi).trans HInv2.out
              obtain ⟨xk, xr, xv, xn⟩ := x
              simp only at e0 e1 e2 e3
              have cS := Lib.hid (fun w => asksV_at vsilent_ct hsi w)
              clear hbel2 hd hsi
              by_cases hk1 : xk = 1
              · subst hk1
                have HN := Lib.hid (show (out ++ [xv]) ++ onL M = R by rw [← HNew.out, next_name hnx rfl])
                clear hnx
                go_wp2_with (first
                  | (go_at_call 41; (with_reducible refine (cS.out _).mono ?_); rintro e W3 ⟨rfl, hb3⟩; have HB3 := Lib.hid ((HBl3.out.alloc HBl3.out.size _).trans (hb3.mono (by have := HBl3.out.size; simp; omega))); have HRow4 := Lib.hid (row_on (HRow3.out.alloc _) hb3); have cX := (Blk.below (Blk.new (w := wr) (t := 43) (cs := #[.int .i64 1, .string (bs xr), .string (bs xv), .int .i64 xn]) rfl) hb3 (by simp)).cell; clear hb3 e0 e1 e2 e3)
                  | (at_builtin; refine wpList_append_own _ rfl _ _ 56 rfl W1.heap.size 9 i0 (.string .empty) 1 16 Tryd.underlying56 Hi.out Hz0.out Hz1.out Hz2.out rfl (by decide) _ _ _ rfl (HRow4.out.alloc _) ⟨W3.heap.size, 0, none⟩ 1 1 [.string (bs xv)] rfl rfl ?c1 ?c2 ?c3 ?c4 ?c5 ?_))
                case c1 => exact (Blk.new (w := W3) (t := 9) (cs := #[.string (bs xv)]) rfl).news
                case c2 => simp [Value.oneCell']
                case c3 => unfold maxLen; omega
                case c4 => omega
                case c5 => have := HB3.out.size; simp; omega
                intro v' w4 hown4 hgrow4 hnil4
                have HB4 := Lib.hid (below_app (HB3.out.alloc HB3.out.size _) hgrow4 (HRow4.out.alloc _) (Nat.le_refl _) (by have := HB3.out.size; simp; omega))
                obtain ⟨g', cap', rfl⟩ := row_form hown4
                replace hown4 := Lib.hid hown4
                clear hgrow4 hnil4
                go_wp2
                go_roundw
                case rel => exact ⟨i + 1, out ++ [xv], by omega, by go_num, by simp; omega, by rw [HMM.out]; exact HN.out, by simpa using hown4.out, HB4.out⟩
                case measure => simp [intOf]; omega
              · have HN := Lib.hid (show out ++ onL M = R by rw [← HNew.out, next_other hnx hk1, List.append_nil])
                have b1 : (xk == 1) = false := by simpa using hk1
                clear hnx hk1
                go_wp2_with (first
                  | (go_at_call 41; (with_reducible refine (cS.out _).mono ?_); rintro e W3 ⟨rfl, hb3⟩; have HB3 := Lib.hid ((HBl3.out.alloc HBl3.out.size _).trans (hb3.mono (by have := HBl3.out.size; simp; omega))); have HRow4 := Lib.hid (row_on (HRow3.out.alloc _) hb3); have cX := (Blk.below (Blk.new (w := wr) (t := 43) (cs := #[.int .i64 xk, .string (bs xr), .string (bs xv), .int .i64 xn]) rfl) hb3 (by simp)).cell; clear hb3 e0 e1 e2 e3))
                go_roundw
                case rel => exact ⟨i + 1, out, by omega, by go_num, by omega, by rw [HMM.out]; exact HN.out, HRow4.out, HB3.out⟩
                case measure => simp [intOf]; omega
            · have HN := Lib.hid ((drop_sil hd hsi).trans HInv2.out)
              have cS := Lib.hid (fun w => asksV_at (k := x.k) (r := x.raw) (v := x.val) (n := x.num) vsilent_ct hsi w)
              obtain ⟨xk, xr, xv, xn⟩ := x
              simp only at e0 e1 e2 e3 cS
              clear hbel2 hd hsi
              go_wp2_with (first
                | (go_at_call 41; (with_reducible refine (cS.out _).mono ?_); rintro e W3 ⟨rfl, hb3⟩; have HB3 := Lib.hid ((HBl3.out.alloc HBl3.out.size _).trans (hb3.mono (by have := HBl3.out.size; simp; omega))); have HRow4 := Lib.hid (row_on (HRow3.out.alloc _) hb3); clear hb3 e0 e1 e2 e3))
              go_roundw
              case rel => exact ⟨k + 1, by omega, by go_num, HN.out, HRow4.out, HB3.out⟩
              case measure => simp [intOf]; omega
          · obtain rfl : k = M.length := by omega
            have HN := Lib.hid (show out ++ onL M = R by
              have := HInv2.out
              rw [List.drop_length] at this
              rw [← HNew.out, next_end this, List.append_nil])
            clear hbel2
            go_wp2_with fail
            go_roundw
            case rel => exact ⟨i + 1, out, by omega, by go_num, by omega, by rw [HMM.out]; exact HN.out, HRow3.out, HBl3.out⟩
            case measure => simp [intOf]; omega
    · obtain rfl : i = L.length := by omega
      have HFin := Lib.hid (show out = R by rw [← HInv.out, List.drop_length, onL, List.append_nil])
      clear hbel
      go_wp2_with fail
      go_ret
      obtain rfl := HFin.out
      refine ⟨?_, HB1.out.trans (HBl.out.mono HB1.out.size)⟩
      have hr := HRow.out
      refine ⟨_, rfl, hr.1, ?_⟩
      rcases hr.2 with hn | ⟨g, cap, cur, h1, h2, h3⟩
      · exact .inl hn
      · exact .inr ⟨g, cap, cur, h1, Nat.le_trans HB1.out.size h2, h3⟩
theorem on_ct (s : Bs) (hs : s.length ≤ 2000000) (w : World) (hm : MaxL w) (hF : FoldAt w) :
    Calls Tryd.prog 26 #[.string (bs s)] w fun e w' => (∃ A cap, e = .returned (.slice A (onP s).length cap) ∧ (onP s).length ≤ cap ∧ SRd w' w'.heap.size A (onP s).length (onP s)) ∧ Below w.heap.size w w' :=
  (on_row s hs w hm hF).mono fun e w' ⟨⟨v, he, hr⟩, hb⟩ => by
    rw [← flat_str] at hr
    obtain ⟨A, c, rfl, hc, hg⟩ := row_rd (f := fun x => [Value.string (bs x)]) (fun _ => rfl) rfl hr
    exact ⟨⟨A, c, he, hc, hg⟩, hb⟩

end Go.Proofs.YtmjbaimccbkmpaaDoor.vrs

namespace Go.Proofs.YtmjbaimccbkmpaaDoor.vrs
open Go.RowKit Go.Proofs.YtmjbaimccbkmpaaDoor.base Go.Proofs.YtmjbaimccbkmpaaDoor.tok Go.Proofs.YtmjbaimccbkmpaaDoor.rul
set_option linter.unusedVariables false

def sameN (v x : Vr) : Bool := decide (x.1 = v.1)
def cntStep (out : List Vr) (v : Vr) : List Vr :=
  if Lib.hasPrefix v.1 [45, 45] then
    (if 0 ≤ idxF (sameN v) out 0 then out.set (idxF (sameN v) out 0).toNat v else if out.length < 20 then out ++ [v] else out)
  else out
def cntP (V : List Vr) : List Vr := V.foldl cntStep []
theorem cnt_no {out : List Vr} {v : Vr} (h : Lib.hasPrefix v.1 [45, 45] = false) : cntStep out v = out := by unfold cntStep; rw [h]; rfl
theorem cnt_set {out : List Vr} {v : Vr} {i : Nat} (h : Lib.hasPrefix v.1 [45, 45] = true) (hi : idxF (sameN v) out 0 = (i : Int)) : cntStep out v = out.set i v := by
  unfold cntStep; rw [if_pos h, hi, if_pos (by omega)]; rfl
theorem cnt_add {out : List Vr} {v : Vr} (h : Lib.hasPrefix v.1 [45, 45] = true) (hi : idxF (sameN v) out 0 = -1) (hl : out.length < 20) : cntStep out v = out ++ [v] := by
  unfold cntStep; rw [if_pos h, hi, if_neg (by omega), if_pos hl]
theorem cnt_full {out : List Vr} {v : Vr} (h : Lib.hasPrefix v.1 [45, 45] = true) (hi : idxF (sameN v) out 0 = -1) (hl : ¬ out.length < 20) : cntStep out v = out := by
  unfold cntStep; rw [if_pos h, hi, if_neg (by omega), if_neg hl]
theorem idxF_is {α : Type} (p : α → Bool) : ∀ (L : List α) (i : Nat), (∃ (k : Nat) (x : α), idxF p L i = ((i + k : Nat) : Int) ∧ L[k]? = some x ∧ p x = true) ∨ (idxF p L i = -1 ∧ ∀ x ∈ L, p x = false)
  | [], i => .inr ⟨rfl, fun x hx => by cases hx⟩
  | y :: L, i => by
    rw [idxF]
    cases h : p y with
    | true => exact .inl ⟨0, y, rfl, rfl, h⟩
    | false =>
      rcases idxF_is p L (i + 1) with ⟨k, x, h1, h2, h3⟩ | ⟨h1, h2⟩
      · exact .inl ⟨k + 1, x, by simp only [Bool.false_eq_true, if_false]; rw [h1]; omega, by simpa using h2, h3⟩
      · refine .inr ⟨by simpa using h1, fun x hx => ?_⟩
        rcases List.mem_cons.1 hx with rfl | hx
        · exact h
        · exact h2 x hx
theorem cnt_len {out : List Vr} {v : Vr} (h : out.length ≤ 20) : (cntStep out v).length ≤ 20 := by
  unfold cntStep
  split
  · split
    · rw [List.length_set]; exact h
    · split
      · rw [List.length_append, List.length_singleton]; omega
      · exact h
  · exact h
theorem cntP_len (V : List Vr) : (cntP V).length ≤ 20 := by
  unfold cntP
  have key : ∀ (V out : List Vr), out.length ≤ 20 → (V.foldl cntStep out).length ≤ 20 := by
    intro V
    induction V with
    | nil => exact fun out h => h
    | cons v V ih => exact fun out h => ih _ (cnt_len h)
  exact key V [] (Nat.zero_le _)

/-! ### a row's cells are written -/
theorem owns_put {w : World} {base : Nat} {e : TypeId} {k n cap g j : Nat} {xs : List Value} (h : w.ownsRow base e k (.slice (some ⟨g, 0, none⟩) n cap) n xs) (u : Value) :
    (w.setCell ⟨g, j, none⟩ u).ownsRow base e k (.slice (some ⟨g, 0, none⟩) n cap) n (xs.set j u) := by
  obtain ⟨h1, h2⟩ := h
  refine ⟨by rw [List.length_set]; exact h1, ?_⟩
  rcases h2 with ⟨h2, _⟩ | ⟨g', cap', cur, hv, hb, hg, hc, hm, hs, ht⟩
  · cases h2
  · cases hv
    refine .inr ⟨g, cap, cur.setIfInBounds j u, rfl, hb, ?_, hc, hm, by simpa using hs, ?_⟩
    · simp [World.setCell, Array.getElem?_modify, hg]
    · rw [Array.toList_setIfInBounds, List.take_set, ht]
theorem flat_set (u : Vr) : ∀ (L : List Vr) (i : Nat), i < L.length → ((flatR vc L).set (i * 2) (.string (bs u.1))).set (i * 2 + 1) (.string (bs u.2)) = flatR vc (L.set i u)
  | [], i, h => absurd h (Nat.not_lt_zero _)
  | x :: L, 0, h => by simp [flatR, vc]
  | x :: L, i + 1, h => by
    have ih := flat_set u L i (by simpa using h)
    have e : (i + 1) * 2 = i * 2 + 2 := by omega
    rw [e, List.set_cons_succ]
    simp only [flatR, List.flatMap_cons, vc, List.cons_append, List.nil_append, List.set_cons_succ] at ih ⊢
    exact congrArg (fun z => Value.string (bs x.1) :: Value.string (bs x.2) :: z) ih
theorem flat_snoc (L : List Vr) (u : Vr) : flatR vc L ++ [.string (bs u.1), .string (bs u.2)] = flatR vc (L ++ [u]) := by simp [flatR, vc]
theorem infoV : (Tryd.prog.info? 26).map (fun i => (i.zero, i.size, i.bytes)) = some (some (.agg #[.string .empty, .string .empty]), 2, 32) := by kernel_rfl

theorem same_ct (x v : Vr) (b : Nat) (t : TypeId) (w : World) (hB : Blk w b t #[.string (bs v.1), .string (bs v.2)]) :
    Calls Tryd.prog 38 #[.agg #[.string (bs x.1), .string (bs x.2)], .pointer (some ⟨b, 0, none⟩)] w fun e w' => e = .returned (.bool (sameN v x)) ∧ Below w.heap.size w w' := by
  have c0 := (hB.alloc (.cells #[.string (bs x.1), .string (bs x.2)] 26)).cell
  have hb := Lib.hid (show Below w.heap.size w (w.alloc (.cells #[.string (bs x.1), .string (bs x.2)] 26)) from (Below.refl _ _).alloc (Nat.le_refl _) _)
  have h2 : ((bs x.1).toList == (bs v.1).toList) = sameN v x := by
    unfold sameN
    rw [bs_toList, bs_toList]
    by_cases h : x.1 = v.1 <;> simp [h]
  generalize sameN v x = c at *
  clear hB
  cases c
  · go_enter Tryd.func38, Tryd.ntmps38
    go_wp2_with fail
    go_ret
    exact ⟨rfl, hb.out⟩
  · go_enter Tryd.func38, Tryd.ntmps38
    go_wp2_with fail
    go_ret
    exact ⟨rfl, hb.out⟩

theorem row_vrd {w : World} {base n : Nat} {v : Value} {L : List Vr} (hn : L.length = n) (h : w.ownsRow base 26 2 v n (flatR vc L)) : ∃ A cap, v = .slice A n cap ∧ n ≤ cap ∧ VRd w w.heap.size A n L := row_rd (fun _ => rfl) hn h
theorem row_cells {w : World} {base n cap k : Nat} {a : Option Addr} {L : List Vr} {y : Vr} (h : w.ownsRow base 26 2 (.slice a n cap) n (flatR vc L)) (hn : L.length = n) (hy : L[k]? = some y) :
    ∃ g cur, a = some ⟨g, 0, none⟩ ∧ base ≤ g ∧ Blk w g 26 cur ∧ cur[k * 2]? = some (.string (bs y.1)) ∧ cur[k * 2 + 1]? = some (.string (bs y.2)) := by
  have hk : k < L.length := (List.getElem?_eq_some_iff.1 hy).1
  rcases h.2 with ⟨hv, hz⟩ | ⟨g, cap', cur, hv, hb, hg, hc, hm, hs, ht⟩
  · omega
  · cases hv
    obtain ⟨A, c, he, hc2, hr⟩ := row_vrd hn h
    injection he with h1 h2 h3
    subst h1 h3
    obtain ⟨b, off, p, hA, hlt, hd, c0, c1⟩ := VRd.var hr (k := k) (by omega)
    cases hA
    obtain rfl : y = p := Option.some.inj (hy.symm.trans hd)
    have hB : Blk w g 26 cur := hg
    simp only [Nat.zero_add] at c0 c1
    exact ⟨g, cur, rfl, hb, hB, (hB.cell _).symm.trans c0, (hB.cell _).symm.trans c1⟩
def CntRel (w : World) (V R : List Vr) (v x : Value) (wr : World) : Prop :=
  ∃ (i : Nat) (out : List Vr), i ≤ V.length ∧ x = .int .i64 i ∧ out.length ≤ 20 ∧ (V.drop i).foldl cntStep out = R ∧ wr.ownsRow w.heap.size 26 2 v out.length (flatR vc out) ∧ Below w.heap.size w wr
theorem cnt_next {V : List Vr} {i : Nat} {v : Vr} (h : V[i]? = some v) {out R : List Vr} (hR : (V.drop i).foldl cntStep out = R) : (V.drop (i + 1)).foldl cntStep (cntStep out v) = R := by
  obtain ⟨hl, he⟩ := List.getElem?_eq_some_iff.1 h
  rw [List.drop_eq_getElem_cons hl, he] at hR
  exact hR

set_option maxRecDepth 100000 in
set_option maxHeartbeats 8000000 in
theorem counted_ct (A : Option Addr) (cap : Nat) (V : List Vr) (hn : V.length ≤ 1000000) (w : World) (hI : VRd w w.heap.size A V.length V) :
    Calls Tryd.prog 19 #[.slice A V.length cap] w fun e w' => (∃ A' cap', e = .returned (.slice A' (cntP V).length cap') ∧ (cntP V).length ≤ cap' ∧ VRd w' w'.heap.size A' (cntP V).length (cntP V)) ∧ Below w.heap.size w w' := by
  obtain ⟨i0, hi, hz0, hz1, hz2⟩ := info_parts infoV
  have Hz0 := Lib.hid hz0
  have Hi := Lib.hid hi
  have Hz1 := Lib.hid hz1
  have Hz2 := Lib.hid hz2
  clear hz0 hi hz1 hz2
  have HI := Lib.hid hI
  have HR := Lib.hid (show V.foldl cntStep [] = cntP V from rfl)
  clear hI
  generalize cntP V = R at *
  go_enter Tryd.func19, Tryd.ntmps19
  go_wp2_with fail
  go_loopw [3, 9] (fun v x wr => CntRel w V R v x wr) (fun _ x _ => V.length - (intOf x).toNat)
  case atStart => exact ⟨0, [], Nat.zero_le _, rfl, Nat.zero_le _, HR.out, World.ownsRow_nil _ _ _ _, Below.refl _ _⟩
  case round =>
    obtain ⟨i, out, hil, rfl, hol, hinv, hrow, hbel⟩ := hrel
    have HInv := Lib.hid hinv
    have HRow := Lib.hid hrow
    have HBl := Lib.hid hbel
    obtain ⟨av, cp, rfl⟩ := row_form hrow
    clear hinv hrow HR
    by_cases hlt : i < V.length
    · have hlt' : (i : Int) < (V.length : Int) := by omega
      obtain ⟨b, off, x, rfl, hbb, hd, c0, c1⟩ := VRd.var (HI.out.keep hbel hbel.size) hlt
      have HNew := Lib.hid (cnt_next hd HInv.out)
      have HB1 := Lib.hid (HBl.out.alloc HBl.out.size (.cells #[.string (bs x.1), .string (bs x.2)] 26))
      have HRow1 := Lib.hid (HRow.out.alloc (.cells #[.string (bs x.1), .string (bs x.2)] 26))
      have HX := Lib.hid (Blk.new (w := wr) (t := 26) (cs := #[.string (bs x.1), .string (bs x.2)]) rfl)
      have cI := Lib.hid (show Calls Tryd.prog 37 #[.slice av out.length cp, .func (.func 38) #[] #[.pointer (some ⟨wr.heap.size, 0, none⟩)]] (wr.alloc (.cells #[.string (bs x.1), .string (bs x.2)] 26)) fun e w' => e = .returned (.int .i64 (idxF (sameN x) out 0)) ∧ Below (wr.alloc (.cells #[.string (bs x.1), .string (bs x.2)] 26)).heap.size (wr.alloc (.cells #[.string (bs x.1), .string (bs x.2)] 26)) w' from by
        obtain ⟨A', c', he, hc', hg⟩ := row_vrd rfl HRow1.out
        injection he with h1 h2 h3
        subst h1 h3
        refine vIdx_ct (sameN x) 38 _ (fun args w => by kernel_rfl) av cp out (by omega) _ hg (fun W y hy hW => ?_)
        exact (same_ct y x wr.heap.size _ W (HX.out.below hW (by simp))).mono fun e w' h => ⟨h.1, hW.trans (h.2.mono hW.size)⟩)
      have cP := Lib.hid (fun (W : World) => (show Calls Tryd.prog 39 #[.string (bs x.1), .string ⟨#[45, 45]⟩] W fun e w' => e = .returned (.bool (Lib.hasPrefix x.1 [45, 45])) ∧ W = w' from (Tryd.strings_HasPrefix (bs x.1) ⟨#[45, 45]⟩ W).mono fun e w' h => ⟨h.1, h.2.symm⟩))
      have hidx := idxF_is (sameN x) out 0
      have hol2 : (out.length : Int) ≤ 20 := by omega
      generalize hJ : idxF (sameN x) out 0 = J at *
      obtain ⟨xn, xv⟩ := x
      simp only at c0 c1 HB1 HRow1 HX cI cP
      clear hbel hd
      cases hp : Lib.hasPrefix xn [45, 45]
      · rw [hp] at cP
        have HN := Lib.hid ((cnt_no (out := out) (v := (xn, xv)) hp) ▸ HNew.out)
        clear hidx hp hJ
        go_wp2_with (first
          | (go_at_call 37; (with_reducible refine (cI.out).mono ?_); rintro e W2 ⟨rfl, hb2⟩; have HB2 := Lib.hid (HB1.out.trans (hb2.mono HB1.out.size)); have HRow2 := Lib.hid (row_on HRow1.out hb2); have cX := (HX.out.below hb2 (by simp)).cell; clear hb2 c0 c1) | (go_at_call 39; (with_reducible refine (cP.out _).mono ?_); rintro e W3 ⟨rfl, rfl⟩))
        go_roundw
        case rel => exact ⟨i + 1, out, by omega, by go_num, hol, HN.out, HRow2.out, HB2.out⟩
        case measure => simp [intOf]; omega
      · rw [hp] at cP
        rcases hidx with ⟨k, y, h1, h2, h3⟩ | ⟨h1, h2⟩
        · rw [Nat.zero_add] at h1
          subst h1
          have hk : k < out.length := (List.getElem?_eq_some_iff.1 h2).1
          have hk' : (k : Int) < (out.length : Int) := by omega
          have HN := Lib.hid ((cnt_set (out := out) (v := (xn, xv)) hp hJ) ▸ HNew.out)
          have HY := Lib.hid h2
          clear hp hJ h2 h3
          obtain ⟨g, cur0, rfl, hg, hBg0, hu0, hu1⟩ := row_cells HRow1.out rfl HY.out
          clear hBg0 hu0 hu1
          go_upto_region 8 with (first
          | (go_at_call 37; (with_reducible refine (cI.out).mono ?_); rintro e W2 ⟨rfl, hb2⟩; have HB2 := Lib.hid (HB1.out.trans (hb2.mono HB1.out.size)); have HRow2 := Lib.hid (row_on HRow1.out hb2); have cX := (HX.out.below hb2 (by simp)).cell; clear hb2 c0 c1) | (go_at_call 39; (with_reducible refine (cP.out _).mono ?_); rintro e W3 ⟨rfl, rfl⟩))
          obtain ⟨g', cur, he, hg2, hBg, hu0, hu1⟩ := row_cells HRow2.out rfl HY.out
          cases he
          have d0 := (hBg.cell (k * 2)).trans hu0
          have d1 := (hBg.cell (k * 2 + 1)).trans hu1
          have f0 := hBg.frozen
          go_wp2_with fail
          go_roundw
          case rel =>
            refine ⟨i + 1, out.set k (xn, xv), by omega, by go_num, by rw [List.length_set]; exact hol, HN.out, ?_, (HB2.out.setCell (by simp; omega) _).setCell (by simp; omega) _⟩
            rw [List.length_set, ← flat_set (xn, xv) out k hk]
            exact owns_put (owns_put HRow2.out _) _
          case measure => simp [intOf]; omega
        · subst h1
          by_cases h20 : out.length < 20
          · have h20' : (out.length : Int) < 20 := by omega
            have HN := Lib.hid ((cnt_add (out := out) (v := (xn, xv)) hp hJ h20) ▸ HNew.out)
            clear hp hJ h2
            go_wp2_with (first
              | (go_at_call 37; (with_reducible refine (cI.out).mono ?_); rintro e W2 ⟨rfl, hb2⟩; have HB2 := Lib.hid (HB1.out.trans (hb2.mono HB1.out.size)); have HRow2 := Lib.hid (row_on HRow1.out hb2); have cX := (HX.out.below hb2 (by simp)).cell; clear hb2 c0 c1) | (go_at_call 39; (with_reducible refine (cP.out _).mono ?_); rintro e W3 ⟨rfl, rfl⟩)
              | (at_builtin; refine wpList_append_own _ rfl _ _ 27 rfl w.heap.size 26 i0 (.agg #[.string .empty, .string .empty]) 2 32 Tryd.underlying27 Hi.out Hz0.out Hz1.out Hz2.out rfl (by decide) _ _ _ rfl (HRow2.out.alloc _) ⟨W2.heap.size, 0, none⟩ 1 1 [.string (bs xn), .string (bs xv)] rfl rfl ?c1 ?c2 ?c3 ?c4 ?c5 ?_))
            case c1 => exact (Blk.new (w := W2) (t := 26) (cs := #[.string (bs xn), .string (bs xv)]) rfl).news
            case c2 => simp [Value.oneCell']
            case c3 => unfold maxLen; omega
            case c4 => omega
            case c5 => have := HB2.out.size; simp; omega
            intro v' w4 hown4 hgrow4 hnil4
            have HB4 := Lib.hid (below_app (HB2.out.alloc HB2.out.size _) hgrow4 (HRow2.out.alloc _) (Nat.le_refl _) (by have := HB2.out.size; simp; omega))
            obtain ⟨g', cap', rfl⟩ := row_form hown4
            rw [show flatR vc out ++ [Value.string (bs xn), Value.string (bs xv)] = flatR vc (out ++ [(xn, xv)]) from flat_snoc out (xn, xv)] at hown4
            replace hown4 := Lib.hid hown4
            clear hgrow4 hnil4
            go_wp2
            go_roundw
            case rel => exact ⟨i + 1, out ++ [(xn, xv)], by omega, by go_num, by simp; omega, HN.out, by simpa using hown4.out, HB4.out⟩
            case measure => simp [intOf]; omega
          · have h20' : ¬ (out.length : Int) < 20 := by omega
            have HN := Lib.hid ((cnt_full (out := out) (v := (xn, xv)) hp hJ h20) ▸ HNew.out)
            clear hp hJ h2
            go_wp2_with (first
              | (go_at_call 37; (with_reducible refine (cI.out).mono ?_); rintro e W2 ⟨rfl, hb2⟩; have HB2 := Lib.hid (HB1.out.trans (hb2.mono HB1.out.size)); have HRow2 := Lib.hid (row_on HRow1.out hb2); have cX := (HX.out.below hb2 (by simp)).cell; clear hb2 c0 c1) | (go_at_call 39; (with_reducible refine (cP.out _).mono ?_); rintro e W3 ⟨rfl, rfl⟩))
            go_roundw
            case rel => exact ⟨i + 1, out, by omega, by go_num, hol, HN.out, HRow2.out, HB2.out⟩
            case measure => simp [intOf]; omega
    · obtain rfl : i = V.length := by omega
      have HFin := Lib.hid (show out = R by rw [← HInv.out, List.drop_length]; rfl)
      clear hbel
      go_wp2_with fail
      go_ret
      obtain rfl := HFin.out
      refine ⟨?_, HBl.out⟩
      obtain ⟨A, c, he, hc, hg⟩ := row_vrd rfl HRow.out
      injection he with h1 h2 h3
      subst h1 h3
      exact ⟨av, cp, rfl, hc, hg⟩

end Go.Proofs.YtmjbaimccbkmpaaDoor.vrs

namespace Go.Proofs.YtmjbaimccbkmpaaDoor.vrs
open Go.RowKit Go.Proofs.YtmjbaimccbkmpaaDoor.base Go.Proofs.YtmjbaimccbkmpaaDoor.tok Go.Proofs.YtmjbaimccbkmpaaDoor.rul
set_option linter.unusedVariables false

def QRow (w : World) (base : Nat) (v : Value) (T : List Bs) : Prop :=
  ∃ g o cap cur, v = .slice (some ⟨g, o, none⟩) T.length cap ∧ base ≤ g ∧ w.heap[g]? = some (.cells cur 9 (0, 0)) ∧ T.length ≤ cap ∧ cap ≤ maxLen ∧ (0 < cap → o + cap ≤ cur.size) ∧ (cur.toList.drop o).take T.length = T.map strV

theorem QRow.kept {w w' : World} {base : Nat} {v : Value} {T : List Bs} {row : Option Nat} (h : QRow w base v T) (hg : w.grownBy w' row) (hne : v.ownBlock ≠ row) : QRow w' base v T := by
  obtain ⟨g, o, cap, cur, rfl, hb, hgg, rest⟩ := h
  refine ⟨g, o, cap, cur, rfl, hb, ?_, rest⟩
  rw [hg.block g (Array.getElem?_eq_some_iff.1 hgg).1 hne]
  exact hgg
theorem QRow.on {w w' : World} {base : Nat} {v : Value} {T : List Bs} (h : QRow w base v T) (hb : Below w.heap.size w w') : QRow w' base v T :=
  h.kept (grown_of_below hb none) (by obtain ⟨g, o, cap, cur, rfl, _⟩ := h; simp [Value.ownBlock])
theorem QRow.alloc {w : World} {base : Nat} {v : Value} {T : List Bs} (h : QRow w base v T) (o : Obj) : QRow (w.alloc o) base v T :=
  h.kept (World.grownBy_alloc w o none) (by obtain ⟨g, o, cap, cur, rfl, _⟩ := h; simp [Value.ownBlock])
theorem QRow.own {w : World} {base : Nat} {v : Value} {T : List Bs} (h : QRow w base v T) : ∃ g, v.ownBlock = some g ∧ base ≤ g ∧ g < w.heap.size := by
  obtain ⟨g, o, cap, cur, rfl, hb, hgg, _⟩ := h
  exact ⟨g, rfl, hb, (Array.getElem?_eq_some_iff.1 hgg).1⟩
theorem QRow.form {w : World} {base : Nat} {v : Value} {T : List Bs} (h : QRow w base v T) : ∃ g o cap, v = .slice (some ⟨g, o, none⟩) T.length cap ∧ base ≤ g ∧ g < w.heap.size ∧ T.length ≤ cap := by
  obtain ⟨g, o, cap, cur, rfl, hb, hgg, hc, _⟩ := h
  exact ⟨g, o, cap, rfl, hb, (Array.getElem?_eq_some_iff.1 hgg).1, hc⟩
theorem QRow.new {w : World} {base : Nat} (hb : base ≤ w.heap.size) (x : Bs) : QRow (w.alloc (.cells #[.string (bs x)] 9)) base (.slice (some ⟨w.heap.size, 0, none⟩) 1 1) [x] :=
  ⟨w.heap.size, 0, 1, _, rfl, hb, heap_alloc_new w _, Nat.le_refl _, by unfold maxLen; omega, fun _ => Nat.le_refl _, rfl⟩
theorem take_one {cur : List Value} {o n : Nat} {x : Value} {T : List Value} (h : (cur.drop o).take (n + 1) = x :: T) : cur[o]? = some x ∧ (cur.drop (o + 1)).take n = T := by
  cases e : cur.drop o with
  | nil => rw [e] at h; cases h
  | cons y r =>
    rw [e, List.take_succ_cons] at h
    injection h with h1 h2
    subst h1
    have h3 : cur.drop (o + 1) = r := by rw [← List.drop_drop, e]; rfl
    refine ⟨?_, by rw [h3]; exact h2⟩
    have := congrArg (fun l => l[0]?) e
    simpa using this
theorem QRow.pop {w : World} {base cap : Nat} {A : Option Addr} {n : Nat} {x : Bs} {T : List Bs} (h : QRow w base (.slice A n cap) (x :: T)) :
    n = T.length + 1 ∧ T.length + 1 ≤ cap ∧ ∃ g o, A = some ⟨g, o, none⟩ ∧ g < w.heap.size ∧ w.cell? ⟨g, o, none⟩ = some (.string (bs x)) ∧ QRow w base (.slice (addrAt 1 A cap 1) T.length (cap - 1)) T := by
  obtain ⟨g, o, cap', cur, hv, hb, hgg, hc, hm, hf, ht⟩ := h
  injection hv with h1 h2 h3
  subst h1 h2 h3
  have hc' : T.length + 1 ≤ cap := hc
  obtain ⟨t1, t2⟩ := take_one (x := strV x) (T := T.map strV) (n := T.length) (by simpa using ht)
  refine ⟨rfl, hc', g, o, rfl, (Array.getElem?_eq_some_iff.1 hgg).1, ?_, ?_⟩
  · rw [cell_of_row w g o cur 9 (0, 0) hgg]
    simpa using t1
  · by_cases h1 : cap = 1
    · subst h1
      have h0 : T.length = 0 := by omega
      obtain rfl := List.eq_nil_of_length_eq_zero h0
      exact ⟨g, o, 0, cur, by simp [addrAt], hb, hgg, Nat.le_refl _, by omega, fun h => absurd h (Nat.lt_irrefl _), by simp⟩
    · refine ⟨g, o + 1, cap - 1, cur, ?_, hb, hgg, by omega, by omega, fun h => by have := hf (by omega); omega, t2⟩
      have e : (⟨g, o, none⟩ : Addr).add 1 = ⟨g, o + 1, none⟩ := by unfold Addr.add; split <;> simp_all
      simp [addrAt, h1, e]

theorem run_append_queue {P : Program} (w : World) (base : Nat) (t ty : TypeId) (i : TypeInfo) (ht : P.underlying t = some (.slice 9)) (hi : P.info? 9 = some i) (hz : i.zero = some (.string .empty))
    (hsize : i.size = 1) (hby : i.bytes = 16) (v : Value) (T : List Bs) (hown : QRow w base v T) (a : Addr) (c : Nat) (x : Bs) (hnew : w.cell? a = some (.string (bs x))) (hn : T.length ≤ 100000000) (hbase : base ≤ w.heap.size) :
    ∃ v' w', (Builtin.append_ #[t, t] ty #[v, .slice (some a) 1 c]).run P w = .ok v' w' ∧ QRow w' base v' (T ++ [x]) ∧ w.grownBy w' v.ownBlock ∧ (v'.ownBlock = v.ownBlock ∨ v'.ownBlock = some w.heap.size) := by
  obtain ⟨g, o, cap, cur, rfl, hb, hgg, hc, hm, hf, htk⟩ := hown
  have hnews : ∀ j u, [Value.string (bs x)][j]? = some u → w.cell? (a.add j) = some u := by
    intro j u hj
    cases j with
    | zero =>
      have e : a.add 0 = a := by unfold Addr.add; split <;> simp_all
      rw [e]
      simpa using hnew.trans (by simpa using hj)
    | succ j => simp at hj
  have h1 : ∀ u ∈ [Value.string (bs x)], u.oneCell' = true := by simp [Value.oneCell']
  by_cases hroom : T.length + 1 ≤ cap
  · have hfit := hf (by omega)
    have hff := run_firstCells_some (P := P) w i.size 1 a 1 c [.string (bs x)] (by rw [hsize]; rfl) hnews
    have hst := run_storeCells_at P g (o + T.length) 9 [.string (bs x)] 0 cur w hgg (by simp; omega) h1
    simp only [Nat.add_zero] at hst
    have hr : (Builtin.append_ #[t, t] ty #[.slice (some ⟨g, o, none⟩) T.length cap, .slice (some a) 1 c]).run P w = .ok (.slice (some ⟨g, o, none⟩) (T.length + 1) cap) (w.setRow g (cur.toList.take (o + T.length) ++ [Value.string (bs x)] ++ cur.toList.drop (o + T.length + 1)).toArray) := by
      simp only [List.length_singleton] at hst
      rw [hsize] at hff
      simp [Builtin.append_, run_underlying ht, sizeOf, typeInfo, hi, Builtin.lenOf, hroom, hsize, hff, Addr.add_lit, hst]
    have hlen : (cur.toList.take (o + T.length)).length = o + T.length := by simp; omega
    refine ⟨_, _, hr, ⟨g, o, cap, _, by simp, hb, setRow_heap w g cur _ _ _ hgg, by simpa using hroom, hm, fun _ => ?_, ?_⟩, ⟨rfl, rfl, rfl, by simp, fun k _ hk => setRow_other w g k _ (fun e => hk (by simp [Value.ownBlock, e]))⟩, .inl rfl⟩
    · simp; omega
    · have e1 : ((cur.toList.take (o + T.length) ++ [Value.string (bs x)] ++ cur.toList.drop (o + T.length + 1)).toArray.toList.drop o) = (cur.toList.take (o + T.length)).drop o ++ ([Value.string (bs x)] ++ cur.toList.drop (o + T.length + 1)) := by
        rw [List.append_assoc]
        simp only []
        rw [List.drop_append_of_le_length (by omega)]
      have e2 : (cur.toList.take (o + T.length)).drop o = T.map strV := by rw [← htk, List.drop_take]; congr 1; omega
      rw [e1, e2]
      simp [List.take_append, List.take_of_length_le]
  · have hl : (T.map strV).length = T.length * i.size := by rw [hsize]; simp
    have hold : ∀ j u, (T.map strV)[j]? = some u → w.cell? ((⟨g, o, none⟩ : Addr).add j) = some u := by
      intro j u hj
      have e : (⟨g, o, none⟩ : Addr).add j = ⟨g, o + j, none⟩ := by unfold Addr.add; split <;> simp_all
      rw [e, cell_of_row w g (o + j) cur 9 (0, 0) hgg]
      rw [← htk, List.getElem?_take] at hj
      split at hj
      · simpa using hj
      · cases hj
    have hcap : cap < T.length + 1 := by omega
    have hr := run_append_grow (P := P) w t ty 9 i (.string .empty) ht hi hz ⟨g, o, none⟩ T.length cap (T.map strV) hl hold a 1 c [.string (bs x)] (by rw [hsize]; rfl) hnews (by omega) (by omega) (growslice_fits (by omega) (by rw [hby]; omega))
    have hge := grownCap_ge w (T.length + 1) cap 9
    have hcm := grownCap_le_maxLen w (T.length + 1) cap 9 (by unfold maxLen; omega)
    refine ⟨_, _, hr, ⟨w.heap.size, 0, _, _, by simp, hbase, heap_alloc_new w.drew _, by simpa using hge, hcm, fun _ => ?_, ?_⟩, ⟨rfl, rfl, rfl, by simp, fun k hk _ => (World.grownBy_alloc w.drew _ none).block k hk (by simp)⟩, .inr rfl⟩
    · simp [size_zeroCells, Value.cells]
      omega
    · simp [List.take_append, List.take_of_length_le]

theorem wpList_append_queue {P : Program} (w : World) {ops : Array Oper} {rest : List Oper} {o : Oper} {a : Act} {Q : Exit → Act → World → Prop} (hgd : o.guard = none) (s x : Operand) (t : TypeId)
    (ho : o.op = .call { callee := .builtin .append, args := #[s, x], argTypes := #[t, t] }) (base : Nat) (i : TypeInfo) (ht : P.underlying t = some (.slice 9)) (hi : P.info? 9 = some i) (hz : i.zero = some (.string .empty))
    (hsize : i.size = 1) (hby : i.bytes = 16) (v : Value) (T : List Bs) (hs : a.eval s = v) (hown : QRow w base v T) (ad : Addr) (c : Nat) (y : Bs) (hx : a.eval x = .slice (some ad) 1 c) (hnew : w.cell? ad = some (.string (bs y))) (hn : T.length ≤ 100000000) (hbase : base ≤ w.heap.size)
    (h : ∀ v' w', QRow w' base v' (T ++ [y]) → w.grownBy w' v.ownBlock → (v'.ownBlock = v.ownBlock ∨ v'.ownBlock = some w.heap.size) → wpList P ops Q rest (a.put o.dst v') w') : wpList P ops Q (o :: rest) a w := by
  refine wpList_plain hgd fun K hK => ?_
  obtain ⟨v', w', hr, h2, h3, h4⟩ := run_append_queue (P := P) w base t o.type i ht hi hz hsize hby v T hown ad c y hnew hn hbase
  unfold Oper.wp execOp
  simp only [ho, resolve, invoke, builtin, Sem.run_bind, Sem.run_pure, Result.andThen_ok, List.map_toArray, List.map_cons, List.map_nil, hs, hx, hr]
  exact hK _ _ (h v' w' h2 h3 h4)

end Go.Proofs.YtmjbaimccbkmpaaDoor.vrs

namespace Go.Proofs.YtmjbaimccbkmpaaDoor.vrs
open Go.RowKit Go.Maps Go.Proofs.YtmjbaimccbkmpaaDoor.base Go.Proofs.YtmjbaimccbkmpaaDoor.tok Go.Proofs.YtmjbaimccbkmpaaDoor.rul
set_option linter.unusedVariables false

/-! ### what hangs on what -/
def valP (V : List Vr) (a : Bs) : Bs := (lastP V a).getD []
def Stp (V : List Vr) (a b : Bs) : Prop := b ∈ onP (valP V a)
def Rch (V : List Vr) (a b : Bs) : Prop := ∀ C : Bs → Prop, (∀ x, Stp V a x → C x) → (∀ x y, C x → Stp V x y → C y) → C b
def Ring (V : List Vr) (n : Bs) : Prop := Rch V n n
theorem Rch.one {V : List Vr} {a b : Bs} (h : Stp V a b) : Rch V a b := fun C h1 _ => h1 b h
theorem Rch.step {V : List Vr} {a b c : Bs} (h : Rch V a b) (h2 : Stp V b c) : Rch V a c := fun C h1 h3 => h3 b c (h C h1 h3) h2
def RInv (V : List Vr) (n : Bs) (S T : List Bs) (X : Bs → Prop) : Prop :=
  (∀ x ∈ S, Rch V n x) ∧ (∀ x ∈ T, x = n ∨ Rch V n x) ∧ n ∉ S ∧ ∀ a, a = n ∨ a ∈ S → a ∈ T ∨ X a ∨ ∀ b, Stp V a b → b ∈ S
theorem RInv.start (V : List Vr) (n : Bs) : RInv V n [] [n] (fun _ => False) :=
  ⟨fun x h => (List.not_mem_nil h).elim, fun x h => .inl (List.mem_singleton.1 h), fun h => (List.not_mem_nil h).elim, fun a h => .inl (by rcases h with rfl | h; exact List.mem_singleton.2 rfl; exact (List.not_mem_nil h).elim)⟩
theorem RInv.pop {V : List Vr} {n at_ : Bs} {S T : List Bs} (h : RInv V n S (at_ :: T) (fun _ => False)) : RInv V n S T (fun a => a = at_) ∧ (at_ = n ∨ Rch V n at_) := by
  obtain ⟨h1, h2, h3, h4⟩ := h
  refine ⟨⟨h1, fun x hx => h2 x (List.mem_cons_of_mem _ hx), h3, fun a ha => ?_⟩, h2 at_ (List.mem_cons_self ..)⟩
  rcases h4 a ha with h | h | h
  · rcases List.mem_cons.1 h with h | h
    · exact .inr (.inl h)
    · exact .inl h
  · exact h.elim
  · exact .inr (.inr h)
theorem RInv.add {V : List Vr} {n at_ x : Bs} {S T : List Bs} {X : Bs → Prop} (h : RInv V n S T X) (hat : at_ = n ∨ Rch V n at_) (hs : Stp V at_ x) (hn : x ≠ n) : RInv V n (x :: S) (T ++ [x]) X := by
  obtain ⟨h1, h2, h3, h4⟩ := h
  have hx : Rch V n x := by
    rcases hat with rfl | hat
    · exact Rch.one hs
    · exact hat.step hs
  refine ⟨fun y hy => ?_, fun y hy => ?_, fun hy => ?_, fun a ha => ?_⟩
  · rcases List.mem_cons.1 hy with rfl | hy
    · exact hx
    · exact h1 y hy
  · rcases List.mem_append.1 hy with hy | hy
    · exact h2 y hy
    · exact .inr ((List.mem_singleton.1 hy) ▸ hx)
  · rcases List.mem_cons.1 hy with hy | hy
    · exact hn hy.symm
    · exact h3 hy
  · have ha' : a = x ∨ (a = n ∨ a ∈ S) := by
      rcases ha with ha | ha
      · exact .inr (.inl ha)
      · rcases List.mem_cons.1 ha with ha | ha
        · exact .inl ha
        · exact .inr (.inr ha)
    rcases ha' with rfl | ha
    · exact .inl (List.mem_append.2 (.inr (List.mem_singleton.2 rfl)))
    · rcases h4 a ha with h | h | h
      · exact .inl (List.mem_append.2 (.inl h))
      · exact .inr (.inl h)
      · exact .inr (.inr fun b hb => List.mem_cons_of_mem _ (h b hb))
theorem RInv.done {V : List Vr} {n at_ : Bs} {S T : List Bs} (h : RInv V n S T (fun a => a = at_)) (hb : ∀ b, Stp V at_ b → b ∈ S) : RInv V n S T (fun _ => False) := by
  obtain ⟨h1, h2, h3, h4⟩ := h
  refine ⟨h1, h2, h3, fun a ha => ?_⟩
  rcases h4 a ha with h | h | h
  · exact .inl h
  · subst h
    exact .inr (.inr hb)
  · exact .inr (.inr h)
theorem RInv.none {V : List Vr} {n : Bs} {S : List Bs} (h : RInv V n S [] (fun _ => False)) : ¬ Ring V n := fun hr => by
  obtain ⟨h1, h2, h3, h4⟩ := h
  have key : ∀ a, a = n ∨ a ∈ S → ∀ b, Stp V a b → b ∈ S := fun a ha => by
    rcases h4 a ha with h | h | h
    · cases h
    · exact h.elim
    · exact h
  exact h3 (hr (fun x => x ∈ S) (key n (.inl rfl)) (fun x y hx hxy => key x (.inr hx) y hxy))
theorem ring_of {V : List Vr} {n at_ : Bs} (hat : at_ = n ∨ Rch V n at_) (hs : Stp V at_ n) : Ring V n := by
  rcases hat with rfl | hat
  · exact Rch.one hs
  · exact hat.step hs

/-- all names on which any value hangs -/
def allOn (V : List Vr) : List Bs := V.flatMap fun p => onP p.2
theorem last_mem {V : List Vr} {a v : Bs} (h : lastP V a = some v) : (a, v) ∈ V := by
  unfold lastP at h
  obtain ⟨p, hp, rfl⟩ := Option.map_eq_some_iff.1 h
  have h1 := List.mem_reverse.1 (List.mem_of_find?_eq_some hp)
  have h2 := List.find?_some hp
  rw [decide_eq_true_eq] at h2
  subst h2
  exact h1
theorem on_nil : onP [] = [] := by unfold onP; rw [cutP_nil]; rfl
theorem stp_all {V : List Vr} {a b : Bs} (h : Stp V a b) : b ∈ allOn V := by
  unfold Stp valP at h
  cases e : lastP V a with
  | none =>
    rw [e] at h
    exact absurd (show b ∈ onP [] from h) (by rw [on_nil]; simp)
  | some v =>
    rw [e] at h
    exact List.mem_flatMap.2 ⟨(a, v), last_mem e, h⟩
/-- the names that were not seen -/
def rest (U S : List Bs) : Nat := (U.filter fun x => !decide (x ∈ S)).length
theorem rest_le (U S : List Bs) : rest U S ≤ U.length := List.length_filter_le _ _
theorem rest_add {U S : List Bs} {x : Bs} (h : x ∈ U) (hn : x ∉ S) : rest U (x :: S) + 1 ≤ rest U S := by
  unfold rest
  have key : ∀ U : List Bs, (U.filter fun y => !decide (y ∈ x :: S)).length ≤ (U.filter fun y => !decide (y ∈ S)).length := by
    intro U
    induction U with
    | nil => exact Nat.le_refl _
    | cons y U ih =>
      rw [List.filter_cons, List.filter_cons]
      by_cases h1 : y ∈ S
      · rw [decide_eq_true h1, decide_eq_true (List.mem_cons_of_mem _ h1)]
        exact ih
      · rw [decide_eq_false h1]
        by_cases h2 : y ∈ x :: S
        · rw [decide_eq_true h2]
          simp only [Bool.not_true, Bool.false_eq_true, if_false, Bool.not_false, if_true, List.length_cons]
          omega
        · rw [decide_eq_false h2]
          simp only [Bool.not_false, if_true, List.length_cons]
          omega
  induction U with
  | nil => cases h
  | cons y U ih =>
    rw [List.filter_cons, List.filter_cons]
    rcases List.mem_cons.1 h with rfl | h
    · rw [decide_eq_false hn, decide_eq_true (List.mem_cons_self ..)]
      simp only [Bool.not_true, Bool.false_eq_true, if_false, Bool.not_false, if_true, List.length_cons]
      have := key U
      omega
    · have ih := ih h
      by_cases h1 : y ∈ S
      · rw [decide_eq_true h1, decide_eq_true (List.mem_cons_of_mem _ h1)]
        exact ih
      · rw [decide_eq_false h1]
        by_cases h2 : y ∈ x :: S
        · rw [decide_eq_true h2]
          simp only [Bool.not_true, Bool.false_eq_true, if_false, Bool.not_false, if_true, List.length_cons]
          omega
        · rw [decide_eq_false h2]
          simp only [Bool.not_false, if_true, List.length_cons]
          omega

/-! ### the set -/
def RS (v : Value) : Option (DataW Unit × List MemPlace) := match v with
  | .agg cs => if cs.size = 0 then some (.lit (.bool true), []) else none
  | _ => none
theorem RS_inv {v : Value} {z : DataW Unit × List MemPlace} (h : RS v = some z) : v = .agg #[] := by
  unfold RS at h
  split at h
  · split at h
    · rename_i cs hc
      obtain rfl : cs = #[] := Array.eq_empty_of_size_eq_zero hc
      rfl
    · cases h
  · cases h
def Seen (w : World) (b n : Nat) (S : List Bs) : Prop := ∃ D : DataW Unit, w.ownsMap Tryd.prog 9 RS b n D ∧ ∀ x : Bs, has D (.string x) = decide (x ∈ S)
theorem lawS : Keyed Tryd.prog 9 := string_keyed Tryd.underlying9
theorem keyS {x : Bs} (h : x.length ≤ maxLen) : keyOf Tryd.prog 9 (.string (bs x)) = some (.string x) := Go.WideMaps.keyOf_string_mk Tryd.underlying9 (by rw [bs_size]; exact h)
theorem Seen.new (w : World) : Seen (w.alloc (.map #[] 0)) w.heap.size 0 [] := ⟨_, World.ownsMap_made w Tryd.prog 9 RS, fun x => rfl⟩
theorem Seen.kept {w w' : World} {b n : Nat} {S : List Bs} {row : Option Nat} (h : Seen w b n S) (hg : w.grownBy w' row) (hne : some b ≠ row) : Seen w' b n S := by
  obtain ⟨D, h1, h2⟩ := h
  exact ⟨D, h1.kept hg hne, h2⟩
theorem Seen.on {w w' : World} {b n : Nat} {S : List Bs} (h : Seen w b n S) (hb : Below w.heap.size w w') : Seen w' b n S := h.kept (grown_of_below hb none) (by simp)
theorem Seen.alloc {w : World} {b n : Nat} {S : List Bs} (h : Seen w b n S) (o : Obj) : Seen (w.alloc o) b n S := h.kept (World.grownBy_alloc w o none) (by simp)
theorem Seen.lt {w : World} {b n : Nat} {S : List Bs} (h : Seen w b n S) : b < w.heap.size := by
  obtain ⟨D, h1, h2⟩ := h
  exact h1.lt
theorem Seen.look {w : World} {b n : Nat} {S : List Bs} (h : Seen w b n S) {x : Bs} (hx : x.length ≤ maxLen) : (Instr.lookup 68 (.map (some b)) (.string (bs x)) true).run Tryd.prog w = .ok (.tuple #[.agg #[], .bool (decide (x ∈ S))]) w := by
  obtain ⟨D, h1, h2⟩ := h
  obtain ⟨v, ps, hr, hv⟩ := h1.look_ok lawS Tryd.underlying68 (z := .agg #[]) (zd := .lit (.bool true)) (zp := []) (by kernel_rfl) rfl (keyS hx)
  obtain rfl := RS_inv hv
  rw [hr, h2]
theorem Seen.put {w : World} {b n : Nat} {S : List Bs} (h : Seen w b n S) {x : Bs} (hx : x.length ≤ maxLen) (hn : n < maxLen) : ∃ w', (Instr.mapUpdate 68 (.map (some b)) (.string (bs x)) (.agg #[])).run Tryd.prog w = .ok () w' ∧ Seen w' b (n + 1) (x :: S) ∧ w.grownBy w' (some b) := by
  obtain ⟨D, h1, h2⟩ := h
  obtain ⟨w', hr, h3, hg⟩ := h1.update lawS Tryd.underlying68 hn (keyS hx) (val := .agg #[]) (d := .lit (.bool true)) (ps := []) rfl
  refine ⟨w', hr, ⟨_, h3, fun y => ?_⟩, hg⟩
  by_cases e : y = x
  · subst e
    rw [has_put_same h1.isMap (show WideAt.IsKeyLit (.string y) from trivial), decide_eq_true (List.mem_cons_self ..)]
  · rw [has_put_other (fun h => e (by injection h)), h2]
    simp [e]

end Go.Proofs.YtmjbaimccbkmpaaDoor.vrs

namespace Go.Proofs.YtmjbaimccbkmpaaDoor.vrs
open Go.RowKit Go.Maps Go.Proofs.YtmjbaimccbkmpaaDoor.base Go.Proofs.YtmjbaimccbkmpaaDoor.tok Go.Proofs.YtmjbaimccbkmpaaDoor.rul
set_option linter.unusedVariables false

theorem next_mem {L : List Tk} {x : Bs} (h : x ∈ nextP L) : ∃ t ∈ L, x = t.val := by
  unfold nextP at h
  split at h
  · exact (List.not_mem_nil h).elim
  · rename_i t M e
    split at h
    · exact ⟨t, (List.dropWhile_suffix silP).subset (by rw [e]; exact List.mem_cons_self ..), List.mem_singleton.1 h⟩
    · exact (List.not_mem_nil h).elim
theorem onL_mem {x : Bs} : ∀ {L : List Tk}, x ∈ onL L → ∃ t ∈ L, x = t.val
  | [], h => (List.not_mem_nil h).elim
  | t :: L, h => by
    rw [onL] at h
    rcases List.mem_append.1 h with h | h
    · split at h
      · obtain ⟨u, hu, e⟩ := next_mem h
        exact ⟨u, List.mem_cons_of_mem _ hu, e⟩
      · exact (List.not_mem_nil h).elim
    · obtain ⟨u, hu, e⟩ := onL_mem h
      exact ⟨u, List.mem_cons_of_mem _ hu, e⟩
theorem on_short {s x : Bs} (h : x ∈ onP s) : x.length ≤ s.length := by
  obtain ⟨t, ht, rfl⟩ := onL_mem h
  exact (cut_vals _ s (Nat.le_refl _) t ht).2.2
theorem val_short {V : List Vr} {m : Nat} (h : ∀ p ∈ V, p.2.length ≤ m) (a : Bs) : (valP V a).length ≤ m := by
  unfold valP
  cases e : lastP V a with
  | none => exact Nat.zero_le _
  | some v => exact h _ (last_mem e)

theorem take_in {N S : List Bs} {j : Nat} {x : Bs} (h : ∀ b ∈ N.take j, b ∈ S) (hx : N[j]? = some x) (hs : x ∈ S) : ∀ b ∈ N.take (j + 1), b ∈ S := fun b hb => by
  rw [List.take_add_one, hx] at hb
  rcases List.mem_append.1 hb with hb | hb
  · exact h b hb
  · have : b = x := by simpa using hb
    rw [this]
    exact hs
def RRel (w : World) (V : List Vr) (nm : Bs) (U : List Bs) (g : Nat) (v : Value) (wr : World) : Prop :=
  ∃ S T : List Bs, QRow wr (w.heap.size + 1) v T ∧ Seen wr w.heap.size S.length S ∧ Below w.heap.size w wr ∧ w.heap.size + 1 ≤ wr.heap.size ∧ RInv V nm S T (fun _ => False) ∧ rest U S + T.length < g ∧ S.length + rest U S ≤ U.length ∧ T.length + rest U S ≤ U.length + 1
def IRel (w : World) (V : List Vr) (nm : Bs) (U : List Bs) (g : Nat) (at_ : Bs) (N : List Bs) (vN : Value) (v x : Value) (wr : World) : Prop :=
  ∃ (j : Nat) (S T : List Bs), j ≤ N.length ∧ x = .int .i64 j ∧ QRow wr (w.heap.size + 1) v T ∧ Seen wr w.heap.size S.length S ∧ Below w.heap.size w wr ∧ w.heap.size + 1 ≤ wr.heap.size ∧ RInv V nm S T (fun a => a = at_) ∧ (∀ b ∈ N.take j, b ∈ S) ∧ rest U S + T.length + 1 < g ∧ S.length + rest U S ≤ U.length ∧ T.length + rest U S ≤ U.length + 1 ∧
    wr.ownsRow (w.heap.size + 1) 9 1 vN N.length (N.map strV) ∧ v.ownBlock ≠ vN.ownBlock

set_option maxRecDepth 100000 in
set_option maxHeartbeats 8000000 in
theorem round_ct {b : Nat} (A : Option Addr) (cap : Nat) (V : List Vr) (nm : Bs) (w : World) (hn : V.length ≤ 1000000) (hU : (allOn V).length ≤ 50000000) (hv : ∀ p ∈ V, p.2.length ≤ 2000000) (hI : VRd w w.heap.size A V.length V) (hb : b ≤ w.heap.size) (hE : VEnv b w) :
    Calls Tryd.prog 23 #[.slice A V.length cap, .string (bs nm)] w fun e w' => (∃ c, e = .returned (.bool c) ∧ (c = true ↔ Ring V nm)) ∧ Below w.heap.size w w' := by
  obtain ⟨i0, hi, hz0, hz1, hz2⟩ := info_parts infoS
  have Hz0 := Lib.hid hz0
  have Hi := Lib.hid hi
  have Hz1 := Lib.hid hz1
  have Hz2 := Lib.hid hz2
  clear hz0 hi hz1 hz2
  have cL := Lib.hid (fun (a : Bs) (W : World) (h : Below w.heap.size w W) => last_ct A cap V hn a W (hI.keep h h.size))
  have cO := Lib.hid (fun (a : Bs) (W : World) (h : Below w.heap.size w W) => on_row (valP V a) (val_short hv a) W (hE _ (h.mono hb)).1 (hE _ (h.mono hb)).2)
  have HAll := Lib.hid (fun (a x : Bs) (h : x ∈ onP (valP V a)) => stp_all (V := V) (a := a) (b := x) h)
  have HSh := Lib.hid (fun (a x : Bs) (h : x ∈ onP (valP V a)) => show x.length ≤ 2000000 from Nat.le_trans (on_short h) (val_short hv a))
  have HN := Lib.hid hn
  have HVl := Lib.hid (fun a => val_short hv a)
  generalize hUU : allOn V = U at *
  clear hUU hI hE hv hn hb
  have hmm := @run_makeMap Tryd.prog
  go_enter Tryd.func23, Tryd.ntmps23
  go_wp2_with fail
  have HQ0 := Lib.hid (QRow.new (w := w.alloc (.map #[] 0)) (base := w.heap.size + 1) (by simp) nm)
  have HS0 := Lib.hid ((Seen.new w).alloc (.cells #[.string (bs nm)] 9))
  have HB0 := Lib.hid (show Below w.heap.size w ((w.alloc (.map #[] 0)).alloc (.cells #[.string (bs nm)] 9)) from ((Below.refl _ w).alloc (Nat.le_refl _) _).alloc (by simp) _)
  go_loopg [6] (U.length + 2) (fun g v wr => RRel w V nm U g v wr)
  case atStart =>
    refine ⟨[], [nm], by simpa using HQ0.out, HS0.out, HB0.out, by simp, RInv.start V nm, ?_, ?_, ?_⟩
    · have := rest_le U []
      simp
      omega
    · have := rest_le U []
      simpa using this
    · have := rest_le U []
      simp
      omega
  case round =>
    obtain ⟨S, T, hq, hs, hbel, hsz, hri, hg, hSU, hTU⟩ := hrel
    have HSe := Lib.hid hs
    have HBl := Lib.hid hbel
    clear hs hbel HQ0 HS0 HB0 hmm
    match T, hq, hri, hg, hTU with
    | [], hq, hri, hg, hTU =>
      obtain ⟨g, o, cp, rfl, -, -, -⟩ := hq.form
      have HNone := Lib.hid hri.none
      simp only [List.length_nil]
      clear hq hri
      go_wp2_with fail
      go_ret
      exact ⟨⟨false, rfl, ⟨fun h => (by cases h), fun h => absurd h HNone.out⟩⟩, HBl.out⟩
    | at_ :: T, hq, hri, hg, hTU =>
      obtain ⟨g, o, cp, rfl, -, -, -⟩ := hq.form
      obtain ⟨-, hcp, g', o', he, hgl, c0, hq2⟩ := hq.pop
      cases he
      obtain ⟨hri2, hat⟩ := hri.pop
      have HQ := Lib.hid hq2
      have HRi := Lib.hid hri2
      have HAt := Lib.hid hat
      simp only [List.length_cons] at hg hTU hcp ⊢
      have hz : (0 : Int) < (T.length : Int) + 1 := by omega
      have hsl := fun w => slice_from (P := Tryd.prog) (k := 1) Tryd.underlying56 Tryd.sizeOf9 (some ⟨g, o, none⟩) (T.length + 1) cp 1 (by omega) (by omega) w
      simp only [show (1 : Int).toNat = 1 from rfl, Nat.add_sub_cancel] at hsl
      have cLa := Lib.hid (cL.out at_ wr HBl.out)
      have cOa := Lib.hid (fun W h => cO.out at_ W h)
      have HAllA := Lib.hid (HAll.out at_)
      have HShA := Lib.hid (HSh.out at_)
      have HStp := Lib.hid (show ∀ x, x ∈ onP (valP V at_) ↔ Stp V at_ x from fun x => Iff.rfl)
      have hval : (lastP V at_).getD [] = valP V at_ := rfl
      have hNl : (onP (valP V at_)).length ≤ 2000000 := Nat.le_trans (Nat.le_trans (on_few _) (cut_few _)) (HVl.out at_)
      rw [hval] at cLa
      generalize hNN : onP (valP V at_) = N at *
      generalize valP V at_ = va at *
      generalize (lastP V at_).isSome = ia at *
      clear hval hNN hq hri hri2 hat hq2
      go_upto_region 7 with (go_at_call 30; (with_reducible refine (cLa.out).mono ?_); rintro e W1 ⟨rfl, hb1⟩; have HB1 := Lib.hid (HBl.out.trans (hb1.mono HBl.out.size)); have HQ1 := Lib.hid (HQ.out.on hb1); have HSe1 := Lib.hid (HSe.out.on hb1); have hsz1 : w.heap.size + 1 ≤ W1.heap.size := Nat.le_trans hsz hb1.size; clear hb1)
      go_wp2_with (go_at_call 26; (with_reducible refine (cOa.out _ HB1.out).mono ?_); rintro e W2 ⟨⟨vN, rfl, hrN⟩, hb2⟩; obtain ⟨AN, cN, rfl⟩ := row_form hrN)
      have HQ2 := Lib.hid (HQ1.out.on hb2)
      have HSe2 := Lib.hid (HSe1.out.on hb2)
      have HB2 := Lib.hid (HB1.out.trans (hb2.mono HB1.out.size))
      have hsz2 : w.heap.size + 1 ≤ W2.heap.size := Nat.le_trans hsz1 hb2.size
      have hne0 : (Value.slice (addrAt 1 (some ⟨g, o, none⟩) cp 1) T.length (cp - 1)).ownBlock ≠ (Value.slice AN N.length cN).ownBlock := by
        obtain ⟨k, hk, -, hk2⟩ := HQ1.out.own
        intro h
        have h3 := hrN.lt k (h.symm.trans hk)
        omega
      have HRN := Lib.hid (show W2.ownsRow (w.heap.size + 1) 9 1 (.slice AN N.length cN) N.length (N.map strV) from by
        refine ⟨hrN.1, ?_⟩
        rcases hrN.2 with hn | ⟨g, cap, cur, h1, h2, h3⟩
        · exact .inl hn
        · exact .inr ⟨g, cap, cur, h1, Nat.le_trans hsz1 h2, h3⟩)
      clear hrN hb2 hsl hz
      generalize hA2 : Value.slice (addrAt 1 (some ⟨g, o, none⟩) cp 1) T.length (cp - 1) = v6 at *
      go_loopw [6, 34] (fun v x wr => IRel w V nm U gk at_ N (.slice AN N.length cN) v x wr) (fun _ x _ => N.length - (intOf x).toNat)
      case atStart => exact ⟨0, S, T, Nat.zero_le _, rfl, HQ2.out, HSe2.out, HB2.out, hsz2, HRi.out, fun b hb => by simp at hb, by omega, hSU, by omega, HRN.out, hne0⟩
      case round =>
        obtain ⟨j, S3, T3, hj, rfl, hq3, hs3, hb3, hsz3, hri3, htk, hg3, hSU3, hTU3, hrn3, hne3⟩ := hrel
        have HQ3 := Lib.hid hq3
        have HSe3 := Lib.hid hs3
        have HB3 := Lib.hid hb3
        have HRi3 := Lib.hid hri3
        have HTk := Lib.hid htk
        have HRN3 := Lib.hid hrn3
        obtain ⟨g3, o3, cp3, rfl, hg3b, hg3l, hcp3⟩ := hq3.form
        clear hq3 hs3 hb3 hri3 htk hrn3 HQ2 HSe2 HB2 HRi HRN hne0 hA2 HQ
        by_cases hlt : j < N.length
        · have hlt' : (j : Int) < (N.length : Int) := by omega
          have q2 : IntKind.i64.wrap ((j : Int) + 1) = (j : Int) + 1 := IntWalk.i64_in _ (by omega)
          obtain ⟨x, hx⟩ : ∃ x, N[j]? = some x := ⟨N[j], List.getElem?_eq_getElem hlt⟩
          have hxN : x ∈ N := List.mem_of_getElem? hx
          obtain ⟨gN, hgN, hgNl, hgNb, hNc, hcN⟩ := owns_at (i := j) (x := strV x) HRN3.out (by simp [hx])
          subst hgN
          have hxl : x.length ≤ maxLen := by have := HShA.out x hxN; unfold maxLen; omega
          have HX := Lib.hid hx
          have HXN := Lib.hid hxN
          have HStx := Lib.hid ((HStp.out x).1 hxN)
          have HAx := Lib.hid (HAllA.out x hxN)
          clear hx hxN
          by_cases hxn : x = nm
          · subst hxn
            have HR := Lib.hid (ring_of HAt.out HStx.out)
            have hbq : ((bs x).toList == (bs x).toList) = true := by simp
            go_wp2_with fail
            go_ret
            exact ⟨⟨true, rfl, ⟨fun _ => HR.out, fun _ => rfl⟩⟩, HB3.out⟩
          · have hbq : ((bs x).toList == (bs nm).toList) = false := by rw [bs_toList, bs_toList]; simpa using hxn
            have hlook := HSe3.out.look hxl
            by_cases hxs : x ∈ S3
            · rw [decide_eq_true hxs] at hlook
              have HXs := Lib.hid hxs
              clear hxs hxn
              go_wp2_with fail
              go_roundw
              case rel => exact ⟨j + 1, S3, T3, by omega, by go_num, HQ3.out.alloc _, HSe3.out.alloc _, HB3.out.alloc HB3.out.size _, by simp; omega, HRi3.out, take_in HTk.out HX.out HXs.out, hg3, hSU3, hTU3, HRN3.out.alloc _, hne3⟩
              case measure => simp [intOf]; omega
            · rw [decide_eq_false hxs] at hlook
              have hml : S3.length < maxLen := by have : S3.length ≤ 50000000 := by omega
                                                  unfold maxLen; omega
              obtain ⟨w1, hput, hs1, hg1⟩ := (HSe3.out.alloc (.cells #[] 69)).put hxl hml
              have hne1 : some w.heap.size ≠ (Value.slice (some ⟨g3, o3, none⟩) T3.length cp3).ownBlock := fun e => by have := Option.some.inj (show some w.heap.size = some g3 from e); omega
              have hne2 : (Value.slice (some ⟨gN, 0, none⟩) N.length cN).ownBlock ≠ some w.heap.size := fun e => by have := Option.some.inj (show some gN = some w.heap.size from e); omega
              have HQ4 := Lib.hid ((HQ3.out.alloc (.cells #[] 69)).kept hg1 (fun e => hne1 e.symm))
              have HRN4 := Lib.hid ((HRN3.out.alloc (.cells #[] 69)).kept hg1 (.inr hne2))
              have HB4 := Lib.hid (below_grow (HB3.out.alloc HB3.out.size (.cells #[] 69)) hg1 (Nat.le_refl _) (by simp; omega))
              have hsz4 : wr.heap.size + 1 ≤ w1.heap.size := by have := hg1.size; simpa using this
              have HS4 := Lib.hid hs1
              have hrs := rest_add HAx.out hxs
              have HAdd := Lib.hid (HRi3.out.add HAt.out HStx.out hxn)
              clear hs1 hg1 hxs hxn
              go_wp2_with (at_builtin; refine wpList_append_queue _ rfl _ _ 56 rfl (w.heap.size + 1) i0 Tryd.underlying56 Hi.out Hz0.out Hz1.out Hz2.out _ _ rfl (HQ4.out.alloc _) ⟨w1.heap.size, 0, none⟩ 1 x rfl ?c3 ?c4 ?c5 ?_)
              case c3 => exact (Blk.new (w := w1) (t := 9) (cs := #[.string (bs x)]) rfl).cell 0
              case c4 => omega
              case c5 => simp; omega
              intro v' w4 hq5 hg5 ho5
              have HQ5 := Lib.hid hq5
              have HS5 := Lib.hid ((HS4.out.alloc (.cells #[.string (bs x)] 9)).kept hg5 hne1)
              have HRN5 := Lib.hid ((HRN4.out.alloc (.cells #[.string (bs x)] 9)).kept hg5 (.inr (fun e => hne3 e.symm)))
              have HB5 := Lib.hid ((HB4.out.alloc HB4.out.size (.cells #[.string (bs x)] 9)).grown hg5 (by have := HB4.out.size; simp; omega) (fun k hk => by have := Option.some.inj (show some g3 = some k from hk); omega))
              have hsz5 : w1.heap.size + 1 ≤ w4.heap.size := by have := hg5.size; simpa using this
              have hne5 : v'.ownBlock ≠ (Value.slice (some ⟨gN, 0, none⟩) N.length cN).ownBlock := by
                rcases ho5 with h | h
                · rw [h]; exact hne3
                · rw [h]; simp [Value.ownBlock]; omega
              obtain ⟨g6, o6, cp6, rfl, -, -, -⟩ := hq5.form
              clear hq5 hg5 ho5
              go_wp2
              go_roundw
              case rel => exact ⟨j + 1, x :: S3, T3 ++ [x], by omega, by go_num, HQ5.out, HS5.out, HB5.out, by omega, HAdd.out, take_in (fun b hb => List.mem_cons_of_mem _ (HTk.out b hb)) HX.out (List.mem_cons_self ..), by simp; omega, by simp; omega, by simp; omega, HRN5.out, hne5⟩
              case measure => simp [intOf]; omega
        · obtain rfl : j = N.length := by omega
          have HDone := Lib.hid (HRi3.out.done (fun b hb => by have := HTk.out b; rw [List.take_length] at this; exact this ((HStp.out b).2 hb)))
          go_wp2_with fail
          go_roundg (rest U S3 + T3.length + 1)
          case rel => exact ⟨S3, T3, HQ3.out, HSe3.out, HB3.out, hsz3, HDone.out, by omega, hSU3, hTU3⟩
          case measure => omega

end Go.Proofs.YtmjbaimccbkmpaaDoor.vrs
