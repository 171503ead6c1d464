/- Contracts and plain law, a bundle. -/
import Derived.Lib.Hide
import Derived.Test.YtlfkkaofgcongaaGreatDoorCD
import Derived.Test.YtlfkkaofgcongaaGreatDoorCE
import Derived.Test.YtlfkkaofgcongaaGreatDoorE0
import Derived.Test.YtlfkkaofgcongaaGreatDoorCC2
import Derived.Test.YtlfkkaofgcongaaGreatDoorD0
import Derived.Test.YtlfkkaofgcongaaGreatDoorE3
import Derived.Test.YtlfkkaofgcongaaGreatDoorEC
set_option linter.unusedVariables false
set_option maxRecDepth 100000
set_option maxHeartbeats 16000000
open Go.Lib (hid)
namespace Go.Proofs.YtlfkkaofgcongaaGreatDoor
namespace prp
open Go.RowKit base tok dim
set_option linter.unusedSimpArgs false
theorem pcs_few : ∀ p : Fin 59, (pcsB (rowP p.val).keys).length <= 12 := by decide +kernel
theorem key_back0 : ∀ (p : Fin 59) (n : Fin 12), keyV (rowP p.val).keys ((n.val : Nat) : Int) = ⟨#[]⟩ ∨ ((keyV (rowP p.val).keys ((n.val : Nat) : Int)).data.toList.map lowB = (keyV (rowP p.val).keys ((n.val : Nat) : Int)).data.toList /\ wordP p.val (keyV (rowP p.val).keys ((n.val : Nat) : Int)).data.toList = (1, ((n.val : Nat) : Int), true)) := by decide +kernel
theorem key_back {p : Nat} (hp : p < 59) {n : Int} (h : keyV (rowP p).keys n ≠ ⟨#[]⟩) : (keyV (rowP p).keys n).data.toList.map lowB = (keyV (rowP p).keys n).data.toList /\ wordP p (keyV (rowP p).keys n).data.toList = (1, n, true) := by
 by_cases h0 : n < 0
 ·exact absurd (if_pos h0) h
 ·obtain ⟨k, rfl⟩ : ∃ k : Nat, n = k := ⟨n.toNat, by omega⟩
  by_cases h1 : k < 12
  ·rcases key_back0 ⟨p, hp⟩ ⟨k, h1⟩ with e | e
   ·exact absurd e h
   ·exact e
  ·refine absurd ?_ h
   have hl := pcs_few ⟨p, hp⟩
   unfold keyV
   rw [if_neg h0, Int.toNat_natCast, List.getD_eq_getElem?_getD, List.getElem?_eq_none (by simp only at hl; omega)]
   rfl
theorem key_len0 : ∀ (p : Fin 59) (n : Fin 12), (keyV (rowP p.val).keys ((n.val : Nat) : Int)).data.toList.length <= 100 := by decide +kernel
theorem key_len {p : Nat} (hp : p < 59) (n : Int) : (keyV (rowP p).keys n).data.toList.length <= 1000 := by
 by_cases h0 : n < 0
 ·rw [show keyV (rowP p).keys n = ⟨#[]⟩ from if_pos h0]
  decide
 ·obtain ⟨k, rfl⟩ : ∃ k : Nat, n = k := ⟨n.toNat, by omega⟩
  by_cases h1 : k < 12
  ·have := key_len0 ⟨p, hp⟩ ⟨k, h1⟩
   simp only at this
   omega
  ·have hl := pcs_few ⟨p, hp⟩
   have e : keyV (rowP p).keys (k : Int) = ⟨#[]⟩ := by
    unfold keyV
    rw [if_neg h0, Int.toNat_natCast, List.getD_eq_getElem?_getD, List.getElem?_eq_none (by simp only at hl; omega)]
    rfl
   rw [e]
   decide
theorem auto_back0 : ∀ p : Fin 59, hasR (rowP p.val).kinds 6 = true -> (rowP p.val).auto.map lowB = (rowP p.val).auto /\ wordP p.val (rowP p.val).auto = (6, 0, true) /\ (rowP p.val).auto.length <= 20 := by decide +kernel
theorem kinds_cl : ∀ p : Fin 59, (hasR (rowP p.val).kinds 5 = true -> hasR (rowP p.val).kinds 2 = false /\ hasR (rowP p.val).kinds 3 = false /\ hasR (rowP p.val).kinds 4 = false /\ (rowP p.val).keys = [] /\ (rowP p.val).auto = [] /\ p.val ≠ 37 /\ ¬ (19 <= p.val /\ p.val <= 22)) /\ (hasR (rowP p.val).kinds 3 = true -> p.val ≠ 37 /\ p.val ≠ 38 /\ p.val ≠ 34) := by decide +kernel
def noDig (l : Bs) : Bool := l.all fun c => !(decide (48 <= c.toNat) && decide (c.toNat <= 57))
theorem words_nodig : ∀ p : Fin 59, (pcs (rowP p.val).keys).all noDig = true /\ noDig (rowP p.val).auto = true := by decide +kernel
end prp
namespace prp
open Go.RowKit base tok dim
set_option linter.unusedSimpArgs false
theorem dig_low : ∀ c : UInt8, (decide (48 <= (lowB c).toNat) && decide ((lowB c).toNat <= 57)) = (decide (48 <= c.toNat) && decide (c.toNat <= 57)) := by
 refine all_bytes (P := fun c => (decide (48 <= (lowB c).toNat) && decide ((lowB c).toNat <= 57)) = (decide (48 <= c.toNat) && decide (c.toNat <= 57))) ?_
 decide +kernel
theorem noDig_low : ∀ l : Bs, noDig (l.map lowB) = noDig l
 | [] => rfl
 | c :: l => by
  have h := noDig_low l
  unfold noDig at h ⊢
  rw [List.map_cons, List.all_cons, List.all_cons, dig_low, h]
theorem noDig_mem {l : Bs} {c : UInt8} (h : c ∈ l) (h1 : 48 <= c.toNat) (h2 : c.toNat <= 57) : noDig l = false := by
 unfold noDig
 rw [List.all_eq_false]
 exact ⟨c, h, by simp [h1, h2]⟩
theorem idx_dig {L : List Bs} {s : Bs} (hL : L.all noDig = true) (hs : noDig s = false) : idxP L s = -1 :=
 idx_not L s fun h => by
  have := List.all_eq_true.1 hL s h
  rw [hs] at this
  cases this
theorem word_dig {p : Nat} (hp : p < 59) {s : Bs} (hs : noDig s = false) : (wordP p s).2.2 = false := by
 have h := words_nodig ⟨p, hp⟩
 have h1 := idx_dig (L := pcs (rowP p).keys) h.1 hs
 have h2 := idx_dig (L := sizesL) (by decide) hs
 have h3 := idx_dig (L := thickL) (by decide) hs
 have h4 : (rowP p).auto ≠ s := fun e => by
  have := h.2
  rw [e, hs] at this
  cases this
 unfold wordP wordR
 rw [h1, h2, h3, if_neg (by omega), if_neg (fun e => h4 e.1)]
 split
 ·rfl
 ·split <;> rfl
theorem num_dig (n : Int) (u : Bs) : noDig (clb.numT n u) = false := by
 unfold clb.numT plainP
 obtain ⟨c, hc⟩ := List.exists_mem_of_ne_nil _ (dec_ne (n.natAbs / 1000))
 have hd := dec_digs _ c hc
 have hb : 48 <= c.toNat /\ c.toNat <= 57 := by
  unfold digI nv at hd
  simp only [Bool.and_eq_true, decide_eq_true_eq] at hd
  omega
 exact noDig_mem (c := c) (by simp [hc]) hb.1 hb.2
theorem num_len {n : Int} {u : Bs} (h0 : -1000000000 <= n) (h1 : n <= 1000000000) (hu : u ∈ unitsL) : (clb.numT n u).length <= 20 := by
 have h3 : u.length <= 3 := by
  have : ∀ u ∈ unitsL, u.length <= 3 := by decide
  exact this u hu
 have hW := dec_len (n.natAbs / 1000) (by omega)
 have hF := frac_len (r := n.natAbs % 1000) (by omega)
 unfold clb.numT plainP pointP
 split <;> split <;> simp <;> omega
theorem num_read {n : Int} {u : Bs} (h0 : -1000000000 <= n) (h1 : n <= 1000000000) (hu : u ∈ unitsL) : clb.readT 2401 (clb.numT n u) = some (.num n u) := by
 have hl := num_len h0 h1 hu
 unfold clb.readT
 rw [if_neg (by omega), clb.num_cut h0 h1 hu]
 have hg : clb.gapP [⟨7, clb.numT n u, u, n⟩] = [⟨7, clb.numT n u, u, n⟩] := rfl
 rw [hg, clb.valF, if_pos rfl, if_pos hu]
 rfl
theorem num_ct {n : Int} {u : Bs} (h0 : -1000000000 <= n) (h1 : n <= 1000000000) (hu : u ∈ unitsL) (w : World) (hm : MaxL w) (hU : UnitsAt w) :
  Calls Tryz.prog 35 #[.string (bs (clb.numT n u))] w (rt w (.tuple #[.agg #[.int .i64 1, .int .i64 n, .string (bs u), .slice none 0 0], .int .i64 0])) := by
 have h := clb.read_any (clb.numT n u) 2401 (by decide)
 rw [num_read h0 h1 hu] at h
 unfold clb.ReadC at h
 refine (h w hm hU).mono ?_
 rintro e w' ⟨⟨v, rfl, ht⟩, hb⟩
 rw [clb.TeAt] at ht
 subst ht
 exact ⟨rfl, hb⟩
theorem value_ct (n : Int) (h0 : -9223372036854775808 <= n) (h9 : n <= 9223372036854775807) (u : ByteArray) (hu : cal.isUnit u) (em rem vw vh : Int) (w : World) :
  Calls Tryz.prog 12 #[.agg #[.int .i64 1, .int .i64 n, .string u, .slice none 0 0], .agg #[.int .i64 em, .int .i64 rem, .int .i64 vw, .int .i64 vh]] w (rt w (cal.resV (cal.numP u n ⟨em, rem, vw, vh⟩))) :=
 cal.Value_ct (cal.leafT n u) 1 ⟨em, rem, vw, vh⟩ _ w (cal.Knows.leaf w _ n h0 h9 u hu)
theorem unitO_is (k : Int) : cal.isUnit (bs (unitO k)) := by
 unfold unitO cal.isUnit
 split
 ·exact .inr (.inl rfl)
 ·split
  ·exact .inr (.inr (.inr (.inr (.inr (.inr rfl)))))
  ·exact .inl rfl
def okS (em rem vw vh : Int) : Bool := okP 1000 em rem vw vh
theorem okS_any {n : Int} (h0 : -1000000000 <= n) (h1 : n <= 1000000000) (em rem vw vh : Int) : okP n em rem vw vh = okS em rem vw vh := by
 unfold okS okP
 have e : inB n (-1000000000) 1000000000 = inB 1000 (-1000000000) 1000000000 := by
  rw [(inB_iff _ _ _).2 ⟨h0, h1⟩]
  rfl
 rw [e]
theorem worth {k n : Int} (hk : k = 2 ∨ k = 3 ∨ k = 4) (hn : -16777216 <= n /\ n <= 16777216) (em rem vw vh : Int) : cal.numP (bs (unitO k)) (numO k n) ⟨em, rem, vw, vh⟩ = if k = 2 /\ okS em rem vw vh = false then none else some (k, n) := by
 have hb := numO_bd (k := k) hn
 rcases hk with rfl | rfl | rfl
 ·unfold cal.numP
  have e1 : ¬ (bs (unitO 2) = ByteArray.empty) := by decide
  have e2 : ¬ (bs (unitO 2) = ⟨#[37]⟩) := by decide
  have e3 : bs (unitO 2) = ⟨#[112, 120]⟩ := rfl
  rw [if_neg e1, if_neg e2, okS_any hb.1 hb.2, if_pos e3]
  have e4 : clipI (numO 2 n * 64 / 1000) = n := by
   have : numO 2 n = -((-n * 1000) / 64) := rfl
   rw [this, show -((-n * 1000) / 64) * 64 / 1000 = n by omega]
   exact cal.clip_id hn.1 hn.2
  rw [e4]
  cases okS em rem vw vh <;> simp
 ·unfold cal.numP
  have e1 : ¬ (bs (unitO 3) = ByteArray.empty) := by decide
  have e2 : bs (unitO 3) = ⟨#[37]⟩ := rfl
  rw [if_neg e1, if_pos e2, show numO 3 n = 10 * n from rfl, show 10 * n / 10 = n by omega, cal.clip_id hn.1 hn.2]
  simp
 ·unfold cal.numP
  have e1 : bs (unitO 4) = ByteArray.empty := rfl
  rw [if_pos e1, show numO 4 n = n from rfl, cal.clip_id hn.1 hn.2]
  simp
end prp
namespace prp
open Go.RowKit base tok dim
set_option linter.unusedSimpArgs false
theorem fits_low {p : Nat} {k n : Int} (h : fitsP p k n = true) (hk : k = 2 ∨ k = 3 ∨ k = 4) : lowZ p (rowP p).above <= n /\ n <= highZ p := by
 unfold fitsP fitsR at h
 rw [Bool.and_eq_true] at h
 have h2 := h.2
 rw [if_neg (by omega), if_neg (by omega), if_neg (by omega)] at h2
 simp only [Bool.and_eq_true, decide_eq_true_eq] at h2
 exact h2.2
theorem one_ct (p : Nat) (hp : p < 59) (c : UInt8) (w : World) : Calls Tryz.prog 33 #[.string (bs (rowP p).kinds), .string ⟨#[c]⟩] w fun e w' => e = .returned (.bool (decide (0 <= Lib.indexByte (rowP p).kinds c))) /\ w' = w :=
 Tryz.strings_Contains_one (bs (rowP p).kinds) c w
theorem row_ct (p : Nat) (hp : p < 59) (w : World) : Calls Tryz.prog 25 #[.int .i64 p] w (rt w (.agg #[.string (bs (rowP p).name), .string (bs (rowP p).kinds), .string (bs (rowP p).keys), .string (bs (rowP p).auto), .bool (rowP p).above])) := at_ct p hp w
theorem tenv (p : Nat) (hp : p < 59) : TEnv p (rowP p).name (rowP p).kinds (rowP p).keys (rowP p).auto (rowP p).above (decide (0 <= Lib.indexByte (rowP p).kinds 108)) (decide (0 <= Lib.indexByte (rowP p).kinds 110)) :=
 ⟨fun w => row_ct p hp w, fun w => one_ct p hp 108 w, fun w => one_ct p hp 110 w⟩
theorem turned_fit (p : Nat) (hp : p < 59) (k n em : Int) (hf : fitsP p k n = true) (hk : k = 2 ∨ k = 3 ∨ k = 4) (w : World) : Calls Tryz.prog 36 #[.int .i64 p, .agg #[.int .i64 k, .int .i64 n], .int .i64 em] w (rt w (.agg #[.int .i64 k, .int .i64 n])) := by
 have hl := fits_low hf hk
 have hh := (fits_bd hp hf).2.1
 have hE := tenv p hp
 rcases hk with rfl | rfl | rfl
 ·by_cases h37 : p = 37
  ·subst h37
   rw [show lowZ 37 (rowP 37).above = 64 from rfl] at hl
   have h := turn_2f n em _ _ _ _ _ _ _ hE (by omega) w
   rw [show max n 64 = n by omega] at h
   exact h
  ·exact turn_2 p n em _ _ _ _ _ _ _ hE (by omega) w
 ·have hc := (kinds_cl ⟨p, hp⟩).2 hh
  simp only at hc
  exact turn_3 p n em _ _ _ _ _ _ _ hE (by omega) (by omega) (by omega) w
 ·have hn : decide (0 <= Lib.indexByte (rowP p).kinds 110) = true := hh
  rw [hn] at hE
  by_cases h34 : p = 34
  ·subst h34
   rw [show lowZ 34 (rowP 34).above = 0 from rfl, show highZ 34 = 1000 from rfl] at hl
   by_cases h0 : n = 0
   ·subst h0
    exact turn_340 em _ _ _ _ _ _ _ hE (by decide +kernel) w
   ·have h := turn_34 n em _ _ _ _ _ _ _ hE h0 w
    rw [show min (max n 0) 1000 = n by omega] at h
    exact h
  ·by_cases h0 : n = 0
   ·subst h0
    exact turn_40 p em _ _ _ _ _ _ _ hE (by omega) (by cases decide (0 <= Lib.indexByte (rowP p).kinds 108) <;> simp) w
   ·exact turn_4 p n em _ _ _ _ _ _ _ hE (by omega) h0 w
theorem low_ct (s : Bs) (hs : s.length <= 1000) (w : World) : Calls Tryz.prog 32 #[.string (bs s)] w (rt w (.string (bs (s.map lowB)))) :=
 lower_ct (bs s) (by rw [bs_size]; omega) w
theorem word_at (p : Nat) (hp : p < 59) (s : Bs) {k n : Int} {b : Bool} (h : wordP p s = (k, n, b)) (w : World) (hm : MaxL w) : Calls Tryz.prog 31 #[.int .i64 p, .string (bs s)] w (rt w (.tuple #[.agg #[.int .i64 k, .int .i64 n], .bool b])) := by
 have c := word_ct p hp s w hm
 rw [h] at c
 exact c
theorem word_off (p : Nat) (hp : p < 59) (s : Bs) (h : (wordP p s).2.2 = false) (w : World) (hm : MaxL w) : Calls Tryz.prog 31 #[.int .i64 p, .string (bs s)] w (rt w (.tuple #[.agg #[.int .i64 (wordP p s).1, .int .i64 (wordP p s).2.1], .bool false])) := by
 have c := word_ct p hp s w hm
 rw [h] at c
 exact c
theorem fit_at (p : Nat) (hp : p < 59) (k n : Int) (hn : -9223372036854775808 <= n /\ n <= 9223372036854775807) (hf : fitsP p k n = true) (w : World) (hm : MaxL w) : Calls Tryz.prog 15 #[.int .i64 p, .agg #[.int .i64 k, .int .i64 n]] w (rt w (.bool true)) := by
 have c := fits_ct p hp k n hn w hm
 rw [hf] at c
 exact c
theorem no_col {p : Nat} (hp : p < 59) {k : Int} (h : hasR (rowP p).kinds k = true) (hk : k = 2 ∨ k = 3 ∨ k = 4) (w : World) : Calls Tryz.prog 33 #[.string (bs (rowP p).kinds), .string ⟨#[99]⟩] w (rt w (.bool false)) := by
 have e : decide (0 <= Lib.indexByte (rowP p).kinds 99) = false := by
  have hc := (kinds_cl ⟨p, hp⟩).1
  simp only at hc
  cases h5 : hasR (rowP p).kinds 5 with
  | false => exact h5
  | true =>
   obtain ⟨a, b, c, -⟩ := hc h5
   rcases hk with rfl | rfl | rfl <;> simp_all
 refine (one_ct p hp 99 w).mono ?_
 rintro e' w' ⟨rfl, rfl⟩
 exact ⟨by rw [e], Below.refl _ _⟩
abbrev BackT (p : Nat) (S : ByteArray) (em rem vw vh cur k n x : Int) (w : World) : Prop := Calls Tryz.prog 11 #[.int .i64 p, .string S, .agg #[.int .i64 em, .int .i64 rem, .int .i64 vw, .int .i64 vh], .int .i64 cur] w (rt w (.tuple #[.agg #[.int .i64 k, .int .i64 n], .int .i64 x]))
theorem back_num (p : Nat) (hp : p < 59) (k n : Int) (hf : fitsP p k n = true) (hk : k = 2 ∨ k = 3 ∨ k = 4) (em rem vw vh cur : Int) (hs : ¬ (k = 2 /\ okS em rem vw vh = false)) (w : World) (hm : MaxL w) (hU : UnitsAt w) : BackT p (bs (clb.numT (numO k n) (unitO k))) em rem vw vh cur k n 0 w := by
 have hb := (fits_bd hp hf).2.2.1 hk
 have hx := numO_bd (k := k) hb
 have hu := unitO_mem k
 have hl := num_len hx.1 hx.2 hu
 have hd := num_dig (numO k n) (unitO k)
 have hd2 : noDig ((clb.numT (numO k n) (unitO k)).map lowB) = false := by rw [noDig_low]; exact hd
 have hv : ∀ w, Calls Tryz.prog 12 #[.agg #[.int .i64 1, .int .i64 (numO k n), .string (bs (unitO k)), .slice none 0 0], .agg #[.int .i64 em, .int .i64 rem, .int .i64 vw, .int .i64 vh]] w (rt w (.tuple #[.agg #[.int .i64 k, .int .i64 n], .int .i64 0])) := fun w => by
  have c := value_ct (numO k n) (by omega) (by omega) (bs (unitO k)) (unitO_is k) em rem vw vh w
  rw [worth hk hb, if_neg hs] at c
  exact c
 exact read_num p _ _ em rem vw vh cur _ _ (numO k n) (bs (unitO k)) k n k n _ _ _ _ _ (fun w => in_yes p hp w) (fun w => low_ct _ (by omega) w) (fun w hm => word_off p hp _ (word_dig hp hd2) w hm) (fun w => row_ct p hp w) (fun w => no_col hp (fits_bd hp hf).2.1 hk w)
  (fun w hm hU => num_ct hx.1 hx.2 hu w hm hU) hv (fun w => turned_fit p hp k n em hf hk w) (fun w hm => fit_at p hp k n (by omega) hf w hm) w hm hU
theorem back_off (p : Nat) (hp : p < 59) (n : Int) (hf : fitsP p 2 n = true) (em rem vw vh cur : Int) (hs : okS em rem vw vh = false) (w : World) (hm : MaxL w) (hU : UnitsAt w) : BackT p (bs (clb.numT (numO 2 n) (unitO 2))) em rem vw vh cur 0 0 4 w := by
 have hb := (fits_bd hp hf).2.2.1 (.inl rfl)
 have hx := numO_bd (k := 2) hb
 have hu := unitO_mem 2
 have hl := num_len hx.1 hx.2 hu
 have hd := num_dig (numO 2 n) (unitO 2)
 have hd2 : noDig ((clb.numT (numO 2 n) (unitO 2)).map lowB) = false := by rw [noDig_low]; exact hd
 have hv : ∀ w, Calls Tryz.prog 12 #[.agg #[.int .i64 1, .int .i64 (numO 2 n), .string (bs (unitO 2)), .slice none 0 0], .agg #[.int .i64 em, .int .i64 rem, .int .i64 vw, .int .i64 vh]] w (rt w (.tuple #[.agg #[.int .i64 0, .int .i64 0], .int .i64 1])) := fun w => by
  have c := value_ct (numO 2 n) (by omega) (by omega) (bs (unitO 2)) (unitO_is 2) em rem vw vh w
  rw [worth (.inl rfl) hb, if_pos ⟨rfl, hs⟩] at c
  exact c
 exact read_nok p _ _ em rem vw vh cur _ _ (numO 2 n) (bs (unitO 2)) _ _ _ _ _ (fun w => in_yes p hp w) (fun w => low_ct _ (by omega) w) (fun w hm => word_off p hp _ (word_dig hp hd2) w hm) (fun w => row_ct p hp w) (fun w => no_col hp (fits_bd hp hf).2.1 (.inl rfl) w)
  (fun w hm hU => num_ct hx.1 hx.2 hu w hm hU) hv w hm hU
theorem back_key (p : Nat) (hp : p < 59) (n : Int) (hf : fitsP p 1 n = true) (em rem vw vh cur : Int) (w : World) (hm : MaxL w) (hU : UnitsAt w) : BackT p (keyV (rowP p).keys n) em rem vw vh cur 1 n 0 w := by
 have hk := (fits_bd hp hf).2.2.2.2.2 rfl
 obtain ⟨h1, h2⟩ := key_back hp hk
 have hl : (keyV (rowP p).keys n).data.toList.length <= 1000 := key_len hp n
 have e : bs (keyV (rowP p).keys n).data.toList = keyV (rowP p).keys n := rfl
 generalize keyV (rowP p).keys n = S at *
 rw [<- e]
 have cL : ∀ w, Calls Tryz.prog 32 #[.string (bs S.data.toList)] w (rt w (.string (bs S.data.toList))) := fun w => by
  have c := low_ct S.data.toList hl w
  rw [h1] at c
  exact c
 exact read_word p _ _ em rem vw vh cur 1 n (fun w => in_yes p hp w) cL (fun w hm => word_at p hp _ h2 w hm) w hm hU
theorem back_auto (p : Nat) (hp : p < 59) (hf : fitsP p 6 0 = true) (em rem vw vh cur : Int) (w : World) (hm : MaxL w) (hU : UnitsAt w) : BackT p (bs (rowP p).auto) em rem vw vh cur 6 0 0 w := by
 obtain ⟨h1, h2, h3⟩ := auto_back0 ⟨p, hp⟩ (fits_bd hp hf).2.1
 simp only at h1 h2 h3
 have cL : ∀ w, Calls Tryz.prog 32 #[.string (bs (rowP p).auto)] w (rt w (.string (bs (rowP p).auto))) := fun w => by
  have c := low_ct (rowP p).auto (by omega) w
  rw [h1] at c
  exact c
 exact read_word p _ _ em rem vw vh cur 6 0 (fun w => in_yes p hp w) cL (fun w hm => word_at p hp _ h2 w hm) w hm hU
theorem back_col (p : Nat) (hp : p < 59) (n : Int) (hf : fitsP p 5 n = true) (em rem vw vh cur : Int) (w : World) (hm : MaxL w) (hU : UnitsAt w) : BackT p (bs (col.textS (col.c32 n).toNat)) em rem vw vh cur 5 n 0 w := by
 have hb := (fits_bd hp hf).2.2.2.1 rfl
 have hh := (fits_bd hp hf).2.1
 obtain ⟨a1, a2, a3, hks, hau, h37, h19⟩ := (kinds_cl ⟨p, hp⟩).1 hh
 simp only at hks hau h37 h19
 have hc : (col.c32 n).toNat = n.toNat := by
  unfold col.c32
  rw [show IntKind.u32.wrap n = n from IntWalk.u32_in _ (by omega)]
 rw [hc]
 have hx : n.toNat < 4294967296 := by omega
 have hlow := col.low_text n.toNat
 have hlen := col.textL_len n.toNat
 have hV := col.textL_V n.toNat hx
 have hall := col.textL_all n.toNat
 have hsl : (col.textS n.toNat).length <= 1000 := by
  have h := congrArg List.length hlow
  rw [List.length_map, List.length_cons] at h
  omega
 have cO : ∀ w, Calls Tryz.prog 34 #[.string (bs (col.textS n.toNat))] w (rt w (.tuple #[.int .i64 n, .int .i64 0])) := fun w => by
  have c := col.read_ct (col.textS n.toNat) (col.textL n.toNat) hlow (by omega) hall w
  rw [hV, show ((n.toNat : Nat) : Int) = n by omega] at c
  exact c
 have hw : wordP p (35 :: col.textL n.toNat) = (2, 0, false) := by
  unfold wordP wordR
  rw [hks, hau, show pcs [] = [[]] from by decide +kernel, show idxP [[]] (35 :: col.textL n.toNat) = -1 from rfl, if_neg (by omega), if_neg (fun e => by cases e.1), if_neg h37, if_neg h19]
 have cL : ∀ w, Calls Tryz.prog 32 #[.string (bs (col.textS n.toNat))] w (rt w (.string (bs (35 :: col.textL n.toNat)))) := fun w => by
  have c := low_ct (col.textS n.toNat) hsl w
  rw [hlow] at c
  exact c
 have cC : ∀ w, Calls Tryz.prog 33 #[.string (bs (rowP p).kinds), .string ⟨#[99]⟩] w (rt w (.bool true)) := fun w => by
  refine (one_ct p hp 99 w).mono ?_
  rintro e' w' ⟨rfl, rfl⟩
  exact ⟨congrArg (fun b => Ending.returned (.bool b)) hh, Below.refl _ _⟩
 exact read_col p _ _ em rem vw vh cur 2 0 n (by rw [bs_toList]; rfl) _ _ _ _ _ (fun w => in_yes p hp w) cL (fun w hm => word_at p hp _ hw w hm) (fun w => row_ct p hp w) cC cO (fun w hm => fit_at p hp 5 n (by omega) hf w hm) w hm hU
end prp
end Go.Proofs.YtlfkkaofgcongaaGreatDoor
