/- Contracts and plain law, a bundle. -/
import Derived.Lib.Case
import Derived.Lib.Hide
import Derived.Test.YthgffoanecknoaaGreatDoorBH
import Derived.Test.YthgffoanecknoaaGreatDoorBT
import Derived.Test.YthgffoanecknoaaGreatDoorBA
import Derived.Test.YthgffoanecknoaaGreatDoorBC
set_option linter.unusedVariables false
set_option maxRecDepth 100000
set_option maxHeartbeats 16000000
open Go.Lib (hid)
namespace Go.Proofs.YthgffoanecknoaaGreatDoor
namespace cnt
open Go.RowKit base tok dim
def letR : Nat -> Nat -> Bs
 | 0, _ => []
 | f + 1, n => if n = 0 then [] else UInt8.ofNat (97 + (n - 1) % 26) :: letR f ((n - 1) / 26)
def letP (n : Nat) : Bs := (letR n n).reverse
def romT : List (Nat × Bs) := [(1000, [109]), (900, [99, 109]), (500, [100]), (400, [99, 100]), (100, [99]), (90, [120, 99]), (50, [108]), (40, [120, 108]), (10, [120]), (9, [105, 120]), (5, [118]), (4, [105, 118]), (1, [105])]
def romF : List (Nat × Bs) -> Nat -> Bs
 | [], _ => []
 | (d, s) :: T, n => (List.replicate (n / d) s).flatten ++ romF T (n % d)
def romP (n : Nat) : Bs := romF romT n
def markP (k n : Nat) : Bs := if k = 2 then Lib.decDigits n else if k = 3 then letP n else if k = 4 then Lib.toUpperA (letP n) else if k = 5 then romP n else Lib.toUpperA (romP n)
def smallB (c : UInt8) : Bool := decide (97 <= c.toNat /\ c.toNat <= 122)
theorem letR_small : ∀ (f n : Nat), ∀ c ∈ letR f n, smallB c = true
 | 0, _, c, h => by simp [letR] at h
 | f + 1, n, c, h => by
  unfold letR at h
  by_cases h0 : n = 0
  ·rw [if_pos h0] at h; simp at h
  ·rw [if_neg h0] at h
   rcases List.mem_cons.1 h with rfl | h
   ·simp only [smallB, UInt8.toNat_ofNat', decide_eq_true_eq]
    omega
   ·exact letR_small f _ c h
theorem let_small (n : Nat) : ∀ c ∈ letP n, smallB c = true := fun c h => letR_small n n c (by simpa [letP] using h)
theorem romT_small : ∀ p ∈ romT, ∀ c ∈ p.2, smallB c = true := by decide
theorem romF_small : ∀ (T : List (Nat × Bs)), (∀ p ∈ T, ∀ c ∈ p.2, smallB c = true) -> ∀ n, ∀ c ∈ romF T n, smallB c = true
 | [], _, n, c, h => by simp [romF] at h
 | (d, s) :: T, hT, n, c, h => by
  unfold romF at h
  rcases List.mem_append.1 h with h | h
  ·obtain ⟨l, hl, hc⟩ := List.mem_flatten.1 h
   obtain rfl := List.eq_of_mem_replicate hl
   exact hT (d, l) (by simp) c hc
  ·exact romF_small T (fun p hp => hT p (by simp [hp])) _ c h
theorem rom_small (n : Nat) : ∀ c ∈ romP n, smallB c = true := romF_small romT romT_small n
theorem letR_more : ∀ (f g n : Nat), n <= f -> n <= g -> letR f n = letR g n
 | 0, 0, _, _, _ => rfl
 | 0, g + 1, n, h, _ => by
  obtain rfl : n = 0 := by omega
  simp [letR]
 | f + 1, 0, n, _, h => by
  obtain rfl : n = 0 := by omega
  simp [letR]
 | f + 1, g + 1, n, h1, h2 => by
  unfold letR
  by_cases h0 : n = 0
  ·rw [if_pos h0, if_pos h0]
  ·rw [if_neg h0, if_neg h0, letR_more f g ((n - 1) / 26) (by omega) (by omega)]
theorem letR_step {n : Nat} (h : 0 < n) : letR n n = UInt8.ofNat (97 + (n - 1) % 26) :: letR ((n - 1) / 26) ((n - 1) / 26) := by
 obtain ⟨m, rfl⟩ : ∃ m, n = m + 1 := ⟨n - 1, by omega⟩
 conv => lhs; unfold letR
 rw [if_neg (by omega), letR_more m ((m + 1 - 1) / 26) _ (by omega) (Nat.le_refl _)]
theorem romF_more {d : Nat} {s : Bs} {T : List (Nat × Bs)} {n : Nat} (h0 : 0 < d) (h : d <= n) : romF ((d, s) :: T) n = s ++ romF ((d, s) :: T) (n - d) := by
 conv => lhs; unfold romF
 conv => rhs; unfold romF
 have e1 : n / d = (n - d) / d + 1 := by
  conv => lhs; rw [show n = (n - d) + d from by omega]
  rw [Nat.add_div_right _ h0]
 have e2 : n % d = (n - d) % d := by
  conv => lhs; rw [show n = (n - d) + d from by omega]
  rw [Nat.add_mod_right]
 rw [e1, e2, List.replicate_succ, List.flatten_cons, List.append_assoc]
theorem romF_less {d : Nat} {s : Bs} {T : List (Nat × Bs)} {n : Nat} (h : n < d) : romF ((d, s) :: T) n = romF T n := by
 show (List.replicate (n / d) s).flatten ++ romF T (n % d) = romF T n
 rw [Nat.div_eq_of_lt h, Nat.mod_eq_of_lt h]
 simp
end cnt
namespace cnt
open Go.RowKit base tok dim
theorem below_put {α : Type} [Inhabited α] (enc : α -> Value) (w : World) (n blk off : Nat) (d : Array α) (B : Nat) (hB : B <= blk) : Below B w (Go.Sort.putRow enc (Go.Sort.ahead w n) blk off d) := by
 refine ⟨rfl, rfl, rfl, by rw [Go.Sort.size_putRow]; exact Nat.le_refl _, fun i hi => ?_⟩
 simp only [Go.Sort.putRow, Go.Sort.mapBlock, Go.Sort.ahead]
 rw [Array.getElem?_modify, if_neg (by omega)]
abbrev encB (b : UInt8) : Value := .int .u8 (b.toNat : Int)
theorem reverse_ct (blk cap : Nat) (l : Bs) (w : World) (hl : l.length <= 9223372036854775807) (h : ∀ (j : Nat) (u : UInt8), l[j]? = some u -> w.cell? ⟨blk, j, none⟩ = some (.int .u8 (u.toNat : Int)) /\ w.frozen? ⟨blk, j, none⟩ = false) :
  Calls Tryz.prog 77 #[.slice (some ⟨blk, 0, none⟩) l.length cap] w fun e w' => e = .returned (.tuple #[]) /\ (∀ (j : Nat) (u : UInt8), l.reverse[j]? = some u -> w'.cell? ⟨blk, j, none⟩ = some (.int .u8 (u.toNat : Int))) /\ w.heap.size <= w'.heap.size /\ ∀ B, B <= blk -> Below B w w' := by
 have hH : Go.Sort.Holds encB w blk 0 l.toArray := fun j hj => by
  have hj' : j < l.length := by simpa using hj
  have := h j l[j] (List.getElem?_eq_getElem hj')
  rw [Nat.zero_add]
  rw [getElem!_pos l.toArray j hj]
  simpa using this
 refine (Tryz.slices_Reverse_bytes encB (fun _ => rfl) blk 0 cap l w hH hl).mono fun e w' ⟨he, n, hw⟩ => ⟨he, fun j u hu => ?_, ?_, fun B hB => ?_⟩
 ·subst hw
  have hj := (List.getElem?_eq_some_iff.1 hu).1
  have h0 : Go.Sort.Holds encB (Go.Sort.ahead w n) blk 0 l.toArray := hH
  have := Go.Sort.cell?_putRow encB (Go.Sort.ahead w n) blk 0 l.toArray l.reverse.toArray h0 (by simp) j (by simpa using hj)
  rw [Nat.zero_add] at this
  rw [this, getElem!_pos l.reverse.toArray j (by simpa using hj)]
  obtain ⟨_, hq⟩ := List.getElem?_eq_some_iff.1 hu
  simp only [List.getElem_toArray, hq]
 ·rw [hw, Go.Sort.size_putRow]; exact Nat.le_refl _
 ·rw [hw]; exact below_put _ _ _ _ _ _ _ hB
theorem conv_back (blk cap : Nat) (l : Bs) (w : World) (h : ∀ (j : Nat) (u : UInt8), l[j]? = some u -> w.cell? ⟨blk, j, none⟩ = some (.int .u8 (u.toNat : Int))) :
  (convert 114 9 (.slice (some ⟨blk, 0, none⟩) l.length cap)).run Tryz.prog w = .ok (.string (bs l)) w :=
 run_convert_bytes_back w 114 9 5 ⟨blk, 0, none⟩ cap l Tryz.underlying114 Tryz.underlying5 Tryz.underlying9 (fun j hj => by
  rw [add_zero_block]
  exact h j _ (List.getElem?_eq_getElem hj))
theorem conv_rev (blk cap : Nat) (l : Bs) (w : World) (h : ∀ (j : Nat) (u : UInt8), l.reverse[j]? = some u -> w.cell? ⟨blk, j, none⟩ = some (.int .u8 (u.toNat : Int))) :
  (convert 114 9 (.slice (some ⟨blk, 0, none⟩) l.length cap)).run Tryz.prog w = .ok (.string (bs l.reverse)) w := by
 have := conv_back blk cap l.reverse w h
 rwa [List.length_reverse] at this
theorem letR_bd : ∀ (f n : Nat), n <= f -> (letR f n).length <= n
 | 0, n, h => by simp [letR]
 | f + 1, n, h => by
  unfold letR
  by_cases h0 : n = 0
  ·rw [if_pos h0]; simp
  ·rw [if_neg h0, List.length_cons]
   have := letR_bd f ((n - 1) / 26) (by omega)
   omega
theorem letters_ct (n : Nat) (h0 : 1 <= n) (hn : n <= 1000000) (w : World) : Calls Tryz.prog 57 #[.int .i64 n] w fun e w' => e = .returned (.string (bs (letP n))) /\ Below w.heap.size w w' := by
 obtain ⟨i0, hi, hz0, hz1, hz2⟩ := info_parts infoByte
 have Hz0 := hid hz0
 have Hi := hid hi
 have Hz1 := hid hz1
 have Hz2 := hid hz2
 have hlen := letR_bd n n (Nat.le_refl _)
 have hpos : 0 < (letR n n).length := by rw [letR_step (by omega)]; simp
 clear hz0 hi hz1 hz2
 go_enter Tryz.func57, Tryz.ntmps57
 go_wp2_with fail
 go_loopw [0, 3] (fun x v wr => ∃ (m : Nat) (acc : Bs), x = .int .i64 m /\ m <= n /\ letR n n = acc ++ letR m m /\ wr.ownsRow w.heap.size 5 1 v acc.length (Lib.byteCells acc) /\ Below w.heap.size w wr) (fun x _ _ => (intOf x).toNat)
 case atStart => exact ⟨n, [], rfl, Nat.le_refl _, rfl, World.ownsRow_nil _ _ _ _, Below.refl _ _⟩
 case round =>
  obtain ⟨m, acc, rfl, hmn, hinv, hrow, hbel⟩ := hrel
  have hz := hbel.size
  have hacc : acc.length <= n := by have := congrArg List.length hinv; rw [List.length_append] at this; omega
  have HBl := hid hbel
  replace hrow := hid hrow
  replace hinv := hid hinv
  clear hbel
  by_cases hm0 : m = 0
  ·subst hm0
   have hfin := hid (show letR n n = acc by rw [hinv.out]; simp [letR])
   have hl : acc.length = (letR n n).length := by rw [hfin.out]
   have hrow' := hrow.out
   rcases hrow'.2 with ⟨hv, hz'⟩ | ⟨g, cap, cur, hv, hg0, hcs, hc, hb⟩
   ·exact absurd hz' (by omega)
   subst hv
   have hgB := hg0
   have hcf : ∀ (j : Nat) (u : UInt8), acc[j]? = some u -> wr.cell? ⟨g, j, none⟩ = some (.int .u8 (u.toNat : Int)) /\ wr.frozen? ⟨g, j, none⟩ = false := fun j u hu => by
    have hj := (List.getElem?_eq_some_iff.1 hu).1
    exact ⟨(hrow'.cellAt j (by omega)).trans (by simp [Lib.byteCells, hu]), hrow'.frozenAt j⟩
   have cR := hid (reverse_ct g cap acc wr (by omega) hcf)
   clear hcf hrow' hg0 hcs hc hb hl hrow
   go_wp2_with ((go_at_call 77; (with_reducible refine (cR.out).mono ?_); rintro e W2 ⟨rfl, hc2, hz2, hb2⟩; have hcv := conv_rev g cap acc W2 hc2; have HB2 := hid (HBl.out.trans (hb2 _ hgB)); clear hc2 hb2))
   go_ret
   exact ⟨by rw [letP, hfin.out]; rfl, HB2.out⟩
  ·have hmz : (1 : Int) <= m := by omega
   have hmx : (m : Int) <= 1000000 := by omega
   have hst := hid (letR_step (n := m) (by omega))
   obtain ⟨a, cp, rfl⟩ := row_form hrow.out
   go_wp2_with ((at_builtin; refine wpList_append_own _ rfl _ _ 114 rfl w.heap.size 5 i0 (.int .u8 0) 1 1 Tryz.underlying114 Hi.out Hz0.out Hz1.out Hz2.out rfl (by decide) _ _ _ rfl (hrow.out.alloc _) ⟨wr.heap.size, 0, none⟩ 1 1 [.int .u8 (97 + ((m : Int) - 1) % 26)] rfl rfl ?c1 ?c2 ?c3 ?c4 ?c5 ?_))
   case c1 => exact (Blk.new (w := wr) (t := 5) (cs := #[.int .u8 (97 + ((m : Int) - 1) % 26)]) rfl).news
   case c2 => simp [Value.oneCell']
   case c3 => unfold maxLen; omega
   case c4 => omega
   case c5 => simp; omega
   intro v' w3 hown3 hgrow3 hnil3
   have hb3 := hid (below_app (HBl.out.alloc HBl.out.size _) hgrow3 (hrow.out.alloc _) (Nat.le_refl _) (by simp; omega))
   replace hown3 := hid hown3
   clear hgrow3 hnil3
   go_wp2
   go_roundw
   case rel =>
    refine ⟨(m - 1) / 26, acc ++ [UInt8.ofNat (97 + (m - 1) % 26)], by congr 1; omega, by omega, ?_, ?_, hb3.out⟩
    ·rw [hinv.out, hst.out]; simp
    ·have he : (97 : Int) + ((m : Int) - 1) % 26 = (((UInt8.ofNat (97 + (m - 1) % 26)).toNat : Nat) : Int) := by
      rw [UInt8.toNat_ofNat']
      omega
     have h3 := hown3.out
     rw [he] at h3
     simpa [Lib.byteCells] using h3
   case measure => simp [intOf]; omega
end cnt
namespace cnt
open Go.RowKit base tok dim
theorem rom_at : ∀ k : Fin 13, ∃ p : Nat × Bs, romT[k.val]? = some p /\ 1 <= p.1 /\ p.1 <= 1000 /\ p.2.length <= 2 := by
 intro k
 match k with
 | ⟨0, _⟩ => exact ⟨_, rfl, by decide, by decide, by decide⟩
 | ⟨1, _⟩ => exact ⟨_, rfl, by decide, by decide, by decide⟩
 | ⟨2, _⟩ => exact ⟨_, rfl, by decide, by decide, by decide⟩
 | ⟨3, _⟩ => exact ⟨_, rfl, by decide, by decide, by decide⟩
 | ⟨4, _⟩ => exact ⟨_, rfl, by decide, by decide, by decide⟩
 | ⟨5, _⟩ => exact ⟨_, rfl, by decide, by decide, by decide⟩
 | ⟨6, _⟩ => exact ⟨_, rfl, by decide, by decide, by decide⟩
 | ⟨7, _⟩ => exact ⟨_, rfl, by decide, by decide, by decide⟩
 | ⟨8, _⟩ => exact ⟨_, rfl, by decide, by decide, by decide⟩
 | ⟨9, _⟩ => exact ⟨_, rfl, by decide, by decide, by decide⟩
 | ⟨10, _⟩ => exact ⟨_, rfl, by decide, by decide, by decide⟩
 | ⟨11, _⟩ => exact ⟨_, rfl, by decide, by decide, by decide⟩
 | ⟨12, _⟩ => exact ⟨_, rfl, by decide, by decide, by decide⟩
theorem rom_idx0 : ∀ w, (Instr.index 140 (.agg #[.int .i64 1000, .string ⟨#[109]⟩, .int .i64 900, .string ⟨#[99, 109]⟩, .int .i64 500, .string ⟨#[100]⟩, .int .i64 400, .string ⟨#[99, 100]⟩, .int .i64 100, .string ⟨#[99]⟩, .int .i64 90, .string ⟨#[120, 99]⟩, .int .i64 50, .string ⟨#[108]⟩, .int .i64 40, .string ⟨#[120, 108]⟩, .int .i64 10, .string ⟨#[120]⟩, .int .i64 9, .string ⟨#[105, 120]⟩, .int .i64 5, .string ⟨#[118]⟩, .int .i64 4, .string ⟨#[105, 118]⟩, .int .i64 1, .string ⟨#[105]⟩]) (.int .i64 0)).run Tryz.prog w = .ok (.agg #[.int .i64 1000, .string ⟨#[109]⟩]) w := fun _ => by kernel_rfl
theorem rom_idx1 : ∀ w, (Instr.index 140 (.agg #[.int .i64 1000, .string ⟨#[109]⟩, .int .i64 900, .string ⟨#[99, 109]⟩, .int .i64 500, .string ⟨#[100]⟩, .int .i64 400, .string ⟨#[99, 100]⟩, .int .i64 100, .string ⟨#[99]⟩, .int .i64 90, .string ⟨#[120, 99]⟩, .int .i64 50, .string ⟨#[108]⟩, .int .i64 40, .string ⟨#[120, 108]⟩, .int .i64 10, .string ⟨#[120]⟩, .int .i64 9, .string ⟨#[105, 120]⟩, .int .i64 5, .string ⟨#[118]⟩, .int .i64 4, .string ⟨#[105, 118]⟩, .int .i64 1, .string ⟨#[105]⟩]) (.int .i64 1)).run Tryz.prog w = .ok (.agg #[.int .i64 900, .string ⟨#[99, 109]⟩]) w := fun _ => by kernel_rfl
theorem rom_idx2 : ∀ w, (Instr.index 140 (.agg #[.int .i64 1000, .string ⟨#[109]⟩, .int .i64 900, .string ⟨#[99, 109]⟩, .int .i64 500, .string ⟨#[100]⟩, .int .i64 400, .string ⟨#[99, 100]⟩, .int .i64 100, .string ⟨#[99]⟩, .int .i64 90, .string ⟨#[120, 99]⟩, .int .i64 50, .string ⟨#[108]⟩, .int .i64 40, .string ⟨#[120, 108]⟩, .int .i64 10, .string ⟨#[120]⟩, .int .i64 9, .string ⟨#[105, 120]⟩, .int .i64 5, .string ⟨#[118]⟩, .int .i64 4, .string ⟨#[105, 118]⟩, .int .i64 1, .string ⟨#[105]⟩]) (.int .i64 2)).run Tryz.prog w = .ok (.agg #[.int .i64 500, .string ⟨#[100]⟩]) w := fun _ => by kernel_rfl
theorem rom_idx3 : ∀ w, (Instr.index 140 (.agg #[.int .i64 1000, .string ⟨#[109]⟩, .int .i64 900, .string ⟨#[99, 109]⟩, .int .i64 500, .string ⟨#[100]⟩, .int .i64 400, .string ⟨#[99, 100]⟩, .int .i64 100, .string ⟨#[99]⟩, .int .i64 90, .string ⟨#[120, 99]⟩, .int .i64 50, .string ⟨#[108]⟩, .int .i64 40, .string ⟨#[120, 108]⟩, .int .i64 10, .string ⟨#[120]⟩, .int .i64 9, .string ⟨#[105, 120]⟩, .int .i64 5, .string ⟨#[118]⟩, .int .i64 4, .string ⟨#[105, 118]⟩, .int .i64 1, .string ⟨#[105]⟩]) (.int .i64 3)).run Tryz.prog w = .ok (.agg #[.int .i64 400, .string ⟨#[99, 100]⟩]) w := fun _ => by kernel_rfl
theorem rom_idx4 : ∀ w, (Instr.index 140 (.agg #[.int .i64 1000, .string ⟨#[109]⟩, .int .i64 900, .string ⟨#[99, 109]⟩, .int .i64 500, .string ⟨#[100]⟩, .int .i64 400, .string ⟨#[99, 100]⟩, .int .i64 100, .string ⟨#[99]⟩, .int .i64 90, .string ⟨#[120, 99]⟩, .int .i64 50, .string ⟨#[108]⟩, .int .i64 40, .string ⟨#[120, 108]⟩, .int .i64 10, .string ⟨#[120]⟩, .int .i64 9, .string ⟨#[105, 120]⟩, .int .i64 5, .string ⟨#[118]⟩, .int .i64 4, .string ⟨#[105, 118]⟩, .int .i64 1, .string ⟨#[105]⟩]) (.int .i64 4)).run Tryz.prog w = .ok (.agg #[.int .i64 100, .string ⟨#[99]⟩]) w := fun _ => by kernel_rfl
theorem rom_idx5 : ∀ w, (Instr.index 140 (.agg #[.int .i64 1000, .string ⟨#[109]⟩, .int .i64 900, .string ⟨#[99, 109]⟩, .int .i64 500, .string ⟨#[100]⟩, .int .i64 400, .string ⟨#[99, 100]⟩, .int .i64 100, .string ⟨#[99]⟩, .int .i64 90, .string ⟨#[120, 99]⟩, .int .i64 50, .string ⟨#[108]⟩, .int .i64 40, .string ⟨#[120, 108]⟩, .int .i64 10, .string ⟨#[120]⟩, .int .i64 9, .string ⟨#[105, 120]⟩, .int .i64 5, .string ⟨#[118]⟩, .int .i64 4, .string ⟨#[105, 118]⟩, .int .i64 1, .string ⟨#[105]⟩]) (.int .i64 5)).run Tryz.prog w = .ok (.agg #[.int .i64 90, .string ⟨#[120, 99]⟩]) w := fun _ => by kernel_rfl
theorem rom_idx6 : ∀ w, (Instr.index 140 (.agg #[.int .i64 1000, .string ⟨#[109]⟩, .int .i64 900, .string ⟨#[99, 109]⟩, .int .i64 500, .string ⟨#[100]⟩, .int .i64 400, .string ⟨#[99, 100]⟩, .int .i64 100, .string ⟨#[99]⟩, .int .i64 90, .string ⟨#[120, 99]⟩, .int .i64 50, .string ⟨#[108]⟩, .int .i64 40, .string ⟨#[120, 108]⟩, .int .i64 10, .string ⟨#[120]⟩, .int .i64 9, .string ⟨#[105, 120]⟩, .int .i64 5, .string ⟨#[118]⟩, .int .i64 4, .string ⟨#[105, 118]⟩, .int .i64 1, .string ⟨#[105]⟩]) (.int .i64 6)).run Tryz.prog w = .ok (.agg #[.int .i64 50, .string ⟨#[108]⟩]) w := fun _ => by kernel_rfl
theorem rom_idx7 : ∀ w, (Instr.index 140 (.agg #[.int .i64 1000, .string ⟨#[109]⟩, .int .i64 900, .string ⟨#[99, 109]⟩, .int .i64 500, .string ⟨#[100]⟩, .int .i64 400, .string ⟨#[99, 100]⟩, .int .i64 100, .string ⟨#[99]⟩, .int .i64 90, .string ⟨#[120, 99]⟩, .int .i64 50, .string ⟨#[108]⟩, .int .i64 40, .string ⟨#[120, 108]⟩, .int .i64 10, .string ⟨#[120]⟩, .int .i64 9, .string ⟨#[105, 120]⟩, .int .i64 5, .string ⟨#[118]⟩, .int .i64 4, .string ⟨#[105, 118]⟩, .int .i64 1, .string ⟨#[105]⟩]) (.int .i64 7)).run Tryz.prog w = .ok (.agg #[.int .i64 40, .string ⟨#[120, 108]⟩]) w := fun _ => by kernel_rfl
theorem rom_idx8 : ∀ w, (Instr.index 140 (.agg #[.int .i64 1000, .string ⟨#[109]⟩, .int .i64 900, .string ⟨#[99, 109]⟩, .int .i64 500, .string ⟨#[100]⟩, .int .i64 400, .string ⟨#[99, 100]⟩, .int .i64 100, .string ⟨#[99]⟩, .int .i64 90, .string ⟨#[120, 99]⟩, .int .i64 50, .string ⟨#[108]⟩, .int .i64 40, .string ⟨#[120, 108]⟩, .int .i64 10, .string ⟨#[120]⟩, .int .i64 9, .string ⟨#[105, 120]⟩, .int .i64 5, .string ⟨#[118]⟩, .int .i64 4, .string ⟨#[105, 118]⟩, .int .i64 1, .string ⟨#[105]⟩]) (.int .i64 8)).run Tryz.prog w = .ok (.agg #[.int .i64 10, .string ⟨#[120]⟩]) w := fun _ => by kernel_rfl
theorem rom_idx9 : ∀ w, (Instr.index 140 (.agg #[.int .i64 1000, .string ⟨#[109]⟩, .int .i64 900, .string ⟨#[99, 109]⟩, .int .i64 500, .string ⟨#[100]⟩, .int .i64 400, .string ⟨#[99, 100]⟩, .int .i64 100, .string ⟨#[99]⟩, .int .i64 90, .string ⟨#[120, 99]⟩, .int .i64 50, .string ⟨#[108]⟩, .int .i64 40, .string ⟨#[120, 108]⟩, .int .i64 10, .string ⟨#[120]⟩, .int .i64 9, .string ⟨#[105, 120]⟩, .int .i64 5, .string ⟨#[118]⟩, .int .i64 4, .string ⟨#[105, 118]⟩, .int .i64 1, .string ⟨#[105]⟩]) (.int .i64 9)).run Tryz.prog w = .ok (.agg #[.int .i64 9, .string ⟨#[105, 120]⟩]) w := fun _ => by kernel_rfl
theorem rom_idx10 : ∀ w, (Instr.index 140 (.agg #[.int .i64 1000, .string ⟨#[109]⟩, .int .i64 900, .string ⟨#[99, 109]⟩, .int .i64 500, .string ⟨#[100]⟩, .int .i64 400, .string ⟨#[99, 100]⟩, .int .i64 100, .string ⟨#[99]⟩, .int .i64 90, .string ⟨#[120, 99]⟩, .int .i64 50, .string ⟨#[108]⟩, .int .i64 40, .string ⟨#[120, 108]⟩, .int .i64 10, .string ⟨#[120]⟩, .int .i64 9, .string ⟨#[105, 120]⟩, .int .i64 5, .string ⟨#[118]⟩, .int .i64 4, .string ⟨#[105, 118]⟩, .int .i64 1, .string ⟨#[105]⟩]) (.int .i64 10)).run Tryz.prog w = .ok (.agg #[.int .i64 5, .string ⟨#[118]⟩]) w := fun _ => by kernel_rfl
theorem rom_idx11 : ∀ w, (Instr.index 140 (.agg #[.int .i64 1000, .string ⟨#[109]⟩, .int .i64 900, .string ⟨#[99, 109]⟩, .int .i64 500, .string ⟨#[100]⟩, .int .i64 400, .string ⟨#[99, 100]⟩, .int .i64 100, .string ⟨#[99]⟩, .int .i64 90, .string ⟨#[120, 99]⟩, .int .i64 50, .string ⟨#[108]⟩, .int .i64 40, .string ⟨#[120, 108]⟩, .int .i64 10, .string ⟨#[120]⟩, .int .i64 9, .string ⟨#[105, 120]⟩, .int .i64 5, .string ⟨#[118]⟩, .int .i64 4, .string ⟨#[105, 118]⟩, .int .i64 1, .string ⟨#[105]⟩]) (.int .i64 11)).run Tryz.prog w = .ok (.agg #[.int .i64 4, .string ⟨#[105, 118]⟩]) w := fun _ => by kernel_rfl
theorem rom_idx12 : ∀ w, (Instr.index 140 (.agg #[.int .i64 1000, .string ⟨#[109]⟩, .int .i64 900, .string ⟨#[99, 109]⟩, .int .i64 500, .string ⟨#[100]⟩, .int .i64 400, .string ⟨#[99, 100]⟩, .int .i64 100, .string ⟨#[99]⟩, .int .i64 90, .string ⟨#[120, 99]⟩, .int .i64 50, .string ⟨#[108]⟩, .int .i64 40, .string ⟨#[120, 108]⟩, .int .i64 10, .string ⟨#[120]⟩, .int .i64 9, .string ⟨#[105, 120]⟩, .int .i64 5, .string ⟨#[118]⟩, .int .i64 4, .string ⟨#[105, 118]⟩, .int .i64 1, .string ⟨#[105]⟩]) (.int .i64 12)).run Tryz.prog w = .ok (.agg #[.int .i64 1, .string ⟨#[105]⟩]) w := fun _ => by kernel_rfl
theorem rom_idx (k : Nat) (hk : k < 13) (d : Nat) (s : Bs) (h : romT[k]? = some (d, s)) (w : World) :
  (Instr.index 140 (.agg #[.int .i64 1000, .string ⟨#[109]⟩, .int .i64 900, .string ⟨#[99, 109]⟩, .int .i64 500, .string ⟨#[100]⟩, .int .i64 400, .string ⟨#[99, 100]⟩, .int .i64 100, .string ⟨#[99]⟩, .int .i64 90, .string ⟨#[120, 99]⟩, .int .i64 50, .string ⟨#[108]⟩, .int .i64 40, .string ⟨#[120, 108]⟩, .int .i64 10, .string ⟨#[120]⟩, .int .i64 9, .string ⟨#[105, 120]⟩, .int .i64 5, .string ⟨#[118]⟩, .int .i64 4, .string ⟨#[105, 118]⟩, .int .i64 1, .string ⟨#[105]⟩]) (.int .i64 (k : Int))).run Tryz.prog w = .ok (.agg #[.int .i64 (d : Int), .string (bs s)]) w := by
 match k, hk with
 | 0, _ =>
  obtain ⟨rfl, rfl⟩ : d = 1000 /\ s = [109] := by simpa [romT, eq_comm] using h
  exact rom_idx0 w
 | 1, _ =>
  obtain ⟨rfl, rfl⟩ : d = 900 /\ s = [99, 109] := by simpa [romT, eq_comm] using h
  exact rom_idx1 w
 | 2, _ =>
  obtain ⟨rfl, rfl⟩ : d = 500 /\ s = [100] := by simpa [romT, eq_comm] using h
  exact rom_idx2 w
 | 3, _ =>
  obtain ⟨rfl, rfl⟩ : d = 400 /\ s = [99, 100] := by simpa [romT, eq_comm] using h
  exact rom_idx3 w
 | 4, _ =>
  obtain ⟨rfl, rfl⟩ : d = 100 /\ s = [99] := by simpa [romT, eq_comm] using h
  exact rom_idx4 w
 | 5, _ =>
  obtain ⟨rfl, rfl⟩ : d = 90 /\ s = [120, 99] := by simpa [romT, eq_comm] using h
  exact rom_idx5 w
 | 6, _ =>
  obtain ⟨rfl, rfl⟩ : d = 50 /\ s = [108] := by simpa [romT, eq_comm] using h
  exact rom_idx6 w
 | 7, _ =>
  obtain ⟨rfl, rfl⟩ : d = 40 /\ s = [120, 108] := by simpa [romT, eq_comm] using h
  exact rom_idx7 w
 | 8, _ =>
  obtain ⟨rfl, rfl⟩ : d = 10 /\ s = [120] := by simpa [romT, eq_comm] using h
  exact rom_idx8 w
 | 9, _ =>
  obtain ⟨rfl, rfl⟩ : d = 9 /\ s = [105, 120] := by simpa [romT, eq_comm] using h
  exact rom_idx9 w
 | 10, _ =>
  obtain ⟨rfl, rfl⟩ : d = 5 /\ s = [118] := by simpa [romT, eq_comm] using h
  exact rom_idx10 w
 | 11, _ =>
  obtain ⟨rfl, rfl⟩ : d = 4 /\ s = [105, 118] := by simpa [romT, eq_comm] using h
  exact rom_idx11 w
 | 12, _ =>
  obtain ⟨rfl, rfl⟩ : d = 1 /\ s = [105] := by simpa [romT, eq_comm] using h
  exact rom_idx12 w
theorem romF_bd : ∀ (T : List (Nat × Bs)), (∀ p ∈ T, 1 <= p.1 /\ p.2.length <= 2 * p.1) -> ∀ n, (romF T n).length <= 2 * n
 | [], _, n => by simp [romF]
 | (d, s) :: T, hT, n => by
  have h1 := romF_bd T (fun p hp => hT p (by simp [hp])) (n % d)
  obtain ⟨h2, h3⟩ := hT (d, s) (by simp)
  simp only at h2 h3
  show ((List.replicate (n / d) s).flatten ++ romF T (n % d)).length <= 2 * n
  rw [List.length_append]
  have h4 : (List.replicate (n / d) s).flatten.length = n / d * s.length := by simp [List.length_flatten]
  have h5 := Nat.div_add_mod n d
  have h6 : n / d * s.length <= n / d * (2 * d) := Nat.mul_le_mul_left _ h3
  have h7 : n / d * (2 * d) = 2 * (d * (n / d)) := by rw [Nat.mul_comm (n / d), Nat.mul_assoc]
  omega
theorem rom_bd (n : Nat) : (romP n).length <= 2 * n := romF_bd romT (by decide) n
theorem drop_at {k : Nat} {p : Nat × Bs} (h : romT[k]? = some p) : romT.drop k = p :: romT.drop (k + 1) := by
 obtain ⟨hl, he⟩ := List.getElem?_eq_some_iff.1 h
 rw [List.drop_eq_getElem_cons hl, he]
theorem roman_ct (n : Nat) (hn : n <= 3999) (w : World) : Calls Tryz.prog 59 #[.int .i64 n] w fun e w' => e = .returned (.string (bs (romP n))) /\ Below w.heap.size w w' := by
 have hlen := rom_bd n
 go_enter Tryz.func59, Tryz.ntmps59
 go_wp2_with fail
 go_loopw [0, 20] (fun x i wr => ∃ (k m : Nat) (out : Bs), k <= 13 /\ i = .int .i64 k /\ x = .int .i64 m /\ m <= 3999 /\ romP n = out ++ romF (romT.drop k) m /\ IsB w.heap.size w.heap.size out wr /\ Below w.heap.size w wr /\ w.heap.size < wr.heap.size) (fun _ i _ => 13 - (intOf i).toNat)
 case atStart => exact ⟨0, n, [], by omega, rfl, rfl, hn, rfl, IsB.new w _ (Nat.le_refl _), ba _ _, by simp⟩
 case round =>
  obtain ⟨k, m, out, hk, rfl, rfl, hm, hinv, hib, hbel, hlt⟩ := hrel
  have hol : out.length <= 7998 := by have := congrArg List.length hinv; rw [List.length_append] at this; omega
  have HIb := hid hib
  have HBl := hid hbel
  have HInv := hid hinv
  clear hib hbel hinv
  by_cases hk13 : k < 13
  ·obtain ⟨⟨d, s⟩, hd, hd1, hd2, hs⟩ := rom_at ⟨k, hk13⟩
   simp only at hd hd1 hd2 hs
   have hidx := rom_idx k hk13 d s hd
   have HD := hid (drop_at hd)
   obtain ⟨wo, hwo⟩ : ∃ wo, wo = wr := ⟨_, rfl⟩
   subst hwo
   have kb : decide ((k : Int) < 13) = true := decide_eq_true (by omega)
   clear hd
   go_wp2_with fail
   generalize hV : wo.alloc (.cells #[.int .i64 (d : Int), .string (bs s)] 139) = V
   have HV := hid (show Below w.heap.size w V by subst hV; exact HBl.out.alloc HBl.out.size _)
   have cV := hid (show Blk V wo.heap.size 139 #[.int .i64 (d : Int), .string (bs s)] by subst hV; exact Blk.new rfl)
   have iV := hid (show IsB w.heap.size w.heap.size out V by subst hV; exact HIb.out.on (ba _ _))
   have zV : wo.heap.size < V.heap.size := by subst hV; simp
   clear hV hidx HIb HBl
   go_loopw [0] (fun x wx => ∃ (m : Nat) (out : Bs), x = .int .i64 m /\ m <= 3999 /\ romP n = out ++ romF ((d, s) :: romT.drop (k + 1)) m /\ IsB w.heap.size w.heap.size out wx /\ Below w.heap.size w wx /\ Blk wx wo.heap.size 139 #[.int .i64 (d : Int), .string (bs s)]) (fun x _ => (intOf x).toNat)
   case atStart => exact ⟨m, out, rfl, hm, by rw [HInv.out, HD.out], iV.out, HV.out, cV.out⟩
   case round =>
    clear HInv hol iV HV cV zV hm
    obtain ⟨m, out, rfl, hm, hinv, hib, hbel, hblk⟩ := hrel
    have hol : out.length <= 7998 := by have := congrArg List.length hinv; rw [List.length_append] at this; omega
    have cx := hblk.cell
    have HBk := hid hblk
    have HIb := hid hib
    have HBl := hid hbel
    have HInv := hid hinv
    have hzr := hbel.size
    have hzk := hblk.lt
    clear hib hbel hinv hblk
    by_cases hge : d <= m
    ·have hge' : (d : Int) <= m := by omega
     have hdz : (1 : Int) <= d := by omega
     have hmz : (m : Int) <= 3999 := by omega
     have HM := hid (romF_more (s := s) (T := romT.drop (k + 1)) (show 0 < d by omega) hge)
     have cW := hid (writeString_on w.heap.size w.heap.size out (bs s) wr HIb.out (by rw [bs_size]; omega) hzr wo.heap.size 139 #[.int .i64 (d : Int), .string (bs s)] HBk.out (by decide) (by omega))
     go_wp2_with ((go_at_call 79; (with_reducible refine (cW.out).mono ?_); rintro e W2 ⟨rfl, hib2, hb2, hk2⟩; have cx2 := hk2.cell; have HI2 := hid hib2; have HB2 := hid (HBl.out.trans hb2); have HK2 := hid hk2; clear hib2 hb2 hk2 cx))
     go_roundw
     case rel => exact ⟨m - d, out ++ s, by congr 1; omega, by omega, by rw [HInv.out, HM.out, List.append_assoc], HI2.out, HB2.out, HK2.out⟩
     case measure => simp [intOf]; omega
    ·have hge' : (m : Int) < d := by omega
     have HL := hid (romF_less (s := s) (T := romT.drop (k + 1)) (show m < d by omega))
     go_wp2_with fail
     go_roundw
     case rel => exact ⟨k + 1, m, out, by omega, by go_num, rfl, hm, by rw [HInv.out, HL.out], HIb.out, HBl.out, by omega⟩
     case measure => simp [intOf]; omega
  ·obtain rfl : k = 13 := by omega
   have hfin : romP n = out := by rw [HInv.out]; simp [romT, romF]
   have cS := hid (builderString_ct w.heap.size w.heap.size out _ HIb.out (by omega))
   have HF := hid hfin
   clear hfin
   go_wp2_with ((go_at_call 81; (with_reducible refine (cS.out).mono ?_); rintro e W2 ⟨rfl, hb2⟩; have HB2 := hid (HBl.out.trans (hb2.mono (by omega))); clear hb2))
   go_ret
   exact ⟨by rw [HF.out]; rfl, HB2.out⟩
end cnt
end Go.Proofs.YthgffoanecknoaaGreatDoor
