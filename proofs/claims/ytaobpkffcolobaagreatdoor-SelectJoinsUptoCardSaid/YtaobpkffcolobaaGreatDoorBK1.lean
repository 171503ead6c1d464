/- Contracts and plain law, a bundle. -/
import Derived.Laws.Tables
import Derived.Laws.IdiomStrings
import Derived.Lib.Hide
import Derived.Test.YtaobpkffcolobaaGreatDoorBK
import Derived.Test.YtaobpkffcolobaaGreatDoorBE3
set_option linter.unusedVariables false
set_option maxRecDepth 100000
set_option maxHeartbeats 16000000
open Go.Lib (hid)
namespace Go.Proofs.YtaobpkffcolobaaGreatDoor
namespace quo
open Go.RowKit base tok rul sel
theorem zero_is : Tryz.zeroCells182 = Array.replicate 257 (.slice none 0 0) := by kernel_rfl
theorem store_zero (W : World) (v : Value) (hv : v.oneCell' = true) : ∃ W2, (storeCells ⟨W.heap.size, 0, none⟩ (Tryz.zeroCells182.toList.set 256 v)).run Tryz.prog (W.alloc (.cells Tryz.zeroCells182 182)) = .ok () W2 /\ Blk W2 W.heap.size 182 (Tryz.zeroCells182.toList.set 256 v).toArray /\ Below W.heap.size W W2 /\ W2.heap.size = W.heap.size + 1 := by
 have hg : (W.alloc (.cells Tryz.zeroCells182 182)).heap[W.heap.size]? = some (.cells Tryz.zeroCells182 182 (0, 0)) := (Blk.new rfl : Blk (W.alloc (.cells Tryz.zeroCells182 182)) W.heap.size 182 Tryz.zeroCells182)
 have hz : Tryz.zeroCells182.size = 257 := by rw [zero_is, Array.size_replicate]
 have h1 : ∀ u ∈ (Tryz.zeroCells182.toList.set 256 v), u.oneCell' = true := by
  intro u hu
  rcases List.mem_or_eq_of_mem_set hu with h | h
  ·rw [zero_is] at h
   rw [Array.toList_replicate] at h
   rw [List.eq_of_mem_replicate h]; rfl
  ·rw [h]; exact hv
 have h := run_storeCells_from (P := Tryz.prog) W.heap.size 182 (Tryz.zeroCells182.toList.set 256 v) 0 Tryz.zeroCells182 (W.alloc (.cells Tryz.zeroCells182 182)) hg (by rw [List.length_set, Array.length_toList, Nat.zero_add]) h1
 refine ⟨_, h, ?_, ?_, ?_⟩
 ·have := setRow_heap (W.alloc (.cells Tryz.zeroCells182 182)) W.heap.size Tryz.zeroCells182 (Tryz.zeroCells182.toList.take 0 ++ Tryz.zeroCells182.toList.set 256 v).toArray 182 (0, 0) hg
  simpa [Blk] using this
 ·exact (ba W _).trans ⟨rfl, rfl, rfl, by simp, fun k hk => setRow_other _ _ k _ (by omega)⟩
 ·simp
def Rep (D : List (Nat × Bs)) (B : Nat) (S : List (Option Nat)) (w : World) (cs : Array Value) (j : Nat) : Prop :=
 (∃ n g c, (j, n) ∈ D /\ cs[j]? = some (.slice (some ⟨g, 0, none⟩) n.length c) /\ XS B S g /\ g < w.heap.size /\ ∀ (i : Nat) (x : UInt8), n[i]? = some x -> w.cell? ⟨g, i, none⟩ = some (.int .u8 (nv x))) ∨
 ((∀ n, (j, n) ∉ D) /\ cs[j]? = some (.slice none 0 0))
theorem Rep.on {D : List (Nat × Bs)} {B : Nat} {S S' : List (Option Nat)} {w w' : World} {cs : Array Value} {j : Nat} (h : Rep D B S w cs j) (hk : Kp B S w S' w') : Rep D B S' w' cs j := by
 rcases h with ⟨n, g, c, h1, h2, h4, h5, h7⟩ | h
 ·obtain ⟨k1, k2⟩ := hk.2 g h4 h5
  exact .inl ⟨n, g, c, h1, h2, k1, Nat.lt_of_lt_of_le h5 hk.1, fun i x hx => (World.cell?_of_block (w := w) (w' := w') (a := ⟨g, i, none⟩) k2).trans (h7 i x hx)⟩
 ·exact .inr h
theorem Rep.off {D : List (Nat × Bs)} {B : Nat} {S : List (Option Nat)} {w : World} {cs : Array Value} {j k : Nat} (h : Rep D B S w cs j) (hj : j ≠ k) (v : Value) : Rep D B S w (cs.setIfInBounds k v) j := by
 have e : (cs.setIfInBounds k v)[j]? = cs[j]? := by rw [Array.getElem?_setIfInBounds_ne (by omega)]
 rcases h with ⟨n, g, c, h1, h2, h3⟩ | ⟨h1, h2⟩
 ·exact .inl ⟨n, g, c, h1, e.trans h2, h3⟩
 ·exact .inr ⟨h1, e.trans h2⟩
theorem Rep.more {D : List (Nat × Bs)} {B : Nat} {S : List (Option Nat)} {w : World} {cs : Array Value} {j o : Nat} {n : Bs} (h : Rep D B S w cs j) (hj : j ≠ o) : Rep (D ++ [(o, n)]) B S w cs j := by
 rcases h with ⟨m, g, c, h1, h2, h3⟩ | ⟨h1, h2⟩
 ·exact .inl ⟨m, g, c, List.mem_append_left _ h1, h2, h3⟩
 ·exact .inr ⟨fun m hm => by
   rcases List.mem_append.1 hm with h3 | h3
   ·exact h1 m h3
   ·simp only [List.mem_cons, List.not_mem_nil, or_false, Prod.mk.injEq] at h3
    exact hj h3.1, h2⟩
theorem Rep.none {D : List (Nat × Bs)} {B : Nat} {S : List (Option Nat)} {w : World} {cs : Array Value} {j : Nat} (h : Rep D B S w cs j) (hj : ∀ n, (j, n) ∉ D) : cs[j]? = some (.slice none 0 0) := by
 rcases h with ⟨n, g, c, h1, _⟩ | ⟨_, h2⟩
 ·exact absurd h1 (hj n)
 ·exact h2
def RSt (w : World) (R : Nat) (D : List (Nat × Bs)) (X : List Value) (wr : World) : Prop :=
 ∃ (cs : Array Value) (tv : Value), Blk wr R 182 cs /\ cs.size = 257 /\ cs[256]? = some tv /\ wr.ownsRow w.heap.size 9 1 tv X.length X /\ tv.ownBlock ≠ some R /\ (∀ j, j < 256 -> Rep D w.heap.size [some R, tv.ownBlock] wr cs j) /\ Below w.heap.size w wr /\ w.heap.size <= R /\ R < wr.heap.size
def D3 : List (Nat × Bs) := [(10, [92, 10]), (34, [92, 34]), (92, [92, 92])]
def X3 : List Value := [.string ⟨#[10]⟩, .string ⟨#[34]⟩, .string ⟨#[92]⟩]
def BuildPost (w : World) (e : Ending) (w' : World) : Prop := ∃ R, e = .returned (.iface 183 ((pn R))) /\ RSt w R D3 X3 w'
theorem two_mem {v v' : Option Nat} {q n : Nat} (h : v' = v ∨ v' = some n) {x : Option Nat} (hx : x ∈ [some q, v']) : x ∈ [some q, v] ∨ x = some n := by
 simp only [List.mem_cons, List.not_mem_nil, or_false] at hx ⊢
 rcases hx with rfl | rfl
 ·exact .inl (.inl rfl)
 ·rcases h with h | h
  ·exact .inl (.inr h)
  ·exact .inr h
theorem news_at (W : World) (o : Obj) (cs : Array Value) (t : TypeId) : ∀ j u, cs.toList[j]? = some u -> ((W.alloc o).alloc (.cells cs t)).cell? ((⟨W.heap.size + 1, 0, none⟩ : Addr).add j) = some u := by
 have h := (Blk.new (w := W.alloc o) (t := t) (cs := cs) rfl).news
 rw [World.size_alloc] at h
 exact h
theorem build_ct (b g cap : Nat) (x0 x1 x2 : Int) (w : World) (hb : Blk w b 154 #[.int .u32 x0, .int .i32 x1, .int .u32 x2, .nilIface, .slice (some ⟨g, 0, none⟩) 6 cap]) (hgl : g < w.heap.size) (hg : ∀ (j : Nat) (u : Value), pairs[j]? = some u -> w.cell? ⟨g, j, none⟩ = some u) :
  Calls Tryz.prog 124 #[(pn b)] w (BuildPost w) := by
 have hbc := hb.cell
 have g0 : w.cell? ⟨g, 0, none⟩ = some (.string ⟨#[92]⟩) := hg 0 _ rfl
 have g1 : w.cell? ⟨g, 1, none⟩ = some (.string ⟨#[92, 92]⟩) := hg 1 _ rfl
 have g2 : w.cell? ⟨g, 2, none⟩ = some (.string ⟨#[34]⟩) := hg 2 _ rfl
 have g3 : w.cell? ⟨g, 3, none⟩ = some (.string ⟨#[92, 34]⟩) := hg 3 _ rfl
 have g4 : w.cell? ⟨g, 4, none⟩ = some (.string ⟨#[10]⟩) := hg 4 _ rfl
 have g5 : w.cell? ⟨g, 5, none⟩ = some (.string ⟨#[92, 10]⟩) := hg 5 _ rfl
 obtain ⟨i0, hi, hz0, hz1, hz2⟩ := info_parts infoStr
 have Hz0 := hid hz0
 have Hi := hid hi
 have Hz1 := hid hz1
 have Hz2 := hid hz2
 clear hz0 hi hz1 hz2 hg hb
 go_enter Tryz.func124, Tryz.ntmps124
 go_wp2_with fail
 go_loopw [4, 5] (fun a i wr => ∃ k : Nat, k <= 3 /\ a = .bool (k == 0) /\ i = .int .i64 ((2 * k : Nat) : Int) /\ wr = w) (fun _ i _ => 6 - (intOf i).toNat)
 case atStart => exact ⟨0, by decide, rfl, rfl, rfl⟩
 case round =>
  obtain ⟨k, hk, rfl, rfl, hwr⟩ := hrel
  obtain rfl := hwr.symm
  by_cases h3 : k = 3
  ·subst h3
   go_wp2_with (at_make; refine wpList_make_own _ rfl _ _ 23 rfl w.heap.size 9 i0 (.string .empty) 1 Tryz.underlying23 Hi.out Hz0.out Hz1.out .i64 .i64 3 3 rfl rfl rfl (by rw [Hz2.out]; decide) (by decide) (Nat.le_refl _) ?_; intro w1 hrow1 hgrow1; obtain ⟨W2, hst2, hblk2, hb2, hz2⟩ := store_zero w1 (.slice (some ⟨w.heap.size, 0, none⟩) 0 3) rfl; have HR1 := hid (row_on hrow1 hb2); have HB1 := hid ((show Below w.heap.size w w1 from ⟨hgrow1.os, hgrow1.tape, hgrow1.output, hgrow1.size, fun k hk => hgrow1.block k hk (by simp)⟩).trans (hb2.mono hgrow1.size)); have HBL := hid hblk2; have hw1 := (hrow1.lt w.heap.size rfl).2; clear hrow1 hgrow1 hb2 hblk2)
   go_loopw [12] (fun i wr => ∃ k : Nat, k <= 3 /\ i = .int .i64 (4 - 2 * (k : Int)) /\ RSt w w1.heap.size (D3.take k) (X3.take k) wr) (fun i _ => (intOf i + 2).toNat)
   case atStart =>
    refine ⟨0, by decide, rfl, _, _, HBL.out, ?_, ?_, HR1.out, ?_, ?_, HB1.out, by omega, by omega⟩
    ·rw [List.size_toArray, List.length_set, Array.length_toList, zero_is, Array.size_replicate]
    ·rw [List.getElem?_toArray, List.getElem?_set_self (by rw [Array.length_toList, zero_is, Array.size_replicate]; decide)]
    ·intro e; simp [Value.ownBlock] at e; omega
    ·intro j hj
     refine .inr ⟨fun n hn => (by cases hn), ?_⟩
     rw [List.getElem?_toArray, List.getElem?_set_ne (by omega), zero_is, Array.toList_replicate, List.getElem?_replicate, if_pos (by omega)]
   case round =>
    obtain ⟨k, hk, rfl, hst⟩ := hrel
    by_cases h3 : k = 3
    ·subst h3
     have HST := hid hst
     clear hst
     go_wp2_with fail
     go_ret
     exact ⟨w1.heap.size, rfl, HST.out⟩
    ·have hk3 : k = 0 ∨ k = 1 ∨ k = 2 := by omega
     rcases hk3 with rfl | rfl | rfl
     ·have hst := hst
      obtain ⟨cs, tv, hblk, hcs, htv, hrow, htR, hrep, hbw, hRw, hRl⟩ := hst
      replace hrow : wr.ownsRow w.heap.size 9 1 tv 0 [] := hrow
      obtain ⟨ta, tc, rfl⟩ := row_form hrow
      have c0 := (hblk.cell 10).trans ((hrep 10 (by decide)).none (fun n hn => by simp [D3] at hn))
      have c1 := (hblk.cell 256).trans htv
      have fz := hblk.frozen
      have k0 := (hbw.cell (p := ⟨g, 4, none⟩) hgl).trans g4
      have k1 := (hbw.cell (p := ⟨g, 5, none⟩) hgl).trans g5
      have hc1 : (convert 34 9 (.slice (some ⟨wr.heap.size, 0, none⟩) 1 1)).run Tryz.prog (wr.alloc (.cells #[.int .u8 10] 5)) = .ok (.string ⟨#[10]⟩) (wr.alloc (.cells #[.int .u8 10] 5)) :=
       run_convert_bytes_back (wr.alloc (.cells #[.int .u8 10] 5)) 34 9 5 ⟨wr.heap.size, 0, none⟩ 1 [10] Tryz.underlying34 Tryz.underlying5 Tryz.underlying9 (fun j hj => by
        obtain rfl : j = 0 := by simpa using hj
        exact (Blk.new (w := wr) (t := 5) (cs := #[.int .u8 10]) rfl).cell 0)
      have hnil : ∀ W : World, (binOp .eql 34 (.slice none 0 0) (.slice none 0 0)).run Tryz.prog W = .ok (.bool true) W := fun W => rfl
      have hix : ∀ h, (((⟨#[10]⟩ : ByteArray)[0]'h).toNat : Int) = 10 := fun h => rfl
      have cW := (hblk.alloc (.cells #[.int .u8 10] 5)).cell 256
      have cW2 := ((hblk.alloc (.cells #[.int .u8 10] 5)).alloc (.cells #[.string ⟨#[10]⟩] 9)).cell 256
      rw [htv] at cW cW2
      have htv2 := hid htv
      have c0v := hid ((hrep 10 (by decide)).none (fun n hn => by simp [D3] at hn))
      have HB := hid hblk
      have HO := hid hrow
      have HW := hid hbw
      have HREP := hid hrep
      have HCS := hid hcs
      have HTR := hid htR
      have hwz := hbw.size
      clear hst hblk hrow hbw hrep hcs htR htv
      go_wp2_with (at_builtin; refine wpList_append_own_at _ rfl _ _ 23 rfl w.heap.size 9 i0 (.string .empty) 1 16 Tryz.underlying23 Hi.out Hz0.out Hz1.out Hz2.out rfl (by decide) _ _ _ rfl ((HO.out.alloc (.cells #[.int .u8 10] 5)).alloc (.cells #[.string ⟨#[10]⟩] 9)) ⟨wr.heap.size + 1, 0, none⟩ 1 1 [.string ⟨#[10]⟩] rfl rfl (news_at wr (.cells #[.int .u8 10] 5) #[.string ⟨#[10]⟩] 9) (by simp [Value.oneCell']) (by unfold maxLen; decide) (by decide) (by simp only [World.size_alloc]; omega) ?_; intro v6 w6 hown6 hgrow6 _ hat6; obtain ⟨ta6, tc6, rfl⟩ := row_form hown6; have hb6 := below_app (Below.refl w.heap.size ((wr.alloc (.cells #[.int .u8 10] 5)).alloc (.cells #[.string ⟨#[10]⟩] 9))) hgrow6 ((HO.out.alloc _).alloc _) (Nat.le_refl _) (by simp only [World.size_alloc]; omega); replace hgrow6 : ((wr.alloc (.cells #[.int .u8 10] 5)).alloc (.cells #[.string ⟨#[10]⟩] 9)).grownBy w6 (Value.slice ta 0 tc).ownBlock := hgrow6; replace hat6 : (Value.slice ta6 1 tc6).ownBlock = (Value.slice ta 0 tc).ownBlock ∨ (Value.slice ta6 1 tc6).ownBlock = some ((wr.alloc (.cells #[.int .u8 10] 5)).alloc (.cells #[.string ⟨#[10]⟩] 9)).heap.size := hat6; have q6 := (hgrow6.block w1.heap.size (by simp only [World.size_alloc]; omega) (fun e => HTR.out e.symm)).trans ((HB.out.alloc (.cells #[.int .u8 10] 5)).alloc (.cells #[.string ⟨#[10]⟩] 9)); have q6c := Blk.cell q6 256; rw [htv2.out] at q6c; have q6f := Blk.frozen q6 256; have Q6 := hid (show Blk w6 w1.heap.size 182 cs from q6); have hz6 := hb6.size; simp only [World.size_alloc] at hz6; obtain ⟨cp, W7, hcv7, hb7, hz7, hby7⟩ := bytes_of2 ⟨#[92, 10]⟩ (w6.setCell ⟨w1.heap.size, 256, none⟩ (.slice ta6 1 tc6)) 2 w6.heap.size [92, 10] rfl (by simp [World.setCell]) rfl; have q7 := Blk.below (Q6.out.put 256 (.slice ta6 1 tc6)) hb7 (by omega); have q7c := q7.cell 10; rw [show (cs.setIfInBounds 256 (.slice ta6 1 tc6))[10]? = some (.slice none 0 0) from (Array.getElem?_setIfInBounds_ne (by decide)).trans c0v.out] at q7c; have q7f := q7.frozen 10; have Q7 := hid q7; have HO6 := hid hown6; have HW6 := hid (((HW.out.alloc hwz (.cells #[.int .u8 10] 5)).alloc (by rw [World.size_alloc]; omega) (.cells #[.string ⟨#[10]⟩] 9)).trans hb6); have HB7 := hid hb7; have HY7 := hid hby7; have n6 := hid (show (Value.slice ta6 1 tc6).ownBlock ≠ some w1.heap.size from fun e => by rcases hat6 with h | h; exact HTR.out (h.symm.trans e); have := Option.some.inj (h.symm.trans e); simp only [World.size_alloc] at this; omega); have K6 := hid ((Kp.alloc (B := w.heap.size) (S := [some w1.heap.size, (Value.slice ta 0 tc).ownBlock]) (.cells #[.int .u8 10] 5)).trans ((Kp.alloc (.cells #[.string ⟨#[10]⟩] 9)).trans (Kp.app (S' := [some w1.heap.size, (Value.slice ta6 1 tc6).ownBlock]) hgrow6 (by simp) (fun x hx => two_mem hat6 hx)))); clear hown6 hgrow6 hat6 hb6 q6 q7 hb7 hby7)
      go_roundw
      case rel =>
       have hq9 := Q7.out.put 10 (.slice (some ⟨w6.heap.size, 0, none⟩) 2 cp)
       have hw7 : w6.heap.size <= W7.heap.size := by omega
       have hlt6 : w1.heap.size < w6.heap.size := by omega
       have K9 := K6.out.trans ((Kp.set (p := ⟨w1.heap.size, 256, none⟩) (by simp) (.slice ta6 1 tc6)).trans ((Kp.below (HB7.out.mono (by simp [World.setCell]))).trans (Kp.set (p := ⟨w1.heap.size, 10, none⟩) (by simp) (.slice (some ⟨w6.heap.size, 0, none⟩) 2 cp))))
       refine ⟨1, by decide, by rfl, _, .slice ta6 1 tc6, hq9, ?_, ?_, ?_, n6.out, fun j hj => ?_, ?_, hRw, ?_⟩
       ·rw [Array.size_setIfInBounds, Array.size_setIfInBounds]; exact HCS.out
       ·rw [Array.getElem?_setIfInBounds_ne (by decide), Array.getElem?_setIfInBounds_self_of_lt (by rw [HCS.out]; decide)]
       ·exact own_set (row_on (own_set HO6.out n6.out 256 _) (HB7.out.mono (by simp [World.setCell]))) n6.out 10 _
       ·by_cases hj9 : j = 10
        ·subst hj9
         refine .inl ⟨[92, 10], w6.heap.size, cp, by decide, ?_, ⟨by omega, fun e => ?_⟩, (by simp [World.setCell] <;> omega), fun i x hx => ?_⟩
         ·rw [Array.getElem?_setIfInBounds_self_of_lt (by rw [Array.size_setIfInBounds, HCS.out]; decide)]
          rfl
         ·simp only [List.mem_cons, List.not_mem_nil, or_false, Option.some.injEq] at e
          rcases e with e | e
          ·omega
          ·have := (HO6.out.lt _ e.symm).2; omega
         ·rw [World.cell?_setCell_other _ ⟨w1.heap.size, 10, none⟩ ⟨w6.heap.size, i, none⟩ _ (by simp <;> omega)]
          exact HY7.out i x hx
        ·exact ((((HREP.out j hj).on K9).off (k := 256) (by omega) _).off (k := 10) hj9 _).more hj9
       ·exact ((HW6.out.setCell (p := ⟨w1.heap.size, 256, none⟩) hRw _).trans (HB7.out.mono (by omega))).setCell (p := ⟨w1.heap.size, 10, none⟩) hRw _
       ·simp [World.setCell] <;> omega
      case measure => simp [intOf]
     ·have hst := hst
      obtain ⟨cs, tv, hblk, hcs, htv, hrow, htR, hrep, hbw, hRw, hRl⟩ := hst
      replace hrow : wr.ownsRow w.heap.size 9 1 tv 1 [.string ⟨#[10]⟩] := hrow
      obtain ⟨ta, tc, rfl⟩ := row_form hrow
      have c0 := (hblk.cell 34).trans ((hrep 34 (by decide)).none (fun n hn => by simp [D3] at hn))
      have c1 := (hblk.cell 256).trans htv
      have fz := hblk.frozen
      have k0 := (hbw.cell (p := ⟨g, 2, none⟩) hgl).trans g2
      have k1 := (hbw.cell (p := ⟨g, 3, none⟩) hgl).trans g3
      have hc1 : (convert 34 9 (.slice (some ⟨wr.heap.size, 0, none⟩) 1 1)).run Tryz.prog (wr.alloc (.cells #[.int .u8 34] 5)) = .ok (.string ⟨#[34]⟩) (wr.alloc (.cells #[.int .u8 34] 5)) :=
       run_convert_bytes_back (wr.alloc (.cells #[.int .u8 34] 5)) 34 9 5 ⟨wr.heap.size, 0, none⟩ 1 [34] Tryz.underlying34 Tryz.underlying5 Tryz.underlying9 (fun j hj => by
        obtain rfl : j = 0 := by simpa using hj
        exact (Blk.new (w := wr) (t := 5) (cs := #[.int .u8 34]) rfl).cell 0)
      have hnil : ∀ W : World, (binOp .eql 34 (.slice none 0 0) (.slice none 0 0)).run Tryz.prog W = .ok (.bool true) W := fun W => rfl
      have hix : ∀ h, (((⟨#[34]⟩ : ByteArray)[0]'h).toNat : Int) = 34 := fun h => rfl
      have cW := (hblk.alloc (.cells #[.int .u8 34] 5)).cell 256
      have cW2 := ((hblk.alloc (.cells #[.int .u8 34] 5)).alloc (.cells #[.string ⟨#[34]⟩] 9)).cell 256
      rw [htv] at cW cW2
      have htv2 := hid htv
      have c0v := hid ((hrep 34 (by decide)).none (fun n hn => by simp [D3] at hn))
      have HB := hid hblk
      have HO := hid hrow
      have HW := hid hbw
      have HREP := hid hrep
      have HCS := hid hcs
      have HTR := hid htR
      have hwz := hbw.size
      clear hst hblk hrow hbw hrep hcs htR htv
      go_wp2_with (at_builtin; refine wpList_append_own_at _ rfl _ _ 23 rfl w.heap.size 9 i0 (.string .empty) 1 16 Tryz.underlying23 Hi.out Hz0.out Hz1.out Hz2.out rfl (by decide) _ _ _ rfl ((HO.out.alloc (.cells #[.int .u8 34] 5)).alloc (.cells #[.string ⟨#[34]⟩] 9)) ⟨wr.heap.size + 1, 0, none⟩ 1 1 [.string ⟨#[34]⟩] rfl rfl (news_at wr (.cells #[.int .u8 34] 5) #[.string ⟨#[34]⟩] 9) (by simp [Value.oneCell']) (by unfold maxLen; decide) (by decide) (by simp only [World.size_alloc]; omega) ?_; intro v6 w6 hown6 hgrow6 _ hat6; obtain ⟨ta6, tc6, rfl⟩ := row_form hown6; have hb6 := below_app (Below.refl w.heap.size ((wr.alloc (.cells #[.int .u8 34] 5)).alloc (.cells #[.string ⟨#[34]⟩] 9))) hgrow6 ((HO.out.alloc _).alloc _) (Nat.le_refl _) (by simp only [World.size_alloc]; omega); replace hgrow6 : ((wr.alloc (.cells #[.int .u8 34] 5)).alloc (.cells #[.string ⟨#[34]⟩] 9)).grownBy w6 (Value.slice ta 1 tc).ownBlock := hgrow6; replace hat6 : (Value.slice ta6 2 tc6).ownBlock = (Value.slice ta 1 tc).ownBlock ∨ (Value.slice ta6 2 tc6).ownBlock = some ((wr.alloc (.cells #[.int .u8 34] 5)).alloc (.cells #[.string ⟨#[34]⟩] 9)).heap.size := hat6; have q6 := (hgrow6.block w1.heap.size (by simp only [World.size_alloc]; omega) (fun e => HTR.out e.symm)).trans ((HB.out.alloc (.cells #[.int .u8 34] 5)).alloc (.cells #[.string ⟨#[34]⟩] 9)); have q6c := Blk.cell q6 256; rw [htv2.out] at q6c; have q6f := Blk.frozen q6 256; have Q6 := hid (show Blk w6 w1.heap.size 182 cs from q6); have hz6 := hb6.size; simp only [World.size_alloc] at hz6; obtain ⟨cp, W7, hcv7, hb7, hz7, hby7⟩ := bytes_of2 ⟨#[92, 34]⟩ (w6.setCell ⟨w1.heap.size, 256, none⟩ (.slice ta6 2 tc6)) 2 w6.heap.size [92, 34] rfl (by simp [World.setCell]) rfl; have q7 := Blk.below (Q6.out.put 256 (.slice ta6 2 tc6)) hb7 (by omega); have q7c := q7.cell 34; rw [show (cs.setIfInBounds 256 (.slice ta6 2 tc6))[34]? = some (.slice none 0 0) from (Array.getElem?_setIfInBounds_ne (by decide)).trans c0v.out] at q7c; have q7f := q7.frozen 34; have Q7 := hid q7; have HO6 := hid hown6; have HW6 := hid (((HW.out.alloc hwz (.cells #[.int .u8 34] 5)).alloc (by rw [World.size_alloc]; omega) (.cells #[.string ⟨#[34]⟩] 9)).trans hb6); have HB7 := hid hb7; have HY7 := hid hby7; have n6 := hid (show (Value.slice ta6 2 tc6).ownBlock ≠ some w1.heap.size from fun e => by rcases hat6 with h | h; exact HTR.out (h.symm.trans e); have := Option.some.inj (h.symm.trans e); simp only [World.size_alloc] at this; omega); have K6 := hid ((Kp.alloc (B := w.heap.size) (S := [some w1.heap.size, (Value.slice ta 1 tc).ownBlock]) (.cells #[.int .u8 34] 5)).trans ((Kp.alloc (.cells #[.string ⟨#[34]⟩] 9)).trans (Kp.app (S' := [some w1.heap.size, (Value.slice ta6 2 tc6).ownBlock]) hgrow6 (by simp) (fun x hx => two_mem hat6 hx)))); clear hown6 hgrow6 hat6 hb6 q6 q7 hb7 hby7)
      go_roundw
      case rel =>
       have hq9 := Q7.out.put 34 (.slice (some ⟨w6.heap.size, 0, none⟩) 2 cp)
       have hw7 : w6.heap.size <= W7.heap.size := by omega
       have hlt6 : w1.heap.size < w6.heap.size := by omega
       have K9 := K6.out.trans ((Kp.set (p := ⟨w1.heap.size, 256, none⟩) (by simp) (.slice ta6 2 tc6)).trans ((Kp.below (HB7.out.mono (by simp [World.setCell]))).trans (Kp.set (p := ⟨w1.heap.size, 34, none⟩) (by simp) (.slice (some ⟨w6.heap.size, 0, none⟩) 2 cp))))
       refine ⟨2, by decide, by rfl, _, .slice ta6 2 tc6, hq9, ?_, ?_, ?_, n6.out, fun j hj => ?_, ?_, hRw, ?_⟩
       ·rw [Array.size_setIfInBounds, Array.size_setIfInBounds]; exact HCS.out
       ·rw [Array.getElem?_setIfInBounds_ne (by decide), Array.getElem?_setIfInBounds_self_of_lt (by rw [HCS.out]; decide)]
       ·exact own_set (row_on (own_set HO6.out n6.out 256 _) (HB7.out.mono (by simp [World.setCell]))) n6.out 34 _
       ·by_cases hj9 : j = 34
        ·subst hj9
         refine .inl ⟨[92, 34], w6.heap.size, cp, by decide, ?_, ⟨by omega, fun e => ?_⟩, (by simp [World.setCell] <;> omega), fun i x hx => ?_⟩
         ·rw [Array.getElem?_setIfInBounds_self_of_lt (by rw [Array.size_setIfInBounds, HCS.out]; decide)]
          rfl
         ·simp only [List.mem_cons, List.not_mem_nil, or_false, Option.some.injEq] at e
          rcases e with e | e
          ·omega
          ·have := (HO6.out.lt _ e.symm).2; omega
         ·rw [World.cell?_setCell_other _ ⟨w1.heap.size, 34, none⟩ ⟨w6.heap.size, i, none⟩ _ (by simp <;> omega)]
          exact HY7.out i x hx
        ·exact ((((HREP.out j hj).on K9).off (k := 256) (by omega) _).off (k := 34) hj9 _).more hj9
       ·exact ((HW6.out.setCell (p := ⟨w1.heap.size, 256, none⟩) hRw _).trans (HB7.out.mono (by omega))).setCell (p := ⟨w1.heap.size, 34, none⟩) hRw _
       ·simp [World.setCell] <;> omega
      case measure => simp [intOf]
     ·have hst := hst
      obtain ⟨cs, tv, hblk, hcs, htv, hrow, htR, hrep, hbw, hRw, hRl⟩ := hst
      replace hrow : wr.ownsRow w.heap.size 9 1 tv 2 [.string ⟨#[10]⟩, .string ⟨#[34]⟩] := hrow
      obtain ⟨ta, tc, rfl⟩ := row_form hrow
      have c0 := (hblk.cell 92).trans ((hrep 92 (by decide)).none (fun n hn => by simp [D3] at hn))
      have c1 := (hblk.cell 256).trans htv
      have fz := hblk.frozen
      have k0 := (hbw.cell (p := ⟨g, 0, none⟩) hgl).trans g0
      have k1 := (hbw.cell (p := ⟨g, 1, none⟩) hgl).trans g1
      have hc1 : (convert 34 9 (.slice (some ⟨wr.heap.size, 0, none⟩) 1 1)).run Tryz.prog (wr.alloc (.cells #[.int .u8 92] 5)) = .ok (.string ⟨#[92]⟩) (wr.alloc (.cells #[.int .u8 92] 5)) :=
       run_convert_bytes_back (wr.alloc (.cells #[.int .u8 92] 5)) 34 9 5 ⟨wr.heap.size, 0, none⟩ 1 [92] Tryz.underlying34 Tryz.underlying5 Tryz.underlying9 (fun j hj => by
        obtain rfl : j = 0 := by simpa using hj
        exact (Blk.new (w := wr) (t := 5) (cs := #[.int .u8 92]) rfl).cell 0)
      have hnil : ∀ W : World, (binOp .eql 34 (.slice none 0 0) (.slice none 0 0)).run Tryz.prog W = .ok (.bool true) W := fun W => rfl
      have hix : ∀ h, (((⟨#[92]⟩ : ByteArray)[0]'h).toNat : Int) = 92 := fun h => rfl
      have cW := (hblk.alloc (.cells #[.int .u8 92] 5)).cell 256
      have cW2 := ((hblk.alloc (.cells #[.int .u8 92] 5)).alloc (.cells #[.string ⟨#[92]⟩] 9)).cell 256
      rw [htv] at cW cW2
      have htv2 := hid htv
      have c0v := hid ((hrep 92 (by decide)).none (fun n hn => by simp [D3] at hn))
      have HB := hid hblk
      have HO := hid hrow
      have HW := hid hbw
      have HREP := hid hrep
      have HCS := hid hcs
      have HTR := hid htR
      have hwz := hbw.size
      clear hst hblk hrow hbw hrep hcs htR htv
      go_wp2_with (at_builtin; refine wpList_append_own_at _ rfl _ _ 23 rfl w.heap.size 9 i0 (.string .empty) 1 16 Tryz.underlying23 Hi.out Hz0.out Hz1.out Hz2.out rfl (by decide) _ _ _ rfl ((HO.out.alloc (.cells #[.int .u8 92] 5)).alloc (.cells #[.string ⟨#[92]⟩] 9)) ⟨wr.heap.size + 1, 0, none⟩ 1 1 [.string ⟨#[92]⟩] rfl rfl (news_at wr (.cells #[.int .u8 92] 5) #[.string ⟨#[92]⟩] 9) (by simp [Value.oneCell']) (by unfold maxLen; decide) (by decide) (by simp only [World.size_alloc]; omega) ?_; intro v6 w6 hown6 hgrow6 _ hat6; obtain ⟨ta6, tc6, rfl⟩ := row_form hown6; have hb6 := below_app (Below.refl w.heap.size ((wr.alloc (.cells #[.int .u8 92] 5)).alloc (.cells #[.string ⟨#[92]⟩] 9))) hgrow6 ((HO.out.alloc _).alloc _) (Nat.le_refl _) (by simp only [World.size_alloc]; omega); replace hgrow6 : ((wr.alloc (.cells #[.int .u8 92] 5)).alloc (.cells #[.string ⟨#[92]⟩] 9)).grownBy w6 (Value.slice ta 2 tc).ownBlock := hgrow6; replace hat6 : (Value.slice ta6 3 tc6).ownBlock = (Value.slice ta 2 tc).ownBlock ∨ (Value.slice ta6 3 tc6).ownBlock = some ((wr.alloc (.cells #[.int .u8 92] 5)).alloc (.cells #[.string ⟨#[92]⟩] 9)).heap.size := hat6; have q6 := (hgrow6.block w1.heap.size (by simp only [World.size_alloc]; omega) (fun e => HTR.out e.symm)).trans ((HB.out.alloc (.cells #[.int .u8 92] 5)).alloc (.cells #[.string ⟨#[92]⟩] 9)); have q6c := Blk.cell q6 256; rw [htv2.out] at q6c; have q6f := Blk.frozen q6 256; have Q6 := hid (show Blk w6 w1.heap.size 182 cs from q6); have hz6 := hb6.size; simp only [World.size_alloc] at hz6; obtain ⟨cp, W7, hcv7, hb7, hz7, hby7⟩ := bytes_of2 ⟨#[92, 92]⟩ (w6.setCell ⟨w1.heap.size, 256, none⟩ (.slice ta6 3 tc6)) 2 w6.heap.size [92, 92] rfl (by simp [World.setCell]) rfl; have q7 := Blk.below (Q6.out.put 256 (.slice ta6 3 tc6)) hb7 (by omega); have q7c := q7.cell 92; rw [show (cs.setIfInBounds 256 (.slice ta6 3 tc6))[92]? = some (.slice none 0 0) from (Array.getElem?_setIfInBounds_ne (by decide)).trans c0v.out] at q7c; have q7f := q7.frozen 92; have Q7 := hid q7; have HO6 := hid hown6; have HW6 := hid (((HW.out.alloc hwz (.cells #[.int .u8 92] 5)).alloc (by rw [World.size_alloc]; omega) (.cells #[.string ⟨#[92]⟩] 9)).trans hb6); have HB7 := hid hb7; have HY7 := hid hby7; have n6 := hid (show (Value.slice ta6 3 tc6).ownBlock ≠ some w1.heap.size from fun e => by rcases hat6 with h | h; exact HTR.out (h.symm.trans e); have := Option.some.inj (h.symm.trans e); simp only [World.size_alloc] at this; omega); have K6 := hid ((Kp.alloc (B := w.heap.size) (S := [some w1.heap.size, (Value.slice ta 2 tc).ownBlock]) (.cells #[.int .u8 92] 5)).trans ((Kp.alloc (.cells #[.string ⟨#[92]⟩] 9)).trans (Kp.app (S' := [some w1.heap.size, (Value.slice ta6 3 tc6).ownBlock]) hgrow6 (by simp) (fun x hx => two_mem hat6 hx)))); clear hown6 hgrow6 hat6 hb6 q6 q7 hb7 hby7)
      go_roundw
      case rel =>
       have hq9 := Q7.out.put 92 (.slice (some ⟨w6.heap.size, 0, none⟩) 2 cp)
       have hw7 : w6.heap.size <= W7.heap.size := by omega
       have hlt6 : w1.heap.size < w6.heap.size := by omega
       have K9 := K6.out.trans ((Kp.set (p := ⟨w1.heap.size, 256, none⟩) (by simp) (.slice ta6 3 tc6)).trans ((Kp.below (HB7.out.mono (by simp [World.setCell]))).trans (Kp.set (p := ⟨w1.heap.size, 92, none⟩) (by simp) (.slice (some ⟨w6.heap.size, 0, none⟩) 2 cp))))
       refine ⟨3, by decide, by rfl, _, .slice ta6 3 tc6, hq9, ?_, ?_, ?_, n6.out, fun j hj => ?_, ?_, hRw, ?_⟩
       ·rw [Array.size_setIfInBounds, Array.size_setIfInBounds]; exact HCS.out
       ·rw [Array.getElem?_setIfInBounds_ne (by decide), Array.getElem?_setIfInBounds_self_of_lt (by rw [HCS.out]; decide)]
       ·exact own_set (row_on (own_set HO6.out n6.out 256 _) (HB7.out.mono (by simp [World.setCell]))) n6.out 92 _
       ·by_cases hj9 : j = 92
        ·subst hj9
         refine .inl ⟨[92, 92], w6.heap.size, cp, by decide, ?_, ⟨by omega, fun e => ?_⟩, (by simp [World.setCell] <;> omega), fun i x hx => ?_⟩
         ·rw [Array.getElem?_setIfInBounds_self_of_lt (by rw [Array.size_setIfInBounds, HCS.out]; decide)]
          rfl
         ·simp only [List.mem_cons, List.not_mem_nil, or_false, Option.some.injEq] at e
          rcases e with e | e
          ·omega
          ·have := (HO6.out.lt _ e.symm).2; omega
         ·rw [World.cell?_setCell_other _ ⟨w1.heap.size, 92, none⟩ ⟨w6.heap.size, i, none⟩ _ (by simp <;> omega)]
          exact HY7.out i x hx
        ·exact ((((HREP.out j hj).on K9).off (k := 256) (by omega) _).off (k := 92) hj9 _).more hj9
       ·exact ((HW6.out.setCell (p := ⟨w1.heap.size, 256, none⟩) hRw _).trans (HB7.out.mono (by omega))).setCell (p := ⟨w1.heap.size, 92, none⟩) hRw _
       ·simp [World.setCell] <;> omega
      case measure => simp [intOf]
  ·have hk2 : k = 0 ∨ k = 1 ∨ k = 2 := by omega
   rcases hk2 with rfl | rfl | rfl
   ·go_wp2_with fail
    go_roundw
    case rel => exact ⟨1, by decide, by rfl, by simp, by trivial⟩
    case measure => simp [intOf]
   ·go_wp2_with fail
    go_roundw
    case rel => exact ⟨2, by decide, by rfl, by simp, by trivial⟩
    case measure => simp [intOf]
   ·go_wp2_with fail
    go_roundw
    case rel => exact ⟨3, by decide, by rfl, by simp, by trivial⟩
    case measure => simp [intOf]
end quo
end Go.Proofs.YtaobpkffcolobaaGreatDoor
