/- Contracts and plain law, a bundle. -/
import Derived.Lib.Hide
import Derived.Test.YtaobpkffcolobaaGreatDoorBL
set_option linter.unusedVariables false
set_option maxRecDepth 100000
set_option maxHeartbeats 16000000
open Go.Lib (hid)
namespace Go.Proofs.YtaobpkffcolobaaGreatDoor
namespace sel
open Go.RowKit Go.Sort base tok dim rul quo
set_option linter.unusedSimpArgs false
theorem trim_op (op : UInt8) (w : World) : Calls Tryz.prog 65 #[.string (bs [op]), .string ⟨#[61]⟩] w fun e w' => e = .returned (.string (bs (opTx op))) /\ w = w' := by
 have h := Tryz.strings_TrimSuffix (bs [op]) ⟨#[61]⟩ w (show 1 <= 9223372036854775807 by decide)
 refine h.mono fun e w' ⟨h1, h2⟩ => ⟨?_, h2.symm⟩
 rw [h1]
 congr 2
 show (⟨(Lib.trimSuffix [op] [61]).toArray⟩ : ByteArray) = bs (opTx op)
 unfold opTx Lib.trimSuffix
 by_cases he : op = 61
 ·subst he; rfl
 ·rw [if_neg he, if_neg]
  ·rfl
  ·simp [Lib.hasSuffix]
   intro t
   obtain ⟨r, hr⟩ := t
   cases r with
   | nil => exact he (by simpa using hr.symm)
   | cons x r => simp at hr
theorem testText_5o (n : Bs) (hn : n.length <= 2000000) (op : UInt8) (hop : op ≠ 0) (v : Bs) (hv : v.length <= 2000000) (a c : Int) (A : Option Addr) (m cap : Nat) (w : World) :
  Calls Tryz.prog 39 #[(aTs 5 (bs n) (nv op) (bs v) a c A m cap)] w (rt w (.string (bs ([91] ++ n ++ opTx op ++ [61, 34] ++ quo.quoteP v ++ [34, 93])))) := by
 have hcat : (⟨#[91]⟩ ++ bs n ++ bs (opTx op) ++ ⟨#[61, 34]⟩ ++ bs (quo.quoteP v) ++ ⟨#[34, 93]⟩ : ByteArray) = bs ([91] ++ n ++ opTx op ++ [61, 34] ++ quo.quoteP v ++ [34, 93]) := by
  apply ByteArray.ext; apply Array.ext'
  simp [bs, ByteArray.data_append]
 have hs1 : (bs n).size = n.length := rfl
 have hs2 : (bs (opTx op)).size <= 1 := by rw [bs_size]; unfold opTx; split; exact Nat.zero_le _; exact Nat.le_refl _
 have hs3 : (bs (quo.quoteP v)).size <= 4000000 := by rw [bs_size, quote_len]; have := sp_le v; omega
 have a1 : ¬ 9223372036854775807 < 1 + (bs n).size := by omega
 have a2 : ¬ 9223372036854775807 < 1 + (bs n).size + (bs (opTx op)).size := by omega
 have a3 : ¬ 9223372036854775807 < 1 + (bs n).size + (bs (opTx op)).size + 2 := by omega
 have a4 : ¬ 9223372036854775807 < 1 + (bs n).size + (bs (opTx op)).size + 2 + (bs (quo.quoteP v)).size := by omega
 have a5 : ¬ 9223372036854775807 < 1 + (bs n).size + (bs (opTx op)).size + 2 + (bs (quo.quoteP v)).size + 2 := by omega
 have o1 : ¬ op.toNat = 0 := fun e => hop (UInt8.toNat_inj.1 e)
 have o0 : (nv op == 0) = false := by rw [beq_eq_false_iff_ne]; unfold nv; omega
 have cT := hid (fun w => trim_op op w)
 have cQ := hid (fun w => quote_ct v (by omega) w)
 have HB := hid (ba w (oTs 5 (bs n) (nv op) (bs v) a c A m cap))
 have hcv : ∀ W : World, (convert 34 9 (.slice (some ⟨W.heap.size, 0, none⟩) 1 1)).run Tryz.prog (W.alloc (.cells #[.int .u8 (nv op)] 5)) = .ok (.string (bs [op])) (W.alloc (.cells #[.int .u8 (nv op)] 5)) := fun W =>
  run_convert_bytes_back (W.alloc (.cells #[.int .u8 (nv op)] 5)) 34 9 5 ⟨W.heap.size, 0, none⟩ 1 [op] Tryz.underlying34 Tryz.underlying5 Tryz.underlying9 (fun j hj => by
   obtain rfl : j = 0 := by simpa using hj
   exact (Blk.new (w := W) (t := 5) (cs := #[.int .u8 (nv op)]) rfl).cell 0)
 have hcvA : ∀ (W : World) (k : Nat), W.cell? ⟨k, 0, none⟩ = some (.int .u8 (nv op)) -> (convert 34 9 (.slice (some ⟨k, 0, none⟩) 1 1)).run Tryz.prog W = .ok (.string (bs [op])) W := fun W k hW =>
  run_convert_bytes_back W 34 9 5 ⟨k, 0, none⟩ 1 [op] Tryz.underlying34 Tryz.underlying5 Tryz.underlying9 (fun j hj => by
   obtain rfl : j = 0 := by simpa using hj
   exact hW)
 replace hcvA := hid hcvA
 clear hop hs1 hs2 hs3
 go_enter Tryz.func39, Tryz.ntmps39
 go_wp2_with fail
 have q0 := (Blk.new rfl : Blk (w.alloc (oTs 5 (bs n) (nv op) (bs v) a c A m cap)) w.heap.size 26 (rTs 5 (bs n) (nv op) (bs v) a c A m cap))
 have hz0 : (w.alloc (oTs 5 (bs n) (nv op) (bs v) a c A m cap)).heap.size = w.heap.size + 1 := World.size_alloc _ _
 have HB0 := hid (show Below w.heap.size w (w.alloc (oTs 5 (bs n) (nv op) (bs v) a c A m cap)) from HB.out)
 clear HB
 generalize w.alloc (oTs 5 (bs n) (nv op) (bs v) a c A m cap) = W0 at *
 have q0c := q0.cell
 have hlt0 : w.heap.size < W0.heap.size := by omega
 have HZ : W0.heap.size <= W0.heap.size := Nat.le_refl _
 have hc1 := hcv W0.drew
 have hc2 : (convert 34 9 (.slice (some ⟨W0.heap.size, 0, none⟩) 1 1)).run Tryz.prog (W0.alloc (.cells #[.int .u8 (nv op)] 5)).drew = .ok (.string (bs [op])) (W0.alloc (.cells #[.int .u8 (nv op)] 5)).drew := hc1
 rw [hz0] at hc2
 have HCV := hid hcv
 clear hc1 hcv
 refine wp_region_held_drew (S := (fun w' => (∀ b o, b < W0.heap.size -> w'.cell? ⟨b, o, none⟩ = W0.cell? ⟨b, o, none⟩) /\ Below W0.heap.size W0 w')) (by kernel_rfl) ?_ (fun hHeld => ?_)
 ·((try dsimp only); (first | exact As.beg | assumption | exact As.on hb3 (by assumption) HZ | exact As.alloc (by assumption) HZ))
 refine wpAnyH_take (i := 0) (oi := _) (v := ?v1) (by simp only [List.getElem?_toArray, List.getElem?_cons_succ, List.getElem?_cons_zero]; rfl) (by kernel_rfl) (by kernel_rfl) (by kernel_rfl) (by exact fun _ _ _ h => h) (Or.inl ⟨by rfl, ?hy1⟩) (by assumption) ?rest1
 case hy1 => (intro w hSw; (try dsimp only at hSw); go_simp; (try with_reducible rfl))
 try simp only [Act.put, List.setIfInBounds_toArray, List.set_cons_zero, List.set_cons_succ]
 refine wpAnyH_take (i := 1) (oi := _) (v := ?v2) (by simp only [List.getElem?_toArray, List.getElem?_cons_succ, List.getElem?_cons_zero]; rfl) (by kernel_rfl) (by kernel_rfl) (by kernel_rfl) (by exact fun _ _ _ h => h) (Or.inl ⟨by rfl, ?hy2⟩) (by assumption) ?rest2
 case hy2 => (intro w hSw; (try dsimp only at hSw); go_simp; (try with_reducible rfl))
 try simp only [Act.put, List.setIfInBounds_toArray, List.set_cons_zero, List.set_cons_succ]
 refine wpAnyH_take (i := 2) (oi := _) (v := ?v3) (by simp only [List.getElem?_toArray, List.getElem?_cons_succ, List.getElem?_cons_zero]; rfl) (by kernel_rfl) (by kernel_rfl) (by kernel_rfl) (by exact fun _ _ _ h => h) (Or.inl ⟨by rfl, ?hy3⟩) (by assumption) ?rest3
 case hy3 => (intro w hSw; (try dsimp only at hSw); go_simp; (try with_reducible rfl))
 try simp only [Act.put, List.setIfInBounds_toArray, List.set_cons_zero, List.set_cons_succ]
 refine wpAnyH_take (i := 3) (oi := _) (v := ?v4) (by simp only [List.getElem?_toArray, List.getElem?_cons_succ, List.getElem?_cons_zero]; rfl) (by kernel_rfl) (by kernel_rfl) (by kernel_rfl) (by exact fun _ _ _ h => h) (Or.inl ⟨by rfl, ?hy4⟩) (by assumption) ?rest4
 case hy4 => (intro w hSw; (try dsimp only at hSw); go_simp; (try with_reducible rfl))
 try simp only [Act.put, List.setIfInBounds_toArray, List.set_cons_zero, List.set_cons_succ]
 refine wpAnyH_take (i := 4) (oi := _) (v := ?v5) (by simp only [List.getElem?_toArray, List.getElem?_cons_succ, List.getElem?_cons_zero]; rfl) (by kernel_rfl) (by kernel_rfl) (by kernel_rfl) (by exact fun _ _ _ h => h) (Or.inl ⟨by rfl, ?hy5⟩) (by assumption) ?rest5
 case hy5 => (intro w hSw; (try dsimp only at hSw); go_simp; (try with_reducible rfl))
 try simp only [Act.put, List.setIfInBounds_toArray, List.set_cons_zero, List.set_cons_succ]
 refine wpAnyH_take (i := 10) (oi := _) (v := ?v6) (by simp only [List.getElem?_toArray, List.getElem?_cons_succ, List.getElem?_cons_zero]; rfl) (by kernel_rfl) (by kernel_rfl) (by kernel_rfl) (by exact fun _ _ _ h => h) (Or.inl ⟨by rfl, ?hy6⟩) (by assumption) ?rest6
 case hy6 => (intro w hSw; (try dsimp only at hSw); go_simp; (try with_reducible rfl))
 try simp only [Act.put, List.setIfInBounds_toArray, List.set_cons_zero, List.set_cons_succ]
 refine wpAnyH_take (i := 11) (oi := _) (v := ?v7) (by simp only [List.getElem?_toArray, List.getElem?_cons_succ, List.getElem?_cons_zero]; rfl) (by kernel_rfl) (by kernel_rfl) (by kernel_rfl) (by exact fun _ _ _ h => h) (Or.inl ⟨by rfl, ?hy7⟩) (by assumption) ?rest7
 case hy7 => (intro w hSw; (try dsimp only at hSw); go_simp; (try with_reducible rfl))
 try simp only [Act.put, List.setIfInBounds_toArray, List.set_cons_zero, List.set_cons_succ]
 refine wpAnyH_ready (rs := [5]) (by kernel_rfl) (by simp) ?_
 refine AllReadyH.cons (o := _) (by simp only [List.getElem?_toArray, List.getElem?_cons_succ, List.getElem?_cons_zero]; rfl) (fun K hK => ?st8) ?mo8
 case st8 =>
  go_simp
  refine hK.out _ _ ?_ (fun hHeld => ?_)
  ·((try dsimp only); (first | exact As.beg | assumption | exact As.on hb3 (by assumption) HZ | exact As.alloc (by assumption) HZ))
  clear hK K
  try simp only [Act.put, List.setIfInBounds_toArray, List.set_cons_zero, List.set_cons_succ]
  refine wpAnyH_ready (rs := [6]) (by kernel_rfl) (by simp) ?_
  refine AllReadyH.cons (o := _) (by simp only [List.getElem?_toArray, List.getElem?_cons_succ, List.getElem?_cons_zero]; rfl) (fun K hK => ?st9) ?mo9
  case st9 =>
   go_simp
   refine hK.out _ _ ?_ (fun hHeld => ?_)
   ·((try dsimp only); (first | exact As.beg | assumption | exact As.on hb3 (by assumption) HZ | exact As.alloc (by assumption) HZ))
   clear hK K
   try simp only [Act.put, List.setIfInBounds_toArray, List.set_cons_zero, List.set_cons_succ]
   refine wpAnyH_ready (rs := [7]) (by kernel_rfl) (by simp) ?_
   refine AllReadyH.cons (o := _) (by simp only [List.getElem?_toArray, List.getElem?_cons_succ, List.getElem?_cons_zero]; rfl) (fun K hK => ?st10) ?mo10
   case st10 =>
    go_simp
    (go_at_call 65; (with_reducible refine (cT.out _).mono ?_); rintro e WT ⟨rfl, rfl⟩)
    go_wp2_with fail
    refine hK.out _ _ ?_ (fun hHeld => ?_)
    ·((try dsimp only); (first | exact As.beg | assumption | exact As.on hb3 (by assumption) HZ | exact As.alloc (by assumption) HZ))
    clear hK K
    try simp only [Act.put, List.setIfInBounds_toArray, List.set_cons_zero, List.set_cons_succ]
    refine wpAnyH_take (i := 8) (oi := _) (v := ?v11) (by simp only [List.getElem?_toArray, List.getElem?_cons_succ, List.getElem?_cons_zero]; rfl) (by kernel_rfl) (by kernel_rfl) (by kernel_rfl) (by exact fun _ _ _ h => h) (Or.inl ⟨by rfl, ?hy11⟩) (by assumption) ?rest11
    case hy11 => (intro w hSw; (try dsimp only at hSw); go_simp; (try with_reducible rfl))
    try simp only [Act.put, List.setIfInBounds_toArray, List.set_cons_zero, List.set_cons_succ]
    refine wpAnyH_take (i := 9) (oi := _) (v := ?v12) (by simp only [List.getElem?_toArray, List.getElem?_cons_succ, List.getElem?_cons_zero]; rfl) (by kernel_rfl) (by kernel_rfl) (by kernel_rfl) (by exact fun _ _ _ h => h) (Or.inl ⟨by rfl, ?hy12⟩) (by assumption) ?rest12
    case hy12 => (intro w hSw; (try dsimp only at hSw); go_simp; (try with_reducible rfl))
    try simp only [Act.put, List.setIfInBounds_toArray, List.set_cons_zero, List.set_cons_succ]
    refine wpAnyH_ready (rs := [12]) (by kernel_rfl) (by simp) ?_
    refine AllReadyH.cons (o := _) (by simp only [List.getElem?_toArray, List.getElem?_cons_succ, List.getElem?_cons_zero]; rfl) (fun K hK => ?st13) ?mo13
    case st13 =>
     go_simp
     (go_at_call 66; (with_reducible refine (cQ.out _).mono ?_); rintro e WQ ⟨rfl, hb3⟩; have HBQ := hid hb3)
     go_wp2_with fail
     refine hK.out _ _ ?_ (fun hHeld => ?_)
     ·((try dsimp only); (first | exact As.beg | assumption | exact As.on hb3 (by assumption) HZ | exact As.alloc (by assumption) HZ))
     clear hK K
     try simp only [Act.put, List.setIfInBounds_toArray, List.set_cons_zero, List.set_cons_succ]
     refine wpAnyH_take (i := 13) (oi := _) (v := ?v14) (by simp only [List.getElem?_toArray, List.getElem?_cons_succ, List.getElem?_cons_zero]; rfl) (by kernel_rfl) (by kernel_rfl) (by kernel_rfl) (by exact fun _ _ _ h => h) (Or.inl ⟨by rfl, ?hy14⟩) (by assumption) ?rest14
     case hy14 => (intro w hSw; (try dsimp only at hSw); go_simp; (try with_reducible rfl))
     try simp only [Act.put, List.setIfInBounds_toArray, List.set_cons_zero, List.set_cons_succ]
     refine wpAnyH_take (i := 14) (oi := _) (v := ?v15) (by simp only [List.getElem?_toArray, List.getElem?_cons_succ, List.getElem?_cons_zero]; rfl) (by kernel_rfl) (by kernel_rfl) (by kernel_rfl) (by exact fun _ _ _ h => h) (Or.inl ⟨by rfl, ?hy15⟩) (by assumption) ?rest15
     case hy15 => (intro w hSw; (try dsimp only at hSw); go_simp; (try with_reducible rfl))
     try simp only [Act.put, List.setIfInBounds_toArray, List.set_cons_zero, List.set_cons_succ]
     refine wpAnyH_take (i := 15) (oi := _) (v := ?v16) (by simp only [List.getElem?_toArray, List.getElem?_cons_succ, List.getElem?_cons_zero]; rfl) (by kernel_rfl) (by kernel_rfl) (by kernel_rfl) (by exact fun _ _ _ h => h) (Or.inl ⟨by rfl, ?hy16⟩) (by assumption) ?rest16
     case hy16 => (intro w hSw; (try dsimp only at hSw); go_simp; (try with_reducible rfl))
     try simp only [Act.put, List.setIfInBounds_toArray, List.set_cons_zero, List.set_cons_succ]
     refine wpAnyH_done (by kernel_rfl) ?_ _
     go_wp2_with fail
     go_ret
     exact ⟨by simp, HB0.out.trans (hHeld.2.mono (by omega))⟩
    exact AllReadyH.nil
   exact AllReadyH.nil
  exact AllReadyH.nil
 exact AllReadyH.nil
end sel
end Go.Proofs.YtaobpkffcolobaaGreatDoor
