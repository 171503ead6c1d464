/- Contracts and plain law, a bundle. -/
import Derived.Lib.Hide
import Derived.Test.YthgffoanecknoaaGreatDoorC9
set_option linter.unusedVariables false
set_option maxRecDepth 100000
set_option maxHeartbeats 16000000
open Go.Lib (hid)
namespace Go.Proofs.YthgffoanecknoaaGreatDoor
namespace prp
open Go.RowKit base tok
set_option linter.unusedSimpArgs false
def NamesC (nm : ByteArray) (L : List Bs) : Prop := ∀ w : World, Calls Tryz.prog 21 #[.string nm] w fun e w' => (∃ v, e = .returned v /\ w'.ownsRow w.heap.size 9 1 v L.length (L.map strv)) /\ Below w.heap.size w w'
theorem row_lit (w : World) (L : List Bs) (n : Nat) (hn : L.length = n) (h : n <= 1000) : (w.alloc (.cells (L.map strv).toArray 9)).ownsRow w.heap.size 9 1 (.slice (some ⟨w.heap.size, 0, none⟩) n n) n (L.map strv) := by
 have := World.ownsRow_lit (base := w.heap.size) (e := 9) (size := 1) w (L.map strv).toArray n (Nat.le_refl _) (by unfold maxLen; omega) (by simp [hn])
 simpa using this
theorem eq_margin : (sidesB ⟨#[109, 97, 114, 103, 105, 110, 45]⟩ ⟨#[]⟩).map Value.string = ([[109, 97, 114, 103, 105, 110, 45, 116, 111, 112], [109, 97, 114, 103, 105, 110, 45, 114, 105, 103, 104, 116], [109, 97, 114, 103, 105, 110, 45, 98, 111, 116, 116, 111, 109], [109, 97, 114, 103, 105, 110, 45, 108, 101, 102, 116]] : List Bs).map strv := by kernel_rfl
theorem n_margin : NamesC ⟨#[109, 97, 114, 103, 105, 110]⟩ [[109, 97, 114, 103, 105, 110, 45, 116, 111, 112], [109, 97, 114, 103, 105, 110, 45, 114, 105, 103, 104, 116], [109, 97, 114, 103, 105, 110, 45, 98, 111, 116, 116, 111, 109], [109, 97, 114, 103, 105, 110, 45, 108, 101, 102, 116]] := fun w => by
 have cS0 : ∀ w, Calls Tryz.prog 27 #[.string ⟨#[109, 97, 114, 103, 105, 110, 45]⟩, .string ⟨#[]⟩] w fun e w' => (∃ v, e = .returned v /\ w'.ownsRow w.heap.size 9 1 v 4 (([[109, 97, 114, 103, 105, 110, 45, 116, 111, 112], [109, 97, 114, 103, 105, 110, 45, 114, 105, 103, 104, 116], [109, 97, 114, 103, 105, 110, 45, 98, 111, 116, 116, 111, 109], [109, 97, 114, 103, 105, 110, 45, 108, 101, 102, 116]] : List Bs).map strv)) /\ Below w.heap.size w w' := fun w => by
  have h := sides_ct ⟨#[109, 97, 114, 103, 105, 110, 45]⟩ ⟨#[]⟩ (by decide) (by decide) w
  rw [eq_margin] at h
  exact h
 have cS := hid cS0
 clear cS0
 have happ : (⟨#[109, 97, 114, 103, 105, 110]⟩ : ByteArray) ++ ⟨#[45]⟩ = ⟨#[109, 97, 114, 103, 105, 110, 45]⟩ := by rfl
 go_enter Tryz.func21, Tryz.ntmps21
 go_wp2_with (go_at_call 27; (first | skip | rw [happ]); (with_reducible refine (cS.out _).mono ?_); rintro e W1 ⟨⟨v, rfl, ho⟩, hb⟩; have HO1 := hid ho; have HB1 := hid hb; clear ho hb)
 go_ret
 exact ⟨⟨_, rfl, HO1.out⟩, HB1.out⟩
theorem eq_padding : (sidesB ⟨#[112, 97, 100, 100, 105, 110, 103, 45]⟩ ⟨#[]⟩).map Value.string = ([[112, 97, 100, 100, 105, 110, 103, 45, 116, 111, 112], [112, 97, 100, 100, 105, 110, 103, 45, 114, 105, 103, 104, 116], [112, 97, 100, 100, 105, 110, 103, 45, 98, 111, 116, 116, 111, 109], [112, 97, 100, 100, 105, 110, 103, 45, 108, 101, 102, 116]] : List Bs).map strv := by kernel_rfl
theorem n_padding : NamesC ⟨#[112, 97, 100, 100, 105, 110, 103]⟩ [[112, 97, 100, 100, 105, 110, 103, 45, 116, 111, 112], [112, 97, 100, 100, 105, 110, 103, 45, 114, 105, 103, 104, 116], [112, 97, 100, 100, 105, 110, 103, 45, 98, 111, 116, 116, 111, 109], [112, 97, 100, 100, 105, 110, 103, 45, 108, 101, 102, 116]] := fun w => by
 have cS0 : ∀ w, Calls Tryz.prog 27 #[.string ⟨#[112, 97, 100, 100, 105, 110, 103, 45]⟩, .string ⟨#[]⟩] w fun e w' => (∃ v, e = .returned v /\ w'.ownsRow w.heap.size 9 1 v 4 (([[112, 97, 100, 100, 105, 110, 103, 45, 116, 111, 112], [112, 97, 100, 100, 105, 110, 103, 45, 114, 105, 103, 104, 116], [112, 97, 100, 100, 105, 110, 103, 45, 98, 111, 116, 116, 111, 109], [112, 97, 100, 100, 105, 110, 103, 45, 108, 101, 102, 116]] : List Bs).map strv)) /\ Below w.heap.size w w' := fun w => by
  have h := sides_ct ⟨#[112, 97, 100, 100, 105, 110, 103, 45]⟩ ⟨#[]⟩ (by decide) (by decide) w
  rw [eq_padding] at h
  exact h
 have cS := hid cS0
 clear cS0
 have happ : (⟨#[112, 97, 100, 100, 105, 110, 103]⟩ : ByteArray) ++ ⟨#[45]⟩ = ⟨#[112, 97, 100, 100, 105, 110, 103, 45]⟩ := by rfl
 go_enter Tryz.func21, Tryz.ntmps21
 go_wp2_with (go_at_call 27; (first | skip | rw [happ]); (with_reducible refine (cS.out _).mono ?_); rintro e W1 ⟨⟨v, rfl, ho⟩, hb⟩; have HO1 := hid ho; have HB1 := hid hb; clear ho hb)
 go_ret
 exact ⟨⟨_, rfl, HO1.out⟩, HB1.out⟩
theorem eq_inset : (sidesB ⟨#[]⟩ ⟨#[]⟩).map Value.string = ([[116, 111, 112], [114, 105, 103, 104, 116], [98, 111, 116, 116, 111, 109], [108, 101, 102, 116]] : List Bs).map strv := by kernel_rfl
theorem n_inset : NamesC ⟨#[105, 110, 115, 101, 116]⟩ [[116, 111, 112], [114, 105, 103, 104, 116], [98, 111, 116, 116, 111, 109], [108, 101, 102, 116]] := fun w => by
 have cS0 : ∀ w, Calls Tryz.prog 27 #[.string ⟨#[]⟩, .string ⟨#[]⟩] w fun e w' => (∃ v, e = .returned v /\ w'.ownsRow w.heap.size 9 1 v 4 (([[116, 111, 112], [114, 105, 103, 104, 116], [98, 111, 116, 116, 111, 109], [108, 101, 102, 116]] : List Bs).map strv)) /\ Below w.heap.size w w' := fun w => by
  have h := sides_ct ⟨#[]⟩ ⟨#[]⟩ (by decide) (by decide) w
  rw [eq_inset] at h
  exact h
 have cS := hid cS0
 clear cS0
 go_enter Tryz.func21, Tryz.ntmps21
 go_wp2_with (go_at_call 27; (with_reducible refine (cS.out _).mono ?_); rintro e W1 ⟨⟨v, rfl, ho⟩, hb⟩; have HO1 := hid ho; have HB1 := hid hb; clear ho hb)
 go_ret
 exact ⟨⟨_, rfl, HO1.out⟩, HB1.out⟩
theorem eq_border_width : (sidesB ⟨#[98, 111, 114, 100, 101, 114, 45]⟩ ⟨#[45, 119, 105, 100, 116, 104]⟩).map Value.string = ([[98, 111, 114, 100, 101, 114, 45, 116, 111, 112, 45, 119, 105, 100, 116, 104], [98, 111, 114, 100, 101, 114, 45, 114, 105, 103, 104, 116, 45, 119, 105, 100, 116, 104], [98, 111, 114, 100, 101, 114, 45, 98, 111, 116, 116, 111, 109, 45, 119, 105, 100, 116, 104], [98, 111, 114, 100, 101, 114, 45, 108, 101, 102, 116, 45, 119, 105, 100, 116, 104]] : List Bs).map strv := by kernel_rfl
theorem n_border_width : NamesC ⟨#[98, 111, 114, 100, 101, 114, 45, 119, 105, 100, 116, 104]⟩ [[98, 111, 114, 100, 101, 114, 45, 116, 111, 112, 45, 119, 105, 100, 116, 104], [98, 111, 114, 100, 101, 114, 45, 114, 105, 103, 104, 116, 45, 119, 105, 100, 116, 104], [98, 111, 114, 100, 101, 114, 45, 98, 111, 116, 116, 111, 109, 45, 119, 105, 100, 116, 104], [98, 111, 114, 100, 101, 114, 45, 108, 101, 102, 116, 45, 119, 105, 100, 116, 104]] := fun w => by
 have cS0 : ∀ w, Calls Tryz.prog 27 #[.string ⟨#[98, 111, 114, 100, 101, 114, 45]⟩, .string ⟨#[45, 119, 105, 100, 116, 104]⟩] w fun e w' => (∃ v, e = .returned v /\ w'.ownsRow w.heap.size 9 1 v 4 (([[98, 111, 114, 100, 101, 114, 45, 116, 111, 112, 45, 119, 105, 100, 116, 104], [98, 111, 114, 100, 101, 114, 45, 114, 105, 103, 104, 116, 45, 119, 105, 100, 116, 104], [98, 111, 114, 100, 101, 114, 45, 98, 111, 116, 116, 111, 109, 45, 119, 105, 100, 116, 104], [98, 111, 114, 100, 101, 114, 45, 108, 101, 102, 116, 45, 119, 105, 100, 116, 104]] : List Bs).map strv)) /\ Below w.heap.size w w' := fun w => by
  have h := sides_ct ⟨#[98, 111, 114, 100, 101, 114, 45]⟩ ⟨#[45, 119, 105, 100, 116, 104]⟩ (by decide) (by decide) w
  rw [eq_border_width] at h
  exact h
 have cS := hid cS0
 clear cS0
 go_enter Tryz.func21, Tryz.ntmps21
 go_wp2_with (go_at_call 27; (with_reducible refine (cS.out _).mono ?_); rintro e W1 ⟨⟨v, rfl, ho⟩, hb⟩; have HO1 := hid ho; have HB1 := hid hb; clear ho hb)
 go_ret
 exact ⟨⟨_, rfl, HO1.out⟩, HB1.out⟩
theorem eq_border_color : (sidesB ⟨#[98, 111, 114, 100, 101, 114, 45]⟩ ⟨#[45, 99, 111, 108, 111, 114]⟩).map Value.string = ([[98, 111, 114, 100, 101, 114, 45, 116, 111, 112, 45, 99, 111, 108, 111, 114], [98, 111, 114, 100, 101, 114, 45, 114, 105, 103, 104, 116, 45, 99, 111, 108, 111, 114], [98, 111, 114, 100, 101, 114, 45, 98, 111, 116, 116, 111, 109, 45, 99, 111, 108, 111, 114], [98, 111, 114, 100, 101, 114, 45, 108, 101, 102, 116, 45, 99, 111, 108, 111, 114]] : List Bs).map strv := by kernel_rfl
theorem n_border_color : NamesC ⟨#[98, 111, 114, 100, 101, 114, 45, 99, 111, 108, 111, 114]⟩ [[98, 111, 114, 100, 101, 114, 45, 116, 111, 112, 45, 99, 111, 108, 111, 114], [98, 111, 114, 100, 101, 114, 45, 114, 105, 103, 104, 116, 45, 99, 111, 108, 111, 114], [98, 111, 114, 100, 101, 114, 45, 98, 111, 116, 116, 111, 109, 45, 99, 111, 108, 111, 114], [98, 111, 114, 100, 101, 114, 45, 108, 101, 102, 116, 45, 99, 111, 108, 111, 114]] := fun w => by
 have cS0 : ∀ w, Calls Tryz.prog 27 #[.string ⟨#[98, 111, 114, 100, 101, 114, 45]⟩, .string ⟨#[45, 99, 111, 108, 111, 114]⟩] w fun e w' => (∃ v, e = .returned v /\ w'.ownsRow w.heap.size 9 1 v 4 (([[98, 111, 114, 100, 101, 114, 45, 116, 111, 112, 45, 99, 111, 108, 111, 114], [98, 111, 114, 100, 101, 114, 45, 114, 105, 103, 104, 116, 45, 99, 111, 108, 111, 114], [98, 111, 114, 100, 101, 114, 45, 98, 111, 116, 116, 111, 109, 45, 99, 111, 108, 111, 114], [98, 111, 114, 100, 101, 114, 45, 108, 101, 102, 116, 45, 99, 111, 108, 111, 114]] : List Bs).map strv)) /\ Below w.heap.size w w' := fun w => by
  have h := sides_ct ⟨#[98, 111, 114, 100, 101, 114, 45]⟩ ⟨#[45, 99, 111, 108, 111, 114]⟩ (by decide) (by decide) w
  rw [eq_border_color] at h
  exact h
 have cS := hid cS0
 clear cS0
 go_enter Tryz.func21, Tryz.ntmps21
 go_wp2_with (go_at_call 27; (with_reducible refine (cS.out _).mono ?_); rintro e W1 ⟨⟨v, rfl, ho⟩, hb⟩; have HO1 := hid ho; have HB1 := hid hb; clear ho hb)
 go_ret
 exact ⟨⟨_, rfl, HO1.out⟩, HB1.out⟩
theorem n_border_top : NamesC ⟨#[98, 111, 114, 100, 101, 114, 45, 116, 111, 112]⟩ [[98, 111, 114, 100, 101, 114, 45, 116, 111, 112, 45, 119, 105, 100, 116, 104], [98, 111, 114, 100, 101, 114, 45, 116, 111, 112, 45, 99, 111, 108, 111, 114]] := fun w => by
 have HO := hid (row_lit w [[98, 111, 114, 100, 101, 114, 45, 116, 111, 112, 45, 119, 105, 100, 116, 104], [98, 111, 114, 100, 101, 114, 45, 116, 111, 112, 45, 99, 111, 108, 111, 114]] 2 rfl (by decide))
 have HB := hid (ba w (.cells #[.string ⟨#[98, 111, 114, 100, 101, 114, 45, 116, 111, 112, 45, 119, 105, 100, 116, 104]⟩, .string ⟨#[98, 111, 114, 100, 101, 114, 45, 116, 111, 112, 45, 99, 111, 108, 111, 114]⟩] 9))
 have happ0 : (⟨#[98, 111, 114, 100, 101, 114, 45, 116, 111, 112]⟩ : ByteArray) ++ ⟨#[45, 119, 105, 100, 116, 104]⟩ = ⟨#[98, 111, 114, 100, 101, 114, 45, 116, 111, 112, 45, 119, 105, 100, 116, 104]⟩ := by rfl
 have happ1 : (⟨#[98, 111, 114, 100, 101, 114, 45, 116, 111, 112]⟩ : ByteArray) ++ ⟨#[45, 99, 111, 108, 111, 114]⟩ = ⟨#[98, 111, 114, 100, 101, 114, 45, 116, 111, 112, 45, 99, 111, 108, 111, 114]⟩ := by rfl
 go_enter Tryz.func21, Tryz.ntmps21
 go_wp2_with fail
 go_ret
 exact ⟨⟨_, rfl, HO.out⟩, HB.out⟩
theorem n_border_right : NamesC ⟨#[98, 111, 114, 100, 101, 114, 45, 114, 105, 103, 104, 116]⟩ [[98, 111, 114, 100, 101, 114, 45, 114, 105, 103, 104, 116, 45, 119, 105, 100, 116, 104], [98, 111, 114, 100, 101, 114, 45, 114, 105, 103, 104, 116, 45, 99, 111, 108, 111, 114]] := fun w => by
 have HO := hid (row_lit w [[98, 111, 114, 100, 101, 114, 45, 114, 105, 103, 104, 116, 45, 119, 105, 100, 116, 104], [98, 111, 114, 100, 101, 114, 45, 114, 105, 103, 104, 116, 45, 99, 111, 108, 111, 114]] 2 rfl (by decide))
 have HB := hid (ba w (.cells #[.string ⟨#[98, 111, 114, 100, 101, 114, 45, 114, 105, 103, 104, 116, 45, 119, 105, 100, 116, 104]⟩, .string ⟨#[98, 111, 114, 100, 101, 114, 45, 114, 105, 103, 104, 116, 45, 99, 111, 108, 111, 114]⟩] 9))
 have happ0 : (⟨#[98, 111, 114, 100, 101, 114, 45, 114, 105, 103, 104, 116]⟩ : ByteArray) ++ ⟨#[45, 119, 105, 100, 116, 104]⟩ = ⟨#[98, 111, 114, 100, 101, 114, 45, 114, 105, 103, 104, 116, 45, 119, 105, 100, 116, 104]⟩ := by rfl
 have happ1 : (⟨#[98, 111, 114, 100, 101, 114, 45, 114, 105, 103, 104, 116]⟩ : ByteArray) ++ ⟨#[45, 99, 111, 108, 111, 114]⟩ = ⟨#[98, 111, 114, 100, 101, 114, 45, 114, 105, 103, 104, 116, 45, 99, 111, 108, 111, 114]⟩ := by rfl
 go_enter Tryz.func21, Tryz.ntmps21
 go_wp2_with fail
 go_ret
 exact ⟨⟨_, rfl, HO.out⟩, HB.out⟩
theorem n_border_bottom : NamesC ⟨#[98, 111, 114, 100, 101, 114, 45, 98, 111, 116, 116, 111, 109]⟩ [[98, 111, 114, 100, 101, 114, 45, 98, 111, 116, 116, 111, 109, 45, 119, 105, 100, 116, 104], [98, 111, 114, 100, 101, 114, 45, 98, 111, 116, 116, 111, 109, 45, 99, 111, 108, 111, 114]] := fun w => by
 have HO := hid (row_lit w [[98, 111, 114, 100, 101, 114, 45, 98, 111, 116, 116, 111, 109, 45, 119, 105, 100, 116, 104], [98, 111, 114, 100, 101, 114, 45, 98, 111, 116, 116, 111, 109, 45, 99, 111, 108, 111, 114]] 2 rfl (by decide))
 have HB := hid (ba w (.cells #[.string ⟨#[98, 111, 114, 100, 101, 114, 45, 98, 111, 116, 116, 111, 109, 45, 119, 105, 100, 116, 104]⟩, .string ⟨#[98, 111, 114, 100, 101, 114, 45, 98, 111, 116, 116, 111, 109, 45, 99, 111, 108, 111, 114]⟩] 9))
 have happ0 : (⟨#[98, 111, 114, 100, 101, 114, 45, 98, 111, 116, 116, 111, 109]⟩ : ByteArray) ++ ⟨#[45, 119, 105, 100, 116, 104]⟩ = ⟨#[98, 111, 114, 100, 101, 114, 45, 98, 111, 116, 116, 111, 109, 45, 119, 105, 100, 116, 104]⟩ := by rfl
 have happ1 : (⟨#[98, 111, 114, 100, 101, 114, 45, 98, 111, 116, 116, 111, 109]⟩ : ByteArray) ++ ⟨#[45, 99, 111, 108, 111, 114]⟩ = ⟨#[98, 111, 114, 100, 101, 114, 45, 98, 111, 116, 116, 111, 109, 45, 99, 111, 108, 111, 114]⟩ := by rfl
 go_enter Tryz.func21, Tryz.ntmps21
 go_wp2_with fail
 go_ret
 exact ⟨⟨_, rfl, HO.out⟩, HB.out⟩
theorem n_border_left : NamesC ⟨#[98, 111, 114, 100, 101, 114, 45, 108, 101, 102, 116]⟩ [[98, 111, 114, 100, 101, 114, 45, 108, 101, 102, 116, 45, 119, 105, 100, 116, 104], [98, 111, 114, 100, 101, 114, 45, 108, 101, 102, 116, 45, 99, 111, 108, 111, 114]] := fun w => by
 have HO := hid (row_lit w [[98, 111, 114, 100, 101, 114, 45, 108, 101, 102, 116, 45, 119, 105, 100, 116, 104], [98, 111, 114, 100, 101, 114, 45, 108, 101, 102, 116, 45, 99, 111, 108, 111, 114]] 2 rfl (by decide))
 have HB := hid (ba w (.cells #[.string ⟨#[98, 111, 114, 100, 101, 114, 45, 108, 101, 102, 116, 45, 119, 105, 100, 116, 104]⟩, .string ⟨#[98, 111, 114, 100, 101, 114, 45, 108, 101, 102, 116, 45, 99, 111, 108, 111, 114]⟩] 9))
 have happ0 : (⟨#[98, 111, 114, 100, 101, 114, 45, 108, 101, 102, 116]⟩ : ByteArray) ++ ⟨#[45, 119, 105, 100, 116, 104]⟩ = ⟨#[98, 111, 114, 100, 101, 114, 45, 108, 101, 102, 116, 45, 119, 105, 100, 116, 104]⟩ := by rfl
 have happ1 : (⟨#[98, 111, 114, 100, 101, 114, 45, 108, 101, 102, 116]⟩ : ByteArray) ++ ⟨#[45, 99, 111, 108, 111, 114]⟩ = ⟨#[98, 111, 114, 100, 101, 114, 45, 108, 101, 102, 116, 45, 99, 111, 108, 111, 114]⟩ := by rfl
 go_enter Tryz.func21, Tryz.ntmps21
 go_wp2_with fail
 go_ret
 exact ⟨⟨_, rfl, HO.out⟩, HB.out⟩
theorem n_background : NamesC ⟨#[98, 97, 99, 107, 103, 114, 111, 117, 110, 100]⟩ [[98, 97, 99, 107, 103, 114, 111, 117, 110, 100, 45, 99, 111, 108, 111, 114]] := fun w => by
 have HO := hid (row_lit w [[98, 97, 99, 107, 103, 114, 111, 117, 110, 100, 45, 99, 111, 108, 111, 114]] 1 rfl (by decide))
 have HB := hid (ba w (.cells #[.string ⟨#[98, 97, 99, 107, 103, 114, 111, 117, 110, 100, 45, 99, 111, 108, 111, 114]⟩] 9))
 go_enter Tryz.func21, Tryz.ntmps21
 go_wp2_with fail
 go_ret
 exact ⟨⟨_, rfl, HO.out⟩, HB.out⟩
theorem n_flex : NamesC ⟨#[102, 108, 101, 120]⟩ [[102, 108, 101, 120, 45, 103, 114, 111, 119], [102, 108, 101, 120, 45, 115, 104, 114, 105, 110, 107], [102, 108, 101, 120, 45, 98, 97, 115, 105, 115]] := fun w => by
 have HO := hid (row_lit w [[102, 108, 101, 120, 45, 103, 114, 111, 119], [102, 108, 101, 120, 45, 115, 104, 114, 105, 110, 107], [102, 108, 101, 120, 45, 98, 97, 115, 105, 115]] 3 rfl (by decide))
 have HB := hid (ba w (.cells #[.string ⟨#[102, 108, 101, 120, 45, 103, 114, 111, 119]⟩, .string ⟨#[102, 108, 101, 120, 45, 115, 104, 114, 105, 110, 107]⟩, .string ⟨#[102, 108, 101, 120, 45, 98, 97, 115, 105, 115]⟩] 9))
 go_enter Tryz.func21, Tryz.ntmps21
 go_wp2_with fail
 go_ret
 exact ⟨⟨_, rfl, HO.out⟩, HB.out⟩
theorem n_list_style : NamesC ⟨#[108, 105, 115, 116, 45, 115, 116, 121, 108, 101]⟩ [[108, 105, 115, 116, 45, 115, 116, 121, 108, 101, 45, 116, 121, 112, 101]] := fun w => by
 have HO := hid (row_lit w [[108, 105, 115, 116, 45, 115, 116, 121, 108, 101, 45, 116, 121, 112, 101]] 1 rfl (by decide))
 have HB := hid (ba w (.cells #[.string ⟨#[108, 105, 115, 116, 45, 115, 116, 121, 108, 101, 45, 116, 121, 112, 101]⟩] 9))
 go_enter Tryz.func21, Tryz.ntmps21
 go_wp2_with fail
 go_ret
 exact ⟨⟨_, rfl, HO.out⟩, HB.out⟩
theorem n_color : NamesC ⟨#[99, 111, 108, 111, 114]⟩ [] := fun w => by
 go_enter Tryz.func21, Tryz.ntmps21
 go_wp2_with fail
 go_ret
 exact ⟨⟨_, rfl, World.ownsRow_nil _ _ _ _⟩, Below.refl _ _⟩
theorem n_border : NamesC ⟨#[98, 111, 114, 100, 101, 114]⟩ [[98, 111, 114, 100, 101, 114, 45, 116, 111, 112, 45, 119, 105, 100, 116, 104], [98, 111, 114, 100, 101, 114, 45, 114, 105, 103, 104, 116, 45, 119, 105, 100, 116, 104], [98, 111, 114, 100, 101, 114, 45, 98, 111, 116, 116, 111, 109, 45, 119, 105, 100, 116, 104], [98, 111, 114, 100, 101, 114, 45, 108, 101, 102, 116, 45, 119, 105, 100, 116, 104], [98, 111, 114, 100, 101, 114, 45, 116, 111, 112, 45, 99, 111, 108, 111, 114], [98, 111, 114, 100, 101, 114, 45, 114, 105, 103, 104, 116, 45, 99, 111, 108, 111, 114], [98, 111, 114, 100, 101, 114, 45, 98, 111, 116, 116, 111, 109, 45, 99, 111, 108, 111, 114], [98, 111, 114, 100, 101, 114, 45, 108, 101, 102, 116, 45, 99, 111, 108, 111, 114]] := fun w => by
 obtain ⟨i0, hi, hz0, hz1, hz2⟩ := info_parts infoS
 have Hz0 := hid hz0
 have Hi := hid hi
 have Hz1 := hid hz1
 have Hz2 := hid hz2
 clear hz0 hi hz1 hz2
 have cS0 : ∀ w, Calls Tryz.prog 27 #[.string ⟨#[98, 111, 114, 100, 101, 114, 45]⟩, .string ⟨#[45, 119, 105, 100, 116, 104]⟩] w fun e w' => (∃ v, e = .returned v /\ w'.ownsRow w.heap.size 9 1 v 4 (([[98, 111, 114, 100, 101, 114, 45, 116, 111, 112, 45, 119, 105, 100, 116, 104], [98, 111, 114, 100, 101, 114, 45, 114, 105, 103, 104, 116, 45, 119, 105, 100, 116, 104], [98, 111, 114, 100, 101, 114, 45, 98, 111, 116, 116, 111, 109, 45, 119, 105, 100, 116, 104], [98, 111, 114, 100, 101, 114, 45, 108, 101, 102, 116, 45, 119, 105, 100, 116, 104]] : List Bs).map strv)) /\ Below w.heap.size w w' := fun w => by
  have h := sides_ct ⟨#[98, 111, 114, 100, 101, 114, 45]⟩ ⟨#[45, 119, 105, 100, 116, 104]⟩ (by decide) (by decide) w
  rw [eq_border_width] at h
  exact h
 have cT0 : ∀ w, Calls Tryz.prog 27 #[.string ⟨#[98, 111, 114, 100, 101, 114, 45]⟩, .string ⟨#[45, 99, 111, 108, 111, 114]⟩] w fun e w' => (∃ v, e = .returned v /\ w'.ownsRow w.heap.size 9 1 v 4 (([[98, 111, 114, 100, 101, 114, 45, 116, 111, 112, 45, 99, 111, 108, 111, 114], [98, 111, 114, 100, 101, 114, 45, 114, 105, 103, 104, 116, 45, 99, 111, 108, 111, 114], [98, 111, 114, 100, 101, 114, 45, 98, 111, 116, 116, 111, 109, 45, 99, 111, 108, 111, 114], [98, 111, 114, 100, 101, 114, 45, 108, 101, 102, 116, 45, 99, 111, 108, 111, 114]] : List Bs).map strv)) /\ Below w.heap.size w w' := fun w => by
  have h := sides_ct ⟨#[98, 111, 114, 100, 101, 114, 45]⟩ ⟨#[45, 99, 111, 108, 111, 114]⟩ (by decide) (by decide) w
  rw [eq_border_color] at h
  exact h
 have cS := hid cS0
 have cT := hid cT0
 clear cS0 cT0
 go_enter Tryz.func21, Tryz.ntmps21
 go_wp2_with (first
  | (go_at_call 27; (with_reducible refine (cS.out _).mono ?_); rintro e W1 ⟨⟨v1, rfl, ho⟩, hb⟩; have HO1 := hid ho; have HB1 := hid hb; clear ho hb)
  | (go_at_call 27; (with_reducible refine (cT.out _).mono ?_); rintro e W2 ⟨⟨v2, rfl, ho⟩, hb⟩; obtain ⟨g2, c2, rfl, hg2, hl2⟩ := row_at7 ho (by decide); have HO2 := hid ho; have HO3 := hid (row_on HO1.out hb); have HB2 := hid (tb HB1 hb); clear ho hb)
  | (at_builtin; refine wpList_append_own _ rfl _ _ 41 rfl w.heap.size 9 i0 (.string .empty) 1 16 Tryz.underlying41 Hi.out Hz0.out Hz1.out Hz2.out rfl (by decide) _ 4 _ rfl HO3.out ⟨g2, 0, none⟩ 4 c2 (([[98, 111, 114, 100, 101, 114, 45, 116, 111, 112, 45, 99, 111, 108, 111, 114], [98, 111, 114, 100, 101, 114, 45, 114, 105, 103, 104, 116, 45, 99, 111, 108, 111, 114], [98, 111, 114, 100, 101, 114, 45, 98, 111, 116, 116, 111, 109, 45, 99, 111, 108, 111, 114], [98, 111, 114, 100, 101, 114, 45, 108, 101, 102, 116, 45, 99, 111, 108, 111, 114]] : List Bs).map strv) rfl rfl ?c1 ?c2 ?c3 ?c4 ?c5 ?_))
 case c1 => exact HO2.out.cells rfl
 case c2 => simp [Value.oneCell', strv]
 case c3 => unfold maxLen; omega
 case c4 => omega
 case c5 => have := HB2.out.size; first | omega | (simp; omega)
 intro v' W6 hown6 hgrow6 hnil6
 have HB6 := hid (below_app HB2.out hgrow6 HO3.out (Nat.le_refl _) (by have := HB2.out.size; first | omega | (simp; omega)))
 replace hown6 := hid hown6
 clear hgrow6 hnil6
 go_wp2_with fail
 go_ret
 exact ⟨⟨_, rfl, by simpa using hown6.out⟩, HB6.out⟩
end prp
end Go.Proofs.YthgffoanecknoaaGreatDoor
