/- Contracts and plain law, a bundle. -/
import Derived.Maps.AppendAt
import Derived.Lib.Hide
import Derived.Test.YtaobpkffcolobaaGreatDoorBE2
set_option linter.unusedVariables false
set_option maxRecDepth 100000
set_option maxHeartbeats 16000000
open Go.Lib (hid)
namespace Go.Proofs.YtaobpkffcolobaaGreatDoor
namespace sel
open Go.RowKit base tok rul
def OneC (N : Nat) : Prop := ∀ (b : Nat) (L : List Tk) (d : Nat) (w : World), L.length <= N -> GoodS L -> 6 * L.length + 1 <= d -> RdrS w b L -> EnvS b w ->
 Calls Tryz.prog 87 #[(pn b)] w (RetO b w (oneF d L))
theorem attrV_form {n : Bs} {op : UInt8} {L M : List Tk} {t : Ts} (h : attrV n op L = some (t, M)) : ∃ v, t = .mk 5 n op v 0 0 [] := by
 cases L with
 | nil => cases h
 | cons v L =>
  rw [attrV] at h
  obtain ⟨x, _, h1⟩ := bind_some' h
  obtain ⟨M2, _, h2⟩ := map_some' h1
  obtain ⟨rfl, _⟩ := Prod.mk.inj h2
  exact ⟨x, rfl⟩
theorem attrF_form {L M : List Tk} {t : Ts} (h : attrF L = some (t, M)) : ∃ n op v, t = .mk 5 n op v 0 0 [] := by
 cases L with
 | nil => cases h
 | cons u L =>
  rw [attrF] at h
  obtain ⟨x, _, h1⟩ := bind_some' h
  cases hr : rawF [93] L with
  | some K =>
   rw [hr] at h1
   obtain ⟨rfl, _⟩ := Prod.mk.inj (Option.some.inj h1)
   exact ⟨lowP x, 0, [], rfl⟩
  | none =>
   rw [hr] at h1
   cases L with
   | nil => cases h1
   | cons o K =>
    simp only at h1
    split at h1
    ·cases ho : o.raw with
     | nil => rw [ho] at h1; cases h1
     | cons c r =>
      rw [ho] at h1
      simp only at h1
      split at h1
      ·obtain ⟨v, e⟩ := attrV_form h1
       exact ⟨_, _, v, e⟩
      ·obtain ⟨K2, _, h4⟩ := bind_some' h1
       obtain ⟨v, e⟩ := attrV_form h4
       exact ⟨_, _, v, e⟩
    ·cases h1
theorem one_ct (N : Nat) (hPC : PseC N) : OneC (N + 1) := by
 intro b L d w hl hg hd h hE
 obtain ⟨d, rfl⟩ : ∃ e, d = e + 1 := ⟨d - 1, by omega⟩
 cases L with
 | nil =>
  rw [oneF]
  exact one_nil b w h hE
 | cons t M =>
  have ht0 := hg.2 t (List.mem_cons_self ..)
  have ht : t.k ≠ 0 /\ t.val.length <= 400 := ⟨ht0.1, ht0.2.2.2⟩
  have hgm := hg.tail
  simp only [List.length_cons] at hl hd
  have hP := fun w h hE => hPC b M d w (by omega) hgm (by omega) h hE
  rw [oneF.eq_def]
  simp only
  by_cases e1 : t.raw = [42]
  ·rw [if_pos e1]
   exact one_star b t M ht e1 w h hE
  ·rw [if_neg e1]
   by_cases e2 : t.k = 1
   ·rw [if_pos e2]
    cases hx : wordF t 1 [] with
    | none => exact (one_name_bad b t M ht e1 e2 hx w h hE).mono fun e w' h => h
    | some x => exact one_name_ok b t M ht e1 e2 x hx w h hE
   ·rw [if_neg e2]
    by_cases e3 : t.k = 4
    ·rw [if_pos e3]
     cases hx : wordF t 4 [35] with
     | none => exact (one_hash_bad b t M ht e1 e2 e3 hx w h hE).mono fun e w' h => h
     | some x => exact one_hash_ok b t M ht e1 e2 e3 x hx w h hE
    ·rw [if_neg e3]
     by_cases e4 : t.raw = [46]
     ·rw [if_pos e4]
      cases M with
      | nil => exact (one_dot_end b t ht e1 e2 e3 e4 w h hE).mono fun e w' h => h
      | cons u M =>
       have hu0 := hgm.2 u (List.mem_cons_self ..)
       have hu : u.k ≠ 0 /\ u.val.length <= 400 := ⟨hu0.1, hu0.2.2.2⟩
       simp only
       cases hx : wordF u 1 [] with
       | none => exact (one_dot_bad b t ht u M hu e1 e2 e3 e4 hx w h hE).mono fun e w' h => h
       | some x => exact one_dot_ok b t ht u M hu e1 e2 e3 e4 x hx w h hE
     ·rw [if_neg e4]
      by_cases e5 : t.raw = [91]
      ·rw [if_pos e5]
       cases hc : attrF M with
       | none => exact (one_brk_bad b t M ht hgm e1 e2 e3 e4 e5 hc w h hE).mono fun e w' h => h
       | some r =>
        obtain ⟨x, M2⟩ := r
        obtain ⟨n, op, v, rfl⟩ := attrF_form hc
        exact one_brk_ok b t M ht hgm e1 e2 e3 e4 e5 n op v M2 hc w h hE
      ·rw [if_neg e5]
       by_cases e6 : t.raw = [58]
       ·rw [if_pos e6]
        cases hc : pseudoF d M with
        | none =>
         rw [hc] at hP
         exact (one_col_bad b t M ht e1 e2 e3 e4 e5 e6 hP w h hE).mono fun e w' h => h
        | some r =>
         obtain ⟨x, M2⟩ := r
         obtain ⟨k, n, op, v, a, c, subs⟩ := x
         rw [hc] at hP
         exact one_col_ok b t M ht e1 e2 e3 e4 e5 e6 k n op v a c subs M2 hP w h hE
       ·rw [if_neg e6]
        exact one_none b t M ht e1 e2 e3 e4 e5 e6 w h hE
end sel
namespace sel
open Go.RowKit base tok rul
theorem infoTs : (Tryz.prog.info? 26).map (fun i => (i.zero, i.size, i.bytes)) = some (some (.agg #[.int .i64 0, .string .empty, .int .u8 0, .string .empty, .int .i64 0, .int .i64 0, .slice none 0 0]), 7, 88) := by kernel_rfl
def TvAt (X : Nat -> Prop) (w : World) : List Ts -> List Value -> Prop
 | [], ys => ys = []
 | t :: l, ys => ∃ xs zs, ys = xs ++ zs /\ xs.length = 7 /\ TsAt X w t xs /\ TvAt X w l zs
theorem ts_len {X : Nat -> Prop} {w : World} {t : Ts} {xs : List Value} (h : TsAt X w t xs) : xs.length = 7 := by
 obtain ⟨k, n, op, v, a, c, subs⟩ := t
 obtain ⟨A, cap, rfl, _⟩ := ts_form h
 rfl
theorem TvAt.keep {X Y : Nat -> Prop} {w w' : World} (hs : w.heap.size <= w'.heap.size) (hk : ∀ c, X c -> c < w.heap.size -> Y c /\ w'.heap[c]? = w.heap[c]?) : ∀ (l : List Ts) (ys : List Value), TvAt X w l ys -> TvAt Y w' l ys
 | [], ys => fun h => h
 | t :: l, ys => fun h => by
  obtain ⟨xs, zs, e, hn, h1, h2⟩ := h
  exact ⟨xs, zs, e, hn, TsAt.keep hs hk t _ h1, TvAt.keep hs hk l zs h2⟩
theorem TvAt.snoc {X : Nat -> Prop} {w : World} {t : Ts} {xs : List Value} (ht : TsAt X w t xs) : ∀ {l : List Ts} {ys : List Value}, TvAt X w l ys -> TvAt X w (l ++ [t]) (ys ++ xs)
 | [], ys, h => by
  rw [show ys = [] from h]
  exact ⟨xs, [], by simp, ts_len ht, ht, rfl⟩
 | a :: l, ys, h => by
  obtain ⟨us, zs, rfl, hn, h1, h2⟩ := h
  exact ⟨us, zs ++ xs, by rw [List.append_assoc], hn, h1, TvAt.snoc ht h2⟩
theorem TvAt.at_ {X : Nat -> Prop} {w : World} {c : Nat} : ∀ {l : List Ts} {ys : List Value} {o : Nat}, TvAt X w l ys -> (∀ j u, ys[j]? = some u -> w.cell? ⟨c, o + j, none⟩ = some u) -> SsAt X w c o l
 | [], ys, o, h, _ => by rw [SsAt]; trivial
 | t :: l, ys, o, h, hc => by
  obtain ⟨xs, zs, rfl, hn, h1, h2⟩ := h
  rw [SsAt]
  refine ⟨⟨xs, hn, fun j hj => ?_, h1⟩, TvAt.at_ h2 (fun j u hj => ?_)⟩
  ·have hx := List.getElem?_eq_getElem (show j < xs.length by omega)
   rw [hx]
   exact hc j _ (by rw [List.getElem?_append_left (by omega)]; exact hx)
  ·have h3 := hc (7 + j) u (by rw [List.getElem?_append_right (by omega), hn]; simpa using hj)
   rw [<- h3]
   congr 2
   omega
def SsV (X : Nat -> Prop) (w : World) (l : List Ts) (A : Option Addr) (cap : Nat) : Prop := l.length <= cap /\ (0 < l.length -> ∃ c o, A = some ⟨c, o, none⟩ /\ X c /\ c < w.heap.size /\ SsAt X w c o l)
theorem SsV.keep {X Y : Nat -> Prop} {w w' : World} (hs : w.heap.size <= w'.heap.size) (hk : ∀ c, X c -> c < w.heap.size -> Y c /\ w'.heap[c]? = w.heap[c]?) {l : List Ts} {A : Option Addr} {cap : Nat} (h : SsV X w l A cap) : SsV Y w' l A cap := by
 refine ⟨h.1, fun h0 => ?_⟩
 obtain ⟨c, o, hA, hX, hlt, hx⟩ := h.2 h0
 obtain ⟨k1, k2⟩ := hk c hX hlt
 exact ⟨c, o, hA, k1, Nat.lt_of_lt_of_le hlt hs, SsAt.keep hs hk c k2 l o hx⟩
theorem ss_row {X : Nat -> Prop} {w : World} {base : Nat} {l : List Ts} {ys : List Value} {A : Option Addr} {n cap : Nat} (ho : w.ownsRow base 26 7 (.slice A n cap) n ys) (hn : l.length = n) (hv : TvAt X w l ys) (hX : ∀ g, A = some ⟨g, 0, none⟩ -> base <= g -> X g) : SsV X w l A cap := by
 subst hn
 rcases ho.2 with ⟨h1, h2⟩ | ⟨g, cap', cur, hv', hb, hg, hc, _⟩
 ·injection h1 with h3 h4 h5
  subst h3 h5
  exact ⟨by omega, fun h => by omega⟩
 ·injection hv' with h1 h2 h3
  subst h1 h3
  refine ⟨hc, fun h0 => ⟨g, 0, rfl, hX g rfl hb, (ho.lt g rfl).2, TvAt.at_ hv (fun j u hj => ?_)⟩⟩
  have h4 := ho.cells (g := g) rfl j u hj
  rw [show (⟨g, 0, none⟩ : Addr).add j = ⟨g, j, none⟩ by unfold Addr.add; split <;> simp_all] at h4
  rw [Nat.zero_add]
  exact h4
def RetS (b : Nat) (w : World) : Option (List Ts × List Tk) -> Ending -> World -> Prop
 | some r, e, w' => w.grownBy w' (some b) /\ (∃ A cap, e = .returned (.slice A r.1.length cap) /\ SsV (fun c => w.heap.size <= c) w' r.1 A cap) /\ RdrS w' b r.2
 | none, e, w' => e = .panicked chainN /\ w.grownBy w' (some b)
def StepC (N : Nat) : Prop := ∀ (b : Nat) (L : List Tk) (d : Nat) (w : World), L.length <= N -> GoodS L -> 6 * L.length + 2 <= d -> RdrS w b L -> EnvS b w ->
 Calls Tryz.prog 58 #[(pn b)] w (RetS b w (stepF d [] L))
end sel
namespace sel
open Go.RowKit base tok rul
def goS (d : Nat) (acc : List Ts) : Option Ts × List Tk -> Option (List Ts × List Tk)
 | (some t, M) => stepF d (acc ++ [t]) M
 | (none, M) => if acc = [] then none else some (acc, M)
theorem stepF_go (d : Nat) (acc : List Ts) (L : List Tk) : stepF (d + 1) acc L = (oneF d L).bind (goS d acc) := by
 rw [stepF]
 cases oneF d L with
 | none => rfl
 | some r =>
  obtain ⟨o, M⟩ := r
  cases o <;> rfl
theorem step_die (b : Nat) (w : World) (hc : Calls Tryz.prog 87 #[(pn b)] w (RetO b w none)) :
  Calls Tryz.prog 58 #[(pn b)] w fun e w' => e = .panicked chainN /\ w.grownBy w' (some b) := by
 unfold RetO at hc
 have cO := hid hc
 clear hc
 go_enter Tryz.func58, Tryz.ntmps58
 go_wp2_with (go_at_call 87; (with_reducible refine cO.out.mono ?_); rintro e W1 ⟨rfl, hg1⟩; have HG1 := hid hg1; clear hg1)
 exact ⟨rfl, rfl, HG1.out⟩
end sel
namespace sel
open Go.RowKit base tok rul
def XS (B : Nat) (S : List (Option Nat)) (c : Nat) : Prop := B <= c /\ some c ∉ S
def Kp (B : Nat) (S : List (Option Nat)) (w : World) (S' : List (Option Nat)) (w' : World) : Prop :=
 w.heap.size <= w'.heap.size /\ ∀ c, XS B S c -> c < w.heap.size -> XS B S' c /\ w'.heap[c]? = w.heap[c]?
theorem Kp.refl (B : Nat) (S : List (Option Nat)) (w : World) : Kp B S w S w := ⟨Nat.le_refl _, fun c h _ => ⟨h, rfl⟩⟩
theorem Kp.trans {B : Nat} {S S' S'' : List (Option Nat)} {w w' w'' : World} (h : Kp B S w S' w') (k : Kp B S' w' S'' w'') : Kp B S w S'' w'' :=
 ⟨Nat.le_trans h.1 k.1, fun c hc hl => by
  obtain ⟨a1, a2⟩ := h.2 c hc hl
  obtain ⟨b1, b2⟩ := k.2 c a1 (Nat.lt_of_lt_of_le hl h.1)
  exact ⟨b1, b2.trans a2⟩⟩
theorem Kp.grown {B b : Nat} {S : List (Option Nat)} {w w' : World} (hg : w.grownBy w' (some b)) (hb : b < B) : Kp B S w S w' :=
 ⟨hg.size, fun c h hl => ⟨h, hg.block c hl (fun e => by have h1 := h.1; have := Option.some.inj e; omega)⟩⟩
theorem Kp.below {B : Nat} {S : List (Option Nat)} {w w' : World} (hb : Below w.heap.size w w') : Kp B S w S w' := ⟨hb.size, fun c h hl => ⟨h, hb.block c hl⟩⟩
theorem Kp.alloc {B : Nat} {S : List (Option Nat)} {w : World} (o : Obj) : Kp B S w S (w.alloc o) := Kp.below (ba _ o)
theorem Kp.set {B : Nat} {S : List (Option Nat)} {w : World} {p : Addr} (hp : some p.block ∈ S) (u : Value) : Kp B S w S (w.setCell p u) :=
 ⟨by simp [World.setCell], fun c h hl => ⟨h, Below.heap_setCell w p u c (fun e => h.2 (e ▸ hp))⟩⟩
theorem Kp.app {B : Nat} {S S' : List (Option Nat)} {w w' : World} {r : Option Nat} (hg : w.grownBy w' r) (hr : r ∈ S) (hS : ∀ x ∈ S', x ∈ S ∨ x = some w.heap.size) : Kp B S w S' w' :=
 ⟨hg.size, fun c h hl => ⟨⟨h.1, fun e => by
  rcases hS _ e with h1 | h1
  ·exact h.2 h1
  ·have := Option.some.inj h1; omega⟩, hg.block c hl (fun e => h.2 (e ▸ hr))⟩⟩
theorem Kp.move {B : Nat} {S S' : List (Option Nat)} {w : World} (hS : ∀ x ∈ S', x ∈ S ∨ ∃ k, x = some k /\ w.heap.size <= k) : Kp B S w S' w :=
 ⟨Nat.le_refl _, fun c h hl => ⟨⟨h.1, fun e => by
  rcases hS _ e with h1 | ⟨k, h1, h2⟩
  ·exact h.2 h1
  ·have := Option.some.inj h1; omega⟩, rfl⟩⟩
theorem Kp.seven {B k : Nat} {S : List (Option Nat)} {w : World} (hk : some k ∈ S) (x0 x1 x2 x3 x4 x5 x6 : Value) : Kp B S w S (((((((w.setCell ⟨k, 0, none⟩ x0).setCell ⟨k, 1, none⟩ x1).setCell ⟨k, 2, none⟩ x2).setCell ⟨k, 3, none⟩ x3).setCell ⟨k, 4, none⟩ x4).setCell ⟨k, 5, none⟩ x5).setCell ⟨k, 6, none⟩ x6) :=
 ((((((Kp.set (p := ⟨k, 0, none⟩) hk x0).trans (Kp.set (p := ⟨k, 1, none⟩) hk x1)).trans (Kp.set (p := ⟨k, 2, none⟩) hk x2)).trans (Kp.set (p := ⟨k, 3, none⟩) hk x3)).trans (Kp.set (p := ⟨k, 4, none⟩) hk x4)).trans (Kp.set (p := ⟨k, 5, none⟩) hk x5)).trans (Kp.set (p := ⟨k, 6, none⟩) hk x6)
theorem Kp.tv {B : Nat} {S S' : List (Option Nat)} {w w' : World} (h : Kp B S w S' w') {l : List Ts} {ys : List Value} (hv : TvAt (XS B S) w l ys) : TvAt (XS B S') w' l ys := TvAt.keep h.1 h.2 _ _ hv
theorem Kp.ts {B : Nat} {S S' : List (Option Nat)} {w w' : World} (h : Kp B S w S' w') {t : Ts} {xs : List Value} (hv : TsAt (XS B S) w t xs) : TsAt (XS B S') w' t xs := TsAt.keep h.1 h.2 _ _ hv
theorem TsAt.fresh {B : Nat} {S : List (Option Nat)} {w w' : World} {t : Ts} {xs : List Value} (h : TsAt (fun c => w.heap.size <= c) w' t xs) (hB : B <= w.heap.size) (hS : ∀ x ∈ S, ∀ k, x = some k -> k < w.heap.size) : TsAt (XS B S) w' t xs :=
 TsAt.keep (Nat.le_refl _) (fun c (hc : w.heap.size <= c) _ => ⟨⟨Nat.le_trans hB hc, fun e => by have := hS _ e c rfl; omega⟩, rfl⟩) _ _ h
theorem grown_lowS {w w1 w2 : World} {B b : Nat} (h : w.grownBy w1 (some b)) (hb : Below B w1 w2) (hB : w.heap.size <= B) : w.grownBy w2 (some b) :=
 ⟨hb.os.trans h.os, hb.tape.trans h.tape, hb.output.trans h.output, Nat.le_trans h.size hb.size, fun k hk hne => (hb.block k (Nat.lt_of_lt_of_le hk hB)).trans (h.block k hk hne)⟩
theorem grown_allocS {w w' : World} {b : Nat} (h : w.grownBy w' (some b)) (o : Obj) : w.grownBy (w'.alloc o) (some b) := h.trans (World.grownBy_alloc _ _ _)
theorem app_mem {v v' : Option Nat} {q n : Nat} (h : v' = v ∨ v' = some n) {x : Option Nat} (hx : x ∈ [v', some q]) : x ∈ [v, some q] ∨ x = some n := by
 simp only [List.mem_cons, List.not_mem_nil, or_false] at hx ⊢
 rcases hx with rfl | rfl
 ·rcases h with h | h
  ·exact .inl (.inl h)
  ·exact .inr h
 ·exact .inl (.inr rfl)
theorem move_mem {v : Option Nat} {q n : Nat} {x : Option Nat} (hx : x ∈ [v, some n]) : x ∈ [v, some q] ∨ ∃ k, x = some k /\ n <= k := by
 simp only [List.mem_cons, List.not_mem_nil, or_false] at hx ⊢
 rcases hx with rfl | rfl
 ·exact .inl (.inl rfl)
 ·exact .inr ⟨n, rfl, Nat.le_refl _⟩
theorem fresh_mem {w : World} {o : Obj} {base : Nat} {e : TypeId} {size n : Nat} {v : Value} {xs : List Value} (h : w.ownsRow base e size v n xs) {x : Option Nat} (hx : x ∈ [v.ownBlock, some w.heap.size]) {k : Nat} (hk : x = some k) : k < (w.alloc o).heap.size := by
 rw [World.size_alloc]
 simp only [List.mem_cons, List.not_mem_nil, or_false] at hx
 rcases hx with h1 | h1
 ·have := (h.lt k (h1.symm.trans hk)).2
  omega
 ·have := Option.some.inj (hk.symm.trans h1)
  omega
theorem own_set {w : World} {base : Nat} {e : TypeId} {size n : Nat} {v : Value} {xs : List Value} (h : w.ownsRow base e size v n xs) {k : Nat} (hk : v.ownBlock ≠ some k) (j : Nat) (x : Value) : (w.setCell ⟨k, j, none⟩ x).ownsRow base e size v n xs := h.kept (grown_set w k j x) (.inr hk)
theorem own_seven {w : World} {base : Nat} {e : TypeId} {size n : Nat} {v : Value} {xs : List Value} (h : w.ownsRow base e size v n xs) {k : Nat} (hk : v.ownBlock ≠ some k) (x0 x1 x2 x3 x4 x5 x6 : Value) : (((((((w.setCell ⟨k, 0, none⟩ x0).setCell ⟨k, 1, none⟩ x1).setCell ⟨k, 2, none⟩ x2).setCell ⟨k, 3, none⟩ x3).setCell ⟨k, 4, none⟩ x4).setCell ⟨k, 5, none⟩ x5).setCell ⟨k, 6, none⟩ x6).ownsRow base e size v n xs :=
 own_set (own_set (own_set (own_set (own_set (own_set (own_set h hk 0 x0) hk 1 x1) hk 2 x2) hk 3 x3) hk 4 x4) hk 5 x5) hk 6 x6
end sel
namespace sel
open Go.RowKit base tok rul
theorem infoSl : (Tryz.prog.info? 27).map (fun i => (i.zero, i.size, i.bytes)) = some (some (.slice none 0 0), 1, 24) := by kernel_rfl
theorem infoBy : (Tryz.prog.info? 5).map (fun i => (i.zero, i.size, i.bytes)) = some (some (.int .u8 0), 1, 1) := by kernel_rfl
theorem infoPa : (Tryz.prog.info? 36).map (fun i => (i.zero, i.size, i.bytes)) = some (some (.agg #[.slice none 0 0, .slice none 0 0]), 2, 48) := by kernel_rfl
def SvAt (X : Nat -> Prop) (w : World) : List (List Ts) -> List Value -> Prop
 | [], ys => ys = []
 | s :: l, ys => ∃ A cap zs, ys = .slice A s.length cap :: zs /\ SsV X w s A cap /\ SvAt X w l zs
theorem SvAt.keep {X Y : Nat -> Prop} {w w' : World} (hs : w.heap.size <= w'.heap.size) (hk : ∀ c, X c -> c < w.heap.size -> Y c /\ w'.heap[c]? = w.heap[c]?) : ∀ {l : List (List Ts)} {ys : List Value}, SvAt X w l ys -> SvAt Y w' l ys
 | [], ys, h => h
 | s :: l, ys, h => by
  obtain ⟨A, cap, zs, e, h1, h2⟩ := h
  exact ⟨A, cap, zs, e, h1.keep hs hk, SvAt.keep hs hk h2⟩
theorem SvAt.snoc {X : Nat -> Prop} {w : World} {s : List Ts} {A : Option Addr} {cap : Nat} (hs : SsV X w s A cap) : ∀ {l : List (List Ts)} {ys : List Value}, SvAt X w l ys -> SvAt X w (l ++ [s]) (ys ++ [.slice A s.length cap])
 | [], ys, h => by
  rw [show ys = [] from h]
  exact ⟨A, cap, [], rfl, hs, rfl⟩
 | a :: l, ys, h => by
  obtain ⟨B, c, zs, rfl, h1, h2⟩ := h
  exact ⟨B, c, zs ++ [.slice A s.length cap], rfl, h1, SvAt.snoc hs h2⟩
theorem SvAt.at_ {X : Nat -> Prop} {w : World} {c : Nat} : ∀ {l : List (List Ts)} {ys : List Value} {o : Nat}, SvAt X w l ys -> (∀ j u, ys[j]? = some u -> w.cell? ⟨c, o + j, none⟩ = some u) -> SssAt X w c o l
 | [], ys, o, h, _ => by rw [SssAt]; trivial
 | s :: l, ys, o, h, hc => by
  obtain ⟨A, cap, zs, rfl, h1, h2⟩ := h
  rw [SssAt]
  exact ⟨⟨A, cap, hc 0 _ rfl, h1.1, h1.2⟩, SvAt.at_ h2 (fun j u hj => (by rw [Nat.add_assoc, Nat.add_comm 1 j]; exact hc (j + 1) u hj))⟩
def PvAt (X : Nat -> Prop) (w : World) : List Pa -> List Value -> Prop
 | [], ys => ys = []
 | p :: l, ys => ∃ x0 x1 zs, ys = x0 :: x1 :: zs /\ PaAt X w p [x0, x1] /\ PvAt X w l zs
theorem PvAt.keep {X Y : Nat -> Prop} {w w' : World} (hs : w.heap.size <= w'.heap.size) (hk : ∀ c, X c -> c < w.heap.size -> Y c /\ w'.heap[c]? = w.heap[c]?) : ∀ {l : List Pa} {ys : List Value}, PvAt X w l ys -> PvAt Y w' l ys
 | [], ys, h => h
 | s :: l, ys, h => by
  obtain ⟨x0, x1, zs, e, h1, h2⟩ := h
  exact ⟨x0, x1, zs, e, PaAt.keep hs hk _ _ h1, PvAt.keep hs hk h2⟩
theorem PvAt.snoc {X : Nat -> Prop} {w : World} {p : Pa} {x0 x1 : Value} (hs : PaAt X w p [x0, x1]) : ∀ {l : List Pa} {ys : List Value}, PvAt X w l ys -> PvAt X w (l ++ [p]) (ys ++ [x0, x1])
 | [], ys, h => by
  rw [show ys = [] from h]
  exact ⟨x0, x1, [], rfl, hs, rfl⟩
 | a :: l, ys, h => by
  obtain ⟨y0, y1, zs, rfl, h1, h2⟩ := h
  exact ⟨y0, y1, zs ++ [x0, x1], rfl, h1, PvAt.snoc hs h2⟩
theorem PvAt.at_ {X : Nat -> Prop} {w : World} {c : Nat} : ∀ {l : List Pa} {ys : List Value} {o : Nat}, PvAt X w l ys -> (∀ j u, ys[j]? = some u -> w.cell? ⟨c, o + j, none⟩ = some u) -> PasAt X w c o l
 | [], ys, o, h, _ => by rw [PasAt]; trivial
 | s :: l, ys, o, h, hc => by
  obtain ⟨x0, x1, zs, rfl, h1, h2⟩ := h
  rw [PasAt]
  exact ⟨⟨x0, x1, hc 0 _ rfl, hc 1 _ rfl, h1⟩, PvAt.at_ h2 (fun j u hj => (by rw [Nat.add_assoc, Nat.add_comm 2 j]; exact hc (j + 2) u hj))⟩
theorem Kp.sv {B : Nat} {S S' : List (Option Nat)} {w w' : World} (h : Kp B S w S' w') {l : List (List Ts)} {ys : List Value} (hv : SvAt (XS B S) w l ys) : SvAt (XS B S') w' l ys := SvAt.keep h.1 h.2 hv
theorem Kp.pv {B : Nat} {S S' : List (Option Nat)} {w w' : World} (h : Kp B S w S' w') {l : List Pa} {ys : List Value} (hv : PvAt (XS B S) w l ys) : PvAt (XS B S') w' l ys := PvAt.keep h.1 h.2 hv
theorem Kp.ss {B : Nat} {S S' : List (Option Nat)} {w w' : World} (h : Kp B S w S' w') {l : List Ts} {A : Option Addr} {cap : Nat} (hv : SsV (XS B S) w l A cap) : SsV (XS B S') w' l A cap := hv.keep h.1 h.2
theorem row_cells {w : World} {base : Nat} {e : TypeId} {size : Nat} {A : Option Addr} {n cap : Nat} {xs : List Value} (ho : w.ownsRow base e size (.slice A n cap) n xs) : n <= cap /\ (0 < n -> ∃ g, A = some ⟨g, 0, none⟩ /\ base <= g /\ g < w.heap.size /\ ∀ j u, xs[j]? = some u -> w.cell? ⟨g, 0 + j, none⟩ = some u) := by
 rcases ho.2 with ⟨h1, h2⟩ | ⟨g, cap', cur, hv', hb, hg, hc, _⟩
 ·injection h1 with h3 h4 h5
  subst h3 h5
  exact ⟨by omega, fun h => by omega⟩
 ·injection hv' with h1 h2 h3
  subst h1 h3
  refine ⟨hc, fun h0 => ⟨g, rfl, hb, (ho.lt g rfl).2, fun j u hj => ?_⟩⟩
  have h4 := ho.cells (g := g) rfl j u hj
  rw [show (⟨g, 0, none⟩ : Addr).add j = ⟨g, j, none⟩ by unfold Addr.add; split <;> simp_all] at h4
  rw [Nat.zero_add]
  exact h4
def jv (js : Bs) : List Value := js.map fun c => Value.int .u8 (nv c)
theorem bs_row {X : Nat -> Prop} {w : World} {base : Nat} {js : Bs} {v : Value} (ho : w.ownsRow base 5 1 v js.length (jv js)) (hX : ∀ g, v.ownBlock = some g -> base <= g -> X g) : BsAt X w js v := by
 obtain ⟨A, cap, rfl⟩ := row_form ho
 obtain ⟨hc, h⟩ := row_cells ho
 refine ⟨A, cap, rfl, hc, fun h0 => ?_⟩
 obtain ⟨g, rfl, h1, h2, h3⟩ := h h0
 exact ⟨g, 0, rfl, hX g rfl h1, h2, fun i x hi => h3 i _ (by rw [jv, List.getElem?_map, hi]; rfl)⟩
structure PSt (B z q : Nat) (steps : List (List Ts)) (joins : Bs) (vs vj : Value) (w : World) : Prop where
 zc : Blk w z 36 #[.slice none 0 0, .slice none 0 0]
 pc : Blk w q 36 #[vs, vj]
 os : ∃ ys, w.ownsRow B 27 1 vs steps.length ys /\ SvAt (XS B [vs.ownBlock, vj.ownBlock, some z, some q]) w steps ys
 oj : w.ownsRow B 5 1 vj joins.length (jv joins)
 ne : vs.ownBlock ≠ some z /\ vs.ownBlock ≠ some q /\ vj.ownBlock ≠ some z /\ vj.ownBlock ≠ some q /\ z ≠ q /\ (vj.ownBlock = none ∨ vs.ownBlock ≠ vj.ownBlock)
 bz : B <= z /\ B <= q
theorem PSt.on {B z q b : Nat} {steps : List (List Ts)} {joins : Bs} {vs vj : Value} {w w' : World} (h : PSt B z q steps joins vs vj w) (hg : w.grownBy w' (some b)) (hb : b < B) : PSt B z q steps joins vs vj w' := by
 obtain ⟨ys, o1, o2⟩ := h.os
 obtain ⟨h1, h2⟩ := h.bz
 exact ⟨Blk_grown h.zc hg (by omega), Blk_grown h.pc hg (by omega), ⟨ys, o1.kept hg (.inr fun e => by have := (o1.lt _ e).1; omega), (Kp.grown hg hb).sv o2⟩, h.oj.kept hg (.inr fun e => by have := (h.oj.lt _ e).1; omega), h.ne, h.bz⟩
theorem PSt.below {B z q : Nat} {steps : List (List Ts)} {joins : Bs} {vs vj : Value} {w w' : World} (h : PSt B z q steps joins vs vj w) (hb : Below w.heap.size w w') : PSt B z q steps joins vs vj w' := by
 obtain ⟨ys, o1, o2⟩ := h.os
 exact ⟨h.zc.below hb h.zc.lt, h.pc.below hb h.pc.lt, ⟨ys, row_on o1 hb, (Kp.below hb).sv o2⟩, row_on h.oj hb, h.ne, h.bz⟩
theorem PSt.alloc {B z q : Nat} {steps : List (List Ts)} {joins : Bs} {vs vj : Value} {w : World} (h : PSt B z q steps joins vs vj w) (o : Obj) : PSt B z q steps joins vs vj (w.alloc o) := h.below (ba _ o)
theorem PSt.drew {B z q : Nat} {steps : List (List Ts)} {joins : Bs} {vs vj : Value} {w : World} (h : PSt B z q steps joins vs vj w) : PSt B z q steps joins vs vj w.drew := h.below (Below.refl _ _).drew
theorem grown_block {w w' : World} {r : Option Nat} {k : Nat} {t : TypeId} {cs : Array Value} (h : Blk w k t cs) (hg : w.grownBy w' r) (hk : r ≠ some k) : Blk w' k t cs := (hg.block k h.lt (fun e => hk e.symm)).trans h
theorem PSt.join {B z q : Nat} {steps : List (List Ts)} {joins : Bs} {vs vj v' : Value} {w w' : World} (h : PSt B z q steps joins vs vj w) (c : UInt8) (hB : B <= w.heap.size) (ho : w'.ownsRow B 5 1 v' (joins.length + 1) (jv joins ++ [.int .u8 (nv c)])) (hg : w.grownBy w' vj.ownBlock) (hat : v'.ownBlock = vj.ownBlock ∨ v'.ownBlock = some w.heap.size) :
  PSt B z q steps (joins ++ [c]) vs v' (w'.setCell ⟨q, 1, none⟩ v') := by
 obtain ⟨ys, o1, o2⟩ := h.os
 obtain ⟨n1, n2, n3, n4, n5, n6⟩ := h.ne
 have hzl := h.zc.lt
 have hql := h.pc.lt
 have m1 : v'.ownBlock ≠ some z := by rcases hat with e | e <;> rw [e]; exact n3; exact fun e => by have := Option.some.inj e; omega
 have m2 : v'.ownBlock ≠ some q := by rcases hat with e | e <;> rw [e]; exact n4; exact fun e => by have := Option.some.inj e; omega
 have m3 : vs.ownBlock ≠ v'.ownBlock := by
  rcases hat with e | e <;> rw [e]
  ·rcases n6 with h1 | h1
   ·rw [h1]
    intro h2
    have e1 : v'.ownBlock = none := e.trans h1
    rcases ho.2 with ⟨_, h3⟩ | ⟨g, cap, cur, h3, _⟩
    ·omega
    ·rw [h3] at e1; cases e1
   ·exact h1
  ·exact fun e => by have := (o1.lt _ e).2; omega
 have mo : vj.ownBlock = none ∨ vs.ownBlock ≠ vj.ownBlock := n6
 have O1 : w'.ownsRow B 27 1 vs steps.length ys := by
  rcases mo with h1 | h1
  ·rw [h1] at hg
   cases hv : vs.ownBlock with
   | none => exact o1.kept hg (.inl hv)
   | some g => exact o1.kept hg (.inr (by rw [hv]; simp))
  ·exact o1.kept hg (.inr h1)
 have K : Kp B [vs.ownBlock, vj.ownBlock, some z, some q] w [vs.ownBlock, v'.ownBlock, some z, some q] w' := Kp.app hg (by simp) (fun x hx => by
  simp only [List.mem_cons, List.not_mem_nil, or_false] at hx ⊢
  rcases hx with e | e | e | e
  ·exact .inl (.inl e)
  ·rcases hat with h1 | h1
   ·exact .inl (.inr (.inl (e.trans h1)))
   ·exact .inr (e.trans h1)
  ·exact .inl (.inr (.inr (.inl e)))
  ·exact .inl (.inr (.inr (.inr e))))
 refine ⟨(grown_block h.zc hg n3).far (p := ⟨q, 1, none⟩) (by dsimp only; omega) v', (grown_block h.pc hg n4).put 1 v', ⟨ys, own_set O1 n2 1 v', (K.trans (Kp.set (p := ⟨q, 1, none⟩) (by simp) v')).sv o2⟩, ?_, ⟨n1, n2, m1, m2, n5, .inr m3⟩, h.bz⟩
 have := own_set ho m2 1 v'
 rw [jv, List.map_append, List.length_append]
 exact this
theorem PSt.step {B z q : Nat} {steps : List (List Ts)} {joins : Bs} {vs vj v' : Value} {w w' : World} (h : PSt B z q steps joins vs vj w) (s : List Ts) (A : Option Addr) (cap : Nat) (hB : B <= w.heap.size) (hs : SsV (XS B [vs.ownBlock, vj.ownBlock, some z, some q]) w s A cap) {ys : List Value} (o1 : w.ownsRow B 27 1 vs steps.length ys) (o2 : SvAt (XS B [vs.ownBlock, vj.ownBlock, some z, some q]) w steps ys)
  (ho : w'.ownsRow B 27 1 v' (steps.length + 1) (ys ++ [.slice A s.length cap])) (hg : w.grownBy w' vs.ownBlock) (hat : v'.ownBlock = vs.ownBlock ∨ v'.ownBlock = some w.heap.size) :
  PSt B z q (steps ++ [s]) joins v' vj (w'.setCell ⟨q, 0, none⟩ v') := by
 obtain ⟨n1, n2, n3, n4, n5, n6⟩ := h.ne
 have hzl := h.zc.lt
 have hql := h.pc.lt
 have m1 : v'.ownBlock ≠ some z := by rcases hat with e | e <;> rw [e]; exact n1; exact fun e => by have := Option.some.inj e; omega
 have m2 : v'.ownBlock ≠ some q := by rcases hat with e | e <;> rw [e]; exact n2; exact fun e => by have := Option.some.inj e; omega
 have m3 : vj.ownBlock = none ∨ v'.ownBlock ≠ vj.ownBlock := by
  rcases hat with e | e <;> rw [e]
  ·exact n6
  ·exact .inr fun e => by have := (h.oj.lt _ e.symm).2; omega
 have OJ : w'.ownsRow B 5 1 vj joins.length (jv joins) := h.oj.kept hg (by rcases n6 with h1 | h1; exact .inl h1; exact .inr (Ne.symm h1))
 have K : Kp B [vs.ownBlock, vj.ownBlock, some z, some q] w [v'.ownBlock, vj.ownBlock, some z, some q] w' := Kp.app hg (by simp) (fun x hx => by
  simp only [List.mem_cons, List.not_mem_nil, or_false] at hx ⊢
  rcases hx with e | e | e | e
  ·rcases hat with h1 | h1
   ·exact .inl (.inl (e.trans h1))
   ·exact .inr (e.trans h1)
  ·exact .inl (.inr (.inl e))
  ·exact .inl (.inr (.inr (.inl e)))
  ·exact .inl (.inr (.inr (.inr e))))
 have K2 := K.trans (Kp.set (p := ⟨q, 0, none⟩) (by simp) v')
 refine ⟨(grown_block h.zc hg n1).far (p := ⟨q, 0, none⟩) (by dsimp only; omega) v', (grown_block h.pc hg n2).put 0 v', ⟨ys ++ [.slice A s.length cap], ?_, SvAt.snoc (K2.ss hs) (K2.sv o2)⟩, own_set OJ n4 0 v', ⟨m1, m2, n3, n4, n5, m3⟩, h.bz⟩
 rw [List.length_append]
 exact own_set ho m2 0 v'
theorem PSt.done {B z q : Nat} {steps : List (List Ts)} {joins : Bs} {vs vj : Value} {w : World} (h : PSt B z q steps joins vs vj w) : PaAt (XS B [some z]) w (.mk steps joins) [vs, vj] := by
 obtain ⟨ys, o1, o2⟩ := h.os
 obtain ⟨n1, n2, n3, n4, n5, n6⟩ := h.ne
 obtain ⟨A, cap, rfl⟩ := row_form o1
 obtain ⟨hc, hr⟩ := row_cells o1
 rw [PaAt]
 refine ⟨A, cap, vj, rfl, hc, bs_row h.oj (fun g hg hb => ⟨hb, fun e => n3 (hg.trans (by simpa using e))⟩), fun h0 => ?_⟩
 obtain ⟨g, rfl, h1, h2, h3⟩ := hr h0
 refine ⟨g, 0, rfl, ⟨h1, fun e => n1 (show some g = some z by simpa using e)⟩, h2, SvAt.at_ (SvAt.keep (Nat.le_refl _) (fun c hX _ => ⟨⟨hX.1, fun e => hX.2 ?_⟩, rfl⟩) o2) h3⟩
 simp only [List.mem_cons, List.not_mem_nil, or_false] at e ⊢
 exact .inr (.inr (.inl e))
theorem PSt.first {w W1 : World} {s : List Ts} {A : Option Addr} {cap : Nat} (hz : w.heap.size + 1 <= W1.heap.size) (hs : SsV (fun c => w.heap.size + 1 <= c) W1 s A cap) (hc : Blk W1 w.heap.size 36 #[.slice none 0 0, .slice none 0 0]) :
  PSt w.heap.size w.heap.size (W1.heap.size + 1) [s] [] (.slice (some ⟨W1.heap.size, 0, none⟩) 1 1) (.slice none 0 0) ((W1.alloc (.cells #[.slice A s.length cap] 27)).alloc (.cells #[.slice (some ⟨W1.heap.size, 0, none⟩) 1 1, .slice none 0 0] 36)) := by
 refine ⟨(hc.alloc _).alloc _, (by rw [show W1.heap.size + 1 = (W1.alloc (.cells #[.slice A s.length cap] 27)).heap.size by simp]; exact Blk.new rfl), ⟨[.slice A s.length cap], (World.ownsRow_lit W1 #[.slice A s.length cap] 1 (by omega) (by decide) rfl).alloc _, ⟨A, cap, [], rfl, ?_, rfl⟩⟩, World.ownsRow_nil _ _ _ _, ⟨?_, ?_, ?_, ?_, ?_, .inl rfl⟩, ⟨Nat.le_refl _, by omega⟩⟩
 ·refine hs.keep (by simp; omega) (fun c (hc : w.heap.size + 1 <= c) hl => ⟨⟨by omega, fun e => ?_⟩, ?_⟩)
  ·exact (Below.heap_alloc _ _ c (by simp; omega)).trans (Below.heap_alloc _ _ c hl)
  ·simp [Value.ownBlock] at e
   omega
 all_goals (first | omega | (intro e; simp [Value.ownBlock] at e <;> omega))
end sel
end Go.Proofs.YtaobpkffcolobaaGreatDoor
