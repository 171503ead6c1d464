/- Contracts and plain law, a bundle: WVarRing. -/
import Derived.Laws.AppendOwnNone
import Derived.Test.YtmjbaimccbkmpaaDoorBJ
import Derived.Test.YtmjbaimccbkmpaaDoorBI

namespace Go.Proofs.YtmjbaimccbkmpaaDoor.vrs
open Go.RowKit Go.Proofs.YtmjbaimccbkmpaaDoor.base Go.Proofs.YtmjbaimccbkmpaaDoor.tok Go.Proofs.YtmjbaimccbkmpaaDoor.rul
set_option linter.unusedVariables false

/-- append of variables that came in to a row of the call's own -/
theorem wpList_append_vars {w : World} {ops : Array Oper} {rest : List Oper} {o : Oper} {a : Act} {Q : Exit → Act → World → Prop} (hgd : o.guard = none) (s x : Operand) (t : TypeId)
    (ho : o.op = .call { callee := .builtin .append, args := #[s, x], argTypes := #[t, t] })
    (base : Nat) (e : TypeId) (i : TypeInfo) (z : Value) (bytes : Nat) (ht : Tryd.prog.underlying t = some (.slice e)) (hi : Tryd.prog.info? e = some i) (hz : i.zero = some z)
    (hsize : i.size = 2) (hby : i.bytes = bytes) (hzs : z.cells.size = 2)
    (v : Value) (n : Nat) (xs : List Value) (hs : a.eval s = v) (hown : w.ownsRow base e 2 v n xs)
    (A : Option Addr) (cap : Nat) (V : List Vr) (hA : A = none → cap = 0) (hx : a.eval x = .slice A V.length cap) (hI : VRd w w.heap.size A V.length V)
    (h63 : n + V.length ≤ maxLen) (hbytes : (n + V.length) * bytes ≤ 140737488355328) (hbase : base ≤ w.heap.size)
    (h : ∀ v' w', w'.ownsRow base e 2 v' (n + V.length) (xs ++ flatR vc V) → w.grownBy w' v.ownBlock → (v'.ownBlock = v.ownBlock ∨ v'.ownBlock = some w.heap.size) → wpList Tryd.prog ops Q rest (a.put o.dst v') w') :
    wpList Tryd.prog ops Q (o :: rest) a w := by
  cases A with
  | none =>
    have h0 : V.length = 0 := by
      rcases Nat.eq_zero_or_pos V.length with h | h
      · exact h
      · obtain ⟨b, off, he, _⟩ := hI.2 h
        cases he
    obtain rfl := List.eq_nil_of_length_eq_zero h0
    obtain rfl := hA rfl
    exact wpList_append_own_none hgd s x t ho base e i 2 ht hi v n xs hs hown hx (h v w (by simpa [flatR] using hown) ⟨rfl, rfl, rfl, Nat.le_refl _, fun _ _ _ => rfl⟩ (.inl rfl))
  | some ad =>
    have hnews : ∀ j u, (flatR vc V)[j]? = some u → w.cell? (ad.add j) = some u := by
      rcases Nat.eq_zero_or_pos V.length with h | h
      · obtain rfl := List.eq_nil_of_length_eq_zero h
        exact fun j u hj => by simp [flatR] at hj
      · obtain ⟨b, off, he, _⟩ := hI.2 h
        cases he
        exact vrd_news hI
    exact wpList_append_own_at w hgd s x t ho base e i z 2 bytes ht hi hz hsize hby hzs (by decide) v n xs hs hown ad V.length cap (flatR vc V) hx (vflat_len V) hnews (vflat_one V) h63 hbytes hbase (fun v' w' q1 q2 _ q4 => h v' w' q1 q2 q4)

theorem hasU_ct (u : Bs) (hu : u ≠ []) (hul : u.length ≤ 1000) (v : Bs) (hv : v.length ≤ 1100000) (W1 : World) : Calls Tryd.prog 9 #[.string (bs v), .string (bs u)] W1 fun e w' => e = .returned (.bool (hasT u v)) ∧ Below W1.heap.size W1 w' :=
  hasText_ct v u hu (by omega) hul W1
theorem ringS_take {k i : Nat} (h : i ≤ k) : (ringS k).take (i + 1) = (ringS k).take i ++ [(ringN i, ringV ((i + 1) % (k + 1)))] := by
  rw [List.take_add_one]
  congr 1
  unfold ringS
  rw [List.getElem?_map, List.getElem?_range (by omega)]
  rfl
theorem conv_one {W : World} {b : Nat} {c : UInt8} {x : Int} (hx : x = nv c) (h : W.cell? ⟨b, 0, none⟩ = some (.int .u8 x)) : (convert 34 9 (.slice (some ⟨b, 0, none⟩) 1 1)).run Tryd.prog W = .ok (.string (bs [c])) W :=
  run_convert_bytes_back W 34 9 5 ⟨b, 0, none⟩ 1 [c] Tryd.underlying34 Tryd.underlying5 Tryd.underlying9 (fun j hj => by
    obtain rfl : j = 0 := by simp at hj; omega
    rw [add_none, h, hx]
    rfl)
theorem rest4 (a : Int) : ∃ k : Nat, k < 4 ∧ (IntKind.u64.wrap a).tmod 4 = (k : Int) := by
  have h0 : 0 ≤ IntKind.u64.wrap a := by simp [IntKind.wrap, IntKind.bits, IntKind.signed]; omega
  generalize IntKind.u64.wrap a = v at *
  rw [Int.tmod_eq_emod_of_nonneg h0]
  exact ⟨(v % 4).toNat, by omega, by omega⟩

def RingRel (w : World) (V : List Vr) (k : Nat) (v x : Value) (wr : World) : Prop :=
  ∃ (i : Nat) (L : List Vr), i ≤ k + 1 ∧ x = .int .i64 i ∧ L = V ++ (ringS k).take i ∧ wr.ownsRow w.heap.size 26 2 v L.length (flatR vc L) ∧ Below w.heap.size w wr

set_option maxRecDepth 100000 in
set_option maxHeartbeats 16000000 in
theorem ring_at (A : Option Addr) (cap : Nat) (n : Int) (V : List Vr) (w : World) (hA : A = none → cap = 0) (hn : V.length ≤ 1000000000) (hcap : V.length ≤ cap) (hv : ∀ q ∈ V, q.1.length ≤ 1100000 ∧ q.2.length ≤ 1100000) (hI : VRd w w.heap.size A V.length V) (hF : FoldAt w) (hm : MaxL w) :
    Calls Tryd.prog 5 #[.slice A V.length cap, .int .i64 n] w fun e w' => e = .returned (.bool true) ∧ Below w.heap.size w w' := by
  obtain ⟨i0, hi, hz0, hz1, hz2⟩ := info_parts infoV
  have Hz0 := Lib.hid hz0
  have Hi := Lib.hid hi
  have Hz1 := Lib.hid hz1
  have Hz2 := Lib.hid hz2
  clear hz0 hi hz1 hz2
  have cP := Lib.hid (fact_ct w hF hm)
  obtain ⟨m, hm1⟩ : ∃ m : Nat, min V.length 15 = m := ⟨_, rfl⟩
  have hml : m ≤ V.length := by omega
  have hm15 : m ≤ 15 := by omega
  have hmz : min (V.length : Int) 15 = (m : Int) := by omega
  have hsl := fun w => slice_upto (P := Tryd.prog) (k := 2) Tryd.underlying27 Tryd.sizeOf26 A V.length cap (m : Int) (by omega) (by omega) w
  simp only [Int.toNat_natCast] at hsl
  have HTk := Lib.hid (hI.first hml)
  have htl : (V.take m).length = m := by rw [List.length_take]; omega
  have hvt : ∀ q ∈ V.take m, q.1.length ≤ 1100000 ∧ q.2.length ≤ 1100000 := fun q hq => hv q (List.mem_of_mem_take hq)
  generalize V.take m = T at *
  clear hm1 hI hv
  subst htl
  obtain ⟨k, hk4, q4⟩ := rest4 n
  obtain ⟨TR, hTR⟩ : ∃ TR, T ++ ringS k = TR := ⟨_, rfl⟩
  have hTRl : TR.length ≤ 20 := by rw [← hTR, List.length_append, ringS_len]; omega
  have hTRv : ∀ q ∈ TR, q.2.length ≤ 1100000 := fun q hq => by
    rw [← hTR] at hq
    rcases List.mem_append.1 hq with h | h
    · exact (hvt q h).2
    · have := ringS_val k q h
      omega
  obtain ⟨p, hp⟩ := ring_dec (cntP TR)
  obtain ⟨q, hq⟩ := ring_dec (cntP T)
  have HOut := Lib.hid (fun hV => ring_out (V := T) (k := k) hk4 hm15 hV (by rw [hTR]; exact hp) hq)
  rw [hTR] at HOut
  have cR1 := Lib.hid (fun (A2 : Option Addr) (c2 : Nat) (W : World) (h : Below w.heap.size w W) (hI2 : VRd W W.heap.size A2 TR.length TR) => resolveD_ct A2 c2 TR p hp w W h (by omega) hTRv hI2 hF hm)
  have cR2 := Lib.hid (fun (W : World) (h : Below w.heap.size w W) (hI2 : VRd W W.heap.size A T.length T) => resolveD_ct A cap T q hq w W h (by omega) (fun v hv => (hvt v hv).2) hI2 hF hm)
  have HTR := Lib.hid hTR
  have hlen1 : (resP q (cntP T)).length ≤ 20 := Nat.le_trans (out_len _ _) (cntP_len _)
  generalize resP q (cntP T) = a at *
  generalize resP p (cntP TR) = b at *
  have HVt := Lib.hid hvt
  have HA := Lib.hid hA
  clear hF hm hvt hp hq hTR hTRv hA
  go_enter Tryd.func5, Tryd.ntmps5
  go_wp2_with (go_at_call 7; (with_reducible refine (cP.out).mono ?_); rintro e W1 ⟨rfl, hb1⟩; have HB1 := Lib.hid hb1; clear hb1)
  go_loopw [6] (fun x wr => ∃ i : Nat, i ≤ T.length ∧ x = .int .i64 i ∧ (∀ v ∈ T.take i, hasT ringT v.2 = false ∧ 92 ∉ v.2 ∧ hasT ringT v.1 = false) ∧ Below W1.heap.size W1 wr) (fun x _ => T.length - (intOf x).toNat)
  case atStart => exact ⟨0, Nat.zero_le _, rfl, fun v h => absurd (show v ∈ [] from h) List.not_mem_nil, Below.refl _ _⟩
  case round =>
    obtain ⟨WO, hWO⟩ : ∃ WO, WO = wr := ⟨_, rfl⟩
    subst hWO
    obtain ⟨i, hil, rfl, hno, hbel⟩ := hrel
    have HNo := Lib.hid hno
    have HBl := Lib.hid hbel
    have HBw := Lib.hid (HB1.out.trans (hbel.mono HB1.out.size))
    clear hno hbel
    by_cases hlt : i < T.length
    · have hlt' : (i : Int) < (T.length : Int) := by omega
      have q1 : IntKind.i64.wrap ((i : Int) + 1) = (i : Int) + 1 := IntWalk.i64_in _ (by omega)
      obtain ⟨b1, off, y, rfl, hbb, hd, c0, c1⟩ := VRd.var (HTk.out.keep HBw.out HBw.out.size) hlt
      have HD := Lib.hid hd
      have hyl := HVt.out y (List.mem_of_getElem? hd)
      have cV := Lib.hid (show ∀ W1, Calls Tryd.prog 9 #[.string (bs y.2), .string ⟨#[114, 105, 110, 103]⟩] W1 fun e w' => e = .returned (.bool (hasT ringT y.2)) ∧ Below W1.heap.size W1 w' from hasU_ct ringT (by decide) (by decide) y.2 hyl.2)
      have cS := Lib.hid (show ∀ W1, Calls Tryd.prog 9 #[.string (bs y.2), .string ⟨#[92]⟩] W1 fun e w' => e = .returned (.bool (decide ((92 : UInt8) ∈ y.2))) ∧ Below W1.heap.size W1 w' from hasB_ct 92 y.2 hyl.2)
      have cN := Lib.hid (show ∀ W1, Calls Tryd.prog 9 #[.string (bs y.1), .string ⟨#[114, 105, 110, 103]⟩] W1 fun e w' => e = .returned (.bool (hasT ringT y.1)) ∧ Below W1.heap.size W1 w' from hasU_ct ringT (by decide) (by decide) y.1 hyl.1)
      have hcs : hasT ringT y.2 = true ∨ (hasT ringT y.2 = false ∧ decide ((92 : UInt8) ∈ y.2) = true) ∨ (hasT ringT y.2 = false ∧ decide ((92 : UInt8) ∈ y.2) = false ∧ hasT ringT y.1 = true) ∨ (hasT ringT y.2 = false ∧ decide ((92 : UInt8) ∈ y.2) = false ∧ hasT ringT y.1 = false) := by
        cases hasT ringT y.2 <;> cases decide ((92 : UInt8) ∈ y.2) <;> cases hasT ringT y.1 <;> simp
      have HAll := Lib.hid (show hasT ringT y.2 = false ∧ decide ((92 : UInt8) ∈ y.2) = false ∧ hasT ringT y.1 = false → ∀ v ∈ T.take (i + 1), hasT ringT v.2 = false ∧ 92 ∉ v.2 ∧ hasT ringT v.1 = false from fun h =>
        mem_take_succ (Q := fun v : Vr => hasT ringT v.2 = false ∧ 92 ∉ v.2 ∧ hasT ringT v.1 = false) HNo.out hd ⟨h.1, of_decide_eq_false h.2.1, h.2.2⟩)
      generalize hasT ringT y.2 = d10 at *
      generalize decide ((92 : UInt8) ∈ y.2) = d13 at *
      generalize hasT ringT y.1 = d12 at *
      obtain ⟨yn, yv⟩ := y
      simp only at c0 c1 cV cS cN
      clear hd hyl
      rcases hcs with rfl | ⟨rfl, rfl⟩ | ⟨rfl, rfl, rfl⟩ | ⟨rfl, rfl, rfl⟩
      all_goals
        go_wp2_with (go_at_call 9; first
          | ((with_reducible refine (cV.out _).mono ?_); rintro e W2 ⟨rfl, hb2⟩; have HB2 := Lib.hid hb2; have HB4 := Lib.hid HB2.out; replace c0 := (hb2.cell hbb).trans c0; replace c1 := (hb2.cell hbb).trans c1; replace hbb := Nat.lt_of_lt_of_le hbb hb2.size; clear hb2)
          | ((with_reducible refine (cS.out _).mono ?_); rintro e W3 ⟨rfl, hb3⟩; have HB3 := Lib.hid (HB2.out.trans (hb3.mono HB2.out.size)); have HB4 := Lib.hid HB3.out; replace c0 := (hb3.cell hbb).trans c0; replace c1 := (hb3.cell hbb).trans c1; replace hbb := Nat.lt_of_lt_of_le hbb hb3.size; clear hb3)
          | ((with_reducible refine (cN.out _).mono ?_); rintro e W4 ⟨rfl, hb4⟩; have HB4 := Lib.hid (HB3.out.trans (hb4.mono HB3.out.size)); clear hb4))
      case roundEnd =>
        go_roundw
        case rel => exact ⟨i + 1, by omega, by go_num, HAll.out ⟨trivial, trivial, trivial⟩, HBl.out.trans (HB4.out.mono HBl.out.size)⟩
        case measure => simp [intOf]; omega
      all_goals
        go_ret
        exact ⟨rfl, HBw.out.trans (HB4.out.mono HBw.out.size)⟩
    · obtain rfl : i = T.length := by omega
      have HV := Lib.hid (HOut.out (by have := HNo.out; rwa [List.take_length] at this))
      have w1 : IntKind.u64.wrap (k : Int) = k := by simp [IntKind.wrap, IntKind.bits, IntKind.signed]; omega
      have w2 : IntKind.i64.wrap (k : Int) = k := IntWalk.i64_in _ (by omega)
      have hs1 := HBl.out.size
      have HI0 := Lib.hid (HTk.out.keep HBw.out HBw.out.size)
      have HI1 := Lib.hid (show VRd (WO.alloc (.cells #[] 26)) (WO.alloc (.cells #[] 26)).heap.size A T.length T from HI0.out.keep ((Below.refl _ _).alloc (Nat.le_refl _) (.cells #[] 26)) (by simp))
      clear HOut HNo hsl hmz hlt
      go_wp2_with (at_builtin; refine wpList_append_vars rfl _ _ 27 rfl WO.heap.size 26 i0 (.agg #[.string .empty, .string .empty]) 32 Tryd.underlying27 Hi.out Hz0.out Hz1.out Hz2.out rfl _ _ _ rfl (World.ownsRow_made WO #[] 0 (Nat.le_refl _) (by unfold maxLen; omega) rfl) A cap T HA.out rfl HI1.out ?c3 ?c4 ?c5 ?_)
      case c3 => unfold maxLen; omega
      case c4 => omega
      case c5 => simp
      intro v' w4 hown4 hgrow4 hblk4
      have HB4 := Lib.hid (((Below.refl WO.heap.size WO).alloc (Nat.le_refl _) (.cells #[] 26)).grown hgrow4 (by simp) (fun k hk => by have := Option.some.inj (show some WO.heap.size = some k from hk); omega))
      obtain ⟨g', cap', rfl⟩ := row_form hown4
      have HRow4 := Lib.hid (show w4.ownsRow WO.heap.size 26 2 (.slice g' T.length cap') T.length (flatR vc T) by simpa using hown4)
      clear hgrow4 hblk4 hown4
      go_wp2
      go_loopw [8, 9] (fun v x wr => RingRel WO T k v x wr) (fun _ x _ => k + 1 - (intOf x).toNat)
      case atStart => exact ⟨0, T, Nat.zero_le _, rfl, by simp, HRow4.out, HB4.out⟩
      case round =>
        obtain ⟨i, L, hik, rfl, hL, hrow, hbel⟩ := hrel
        obtain ⟨AL, cL, rfl⟩ := row_form hrow
        have hLl : L.length ≤ 20 := by rw [hL, List.length_append, List.length_take, ringS_len]; omega
        have HL := Lib.hid hL
        have HRow := Lib.hid hrow
        have HBl5 := Lib.hid hbel
        have HBw5 := Lib.hid (HBw.out.trans (hbel.mono HBw.out.size))
        clear hL hrow hbel
        by_cases hlk : i ≤ k
        · have hlk' : (i : Int) ≤ (k : Int) := by omega
          obtain ⟨r, hr⟩ : ∃ r, (i + 1) % (k + 1) = r := ⟨_, rfl⟩
          have hrk : r < 4 := by have := Nat.mod_lt (i + 1) (show k + 1 > 0 by omega); omega
          have qr : ((i : Int) + 1).tmod ((k : Int) + 1) = (r : Int) := by
            rw [Int.tmod_eq_emod_of_nonneg (by omega), ← hr]
            show ((i + 1 : Nat) : Int) % ((k + 1 : Nat) : Int) = _
            rfl
          have qz : ¬ ((k : Int) + 1 = 0) := by omega
          have q1 : IntKind.i64.wrap ((i : Int) + 1) = (i : Int) + 1 := IntWalk.i64_in _ (by omega)
          have q2 : IntKind.i64.wrap ((k : Int) + 1) = (k : Int) + 1 := IntWalk.i64_in _ (by omega)
          have q3 : IntKind.i64.wrap (97 + (i : Int)) = 97 + (i : Int) := IntWalk.i64_in _ (by omega)
          have q4 : IntKind.i64.wrap (97 + (r : Int)) = 97 + (r : Int) := IntWalk.i64_in _ (by omega)
          have q5 : IntKind.u8.wrap (97 + (i : Int)) = 97 + (i : Int) := by simp [IntKind.wrap, IntKind.bits, IntKind.signed]; omega
          have q6 : IntKind.u8.wrap (97 + (r : Int)) = 97 + (r : Int) := by simp [IntKind.wrap, IntKind.bits, IntKind.signed]; omega
          have n1 : (97 + (i : Int)) = nv (UInt8.ofNat (97 + i)) := by simp [nv]; omega
          have n2 : (97 + (r : Int)) = nv (UInt8.ofNat (97 + r)) := by simp [nv]; omega
          have hN : (⟨#[45, 45, 114, 105, 110, 103]⟩ : ByteArray) ++ bs [UInt8.ofNat (97 + i)] = bs (ringN i) := ByteArray.mk_append_mk [45, 45, 114, 105, 110, 103] [UInt8.ofNat (97 + i)]
          have hU1 : (⟨#[120, 32, 118, 97, 114, 40, 45, 45, 121, 44, 32, 118, 97, 114, 40, 45, 45, 114, 105, 110, 103]⟩ : ByteArray) ++ bs [UInt8.ofNat (97 + r)] = bs ([120, 32, 118, 97, 114, 40, 45, 45, 121, 44, 32, 118, 97, 114, 40, 45, 45, 114, 105, 110, 103] ++ [UInt8.ofNat (97 + r)]) := ByteArray.mk_append_mk _ [UInt8.ofNat (97 + r)]
          have hU2 : bs ([120, 32, 118, 97, 114, 40, 45, 45, 121, 44, 32, 118, 97, 114, 40, 45, 45, 114, 105, 110, 103] ++ [UInt8.ofNat (97 + r)]) ++ (⟨#[41, 41]⟩ : ByteArray) = bs (ringV r) := ByteArray.mk_append_mk ([120, 32, 118, 97, 114, 40, 45, 45, 121, 44, 32, 118, 97, 114, 40, 45, 45, 114, 105, 110, 103] ++ [UInt8.ofNat (97 + r)]) [41, 41]
          have hU : (⟨#[120, 32, 118, 97, 114, 40, 45, 45, 121, 44, 32, 118, 97, 114, 40, 45, 45, 114, 105, 110, 103]⟩ : ByteArray) ++ bs [UInt8.ofNat (97 + r)] ++ (⟨#[41, 41]⟩ : ByteArray) = bs (ringV r) := by rw [hU1, hU2]
          clear hU1 hU2
          have HTk2 := Lib.hid (ringS_take hlk)
          have HL2 := Lib.hid (show L ++ [(ringN i, ringV r)] = T ++ (ringS k).take (i + 1) by rw [HTk2.out, hr, HL.out, List.append_assoc])
          have z1 : (bs [UInt8.ofNat (97 + i)]).size = 1 := rfl
          have z2 : (bs [UInt8.ofNat (97 + r)]).size = 1 := rfl
          generalize UInt8.ofNat (97 + i) = ca at *
          generalize UInt8.ofNat (97 + r) = cb at *
          generalize ringN i = rn at *
          generalize ringV r = rv at *
          have hcv1 := conv_one (W := wr.alloc (.cells #[.int .u8 (97 + (i : Int))] 5)) (b := wr.heap.size) n1 ((Blk.new rfl).cell 0)
          have hcv2 := conv_one (W := (wr.alloc (.cells #[.int .u8 (97 + (i : Int))] 5)).alloc (.cells #[.int .u8 (97 + (r : Int))] 5)) (b := wr.heap.size + 1) n2 (by
            have h := (Blk.new (w := wr.alloc (.cells #[.int .u8 (97 + (i : Int))] 5)) (t := 5) (cs := #[.int .u8 (97 + (r : Int))]) rfl).cell 0
            rw [World.size_alloc] at h
            exact h)
          have HRow6 := Lib.hid ((HRow.out.alloc (.cells #[.int .u8 (97 + (i : Int))] 5)).alloc (.cells #[.int .u8 (97 + (r : Int))] 5))
          have HBl6 := Lib.hid ((HBl5.out.alloc HBl5.out.size (.cells #[.int .u8 (97 + (i : Int))] 5)).alloc (Nat.le_trans HBl5.out.size (by simp)) (.cells #[.int .u8 (97 + (r : Int))] 5))
          clear n1 n2 hr
          go_wp2_with (at_builtin; refine wpList_append_own_at _ rfl _ _ 27 rfl WO.heap.size 26 i0 (.agg #[.string .empty, .string .empty]) 2 32 Tryd.underlying27 Hi.out Hz0.out Hz1.out Hz2.out rfl (by decide) _ _ _ rfl (HRow6.out.alloc _) ⟨wr.heap.size + 1 + 1, 0, none⟩ 1 1 [.string (bs rn), .string (bs rv)] rfl rfl ?c1 ?c2 ?c3 ?c4 ?c5 ?_)
          case c1 =>
            have h := (Blk.new (w := (wr.alloc (.cells #[.int .u8 (97 + (i : Int))] 5)).alloc (.cells #[.int .u8 (97 + (r : Int))] 5)) (t := 26) (cs := #[.string (bs rn), .string (bs rv)]) rfl).news
            rw [World.size_alloc, World.size_alloc] at h
            exact h
          case c2 => simp [Value.oneCell']
          case c3 => unfold maxLen; omega
          case c4 => omega
          case c5 => have := HBl6.out.size; simp at this ⊢; omega
          intro v' w6 hown6 hgrow6 hnil6 hblk6
          have HB6 := Lib.hid (below_app (HBl6.out.alloc HBl6.out.size (.cells #[.string (bs rn), .string (bs rv)] 26)) hgrow6 (HRow6.out.alloc _) (Nat.le_refl _) (by have := HBl6.out.size; simp at this ⊢; omega))
          obtain ⟨g6, cap6, rfl⟩ := row_form hown6
          rw [show flatR vc L ++ [Value.string (bs rn), Value.string (bs rv)] = flatR vc (L ++ [(rn, rv)]) from flat_snoc L (rn, rv)] at hown6
          replace hown6 := Lib.hid hown6
          clear hgrow6 hnil6 hblk6 hcv1 hcv2
          go_wp2
          go_roundw
          case rel => exact ⟨i + 1, L ++ [(rn, rv)], by omega, by go_num, HL2.out, by simpa using hown6.out, HB6.out⟩
          case measure => simp [intOf]; omega
        · have hlk' : (k : Int) < (i : Int) := by omega
          obtain rfl : L = TR := by rw [HL.out, ← HTR.out, List.take_of_length_le (by rw [ringS_len]; omega)]
          have cA := Lib.hid (cR1.out AL cL wr HBw5.out (row_vr HRow.out))
          have hab := HV.out
          clear HL HRow HV
          subst hab
          have hlen9 : b.length ≤ 1000000 := by omega
          go_wp2_with (first
            | (go_at_call 10; first
              | ((with_reducible refine (cA.out).mono ?_); rintro e W2 ⟨⟨A2, c2, rfl, hc2, hr2⟩, hb2⟩; have HR2 := Lib.hid hr2; have HB2 := Lib.hid (HBw5.out.trans (hb2.mono HBw5.out.size)); have cB := Lib.hid (cR2.out W2 HB2.out (HTk.out.keep HB2.out HB2.out.size)); clear hb2 hr2)
              | ((with_reducible refine (cB.out).mono ?_); rintro e W3 ⟨⟨A3, c3, rfl, hc3, hr3⟩, hb3⟩; have HB3 := Lib.hid (HB2.out.trans (hb3.mono HB2.out.size)); have cS := Lib.hid (same_ct2 A2 A3 c2 c3 _ hlen9 W3 (HR2.out.keep hb3 hb3.size) hr3); clear hb3 hr3))
            | (go_at_call 11; (with_reducible refine (cS.out).mono ?_); rintro e W4 ⟨rfl, hb4⟩; have HB4' := Lib.hid (HB3.out.trans (hb4.mono HB3.out.size)); clear hb4))
          go_ret
          exact ⟨rfl, HB4'.out⟩

end Go.Proofs.YtmjbaimccbkmpaaDoor.vrs
