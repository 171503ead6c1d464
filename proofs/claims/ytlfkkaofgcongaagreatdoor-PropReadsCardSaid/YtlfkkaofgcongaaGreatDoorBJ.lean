/- Contracts and plain law, a bundle. -/
import Derived.HandedShaped
import Derived.Shelf.Vars
import Derived.Lay
import Derived.LaidOnce
import Derived.SevenTiedAt
import Derived.Lib.LaidU8
import Derived.Lib.LaidTab
import Derived.Stop.LaidErr
import Derived.Lib.Hide
import Derived.Test.YtlfkkaofgcongaaGreatDoorBA
import Derived.Test.YtlfkkaofgcongaaGreatDoorRows
import Derived.Test.YtlfkkaofgcongaaGreatDoorBH
import Derived.Test.YtlfkkaofgcongaaGreatDoorD2
set_option linter.unusedVariables false
set_option maxRecDepth 100000
set_option maxHeartbeats 16000000
open Go.Lib (hid)
namespace Go.Proofs.YtlfkkaofgcongaaGreatDoor
namespace base
open Go.RowKit Go.ChangeShapes Go.WideShapes Go.ChangeAt
theorem ownD : ownKnob Tryz.prog.godebug = none := by kernel_rfl
theorem laidOutD : laidOutB Tryz.prog = true := by kernel_rfl
theorem maxLen_of {W : World} (h : W.ShapedOpen Tryz.prog) : ∃ m, W.cell? ⟨0, 0, none⟩ = some (.int .i64 m) :=
 cell_of_shapedOpen_int (zero := #[.int .i64 0]) (t := 3) h (of_decide_eq_true (by kernel_rfl)) (by kernel_rfl) rfl (by kernel_rfl) (by kernel_rfl) Tryz.underlying3
section
variable {H : Type} {enc : TypeId × Value -> H}
theorem returns_door {a : Assume} {C : Checked} {os : Os} {f : FuncId} {fn : Func} {s : ChangeSpec} {conds : List PathCond} {apart fresh handsOn again : Bool} {X : World -> Array Value -> Prop}
  (hX : ∀ (w w' : World) (args : Array Value), w.heap = w'.heap -> X w args -> X w' args)
  (own : ownKnob C.prog.godebug = none) (started : os.Started) (noInit : C.prog.inits.idxOf? f = none) (hfn : C.prog.funcs[f]? = some fn)
  (witness : ∃ (w : World) (tape : Tape) (i : Input), w.os = os /\ (w.forCall tape i).Shaped C.prog /\ i.vars = [] /\ Input.okWide C.prog (w.forCall tape i) .any w.heap.size f i /\
   ((s.pre enc C.prog fn conds apart (w.forCall tape i).memory i.args /\ X (w.forCall tape i).memory i.args) /\ sizedMet enc C.prog fn (OpenSpec.ofChange s) apart (w.forCall tape i).memory i.args) /\ a.holds C.prog (lone (Frame.enter C.prog f i.args .normal) [] (w.forCall tape i)))
  (contract : ∀ (W : World) (base : Nat) (args : Array Value) (ds gs : List (DataW H)) (before : List MemPlace),
   (∀ (j : Nat) t v, fn.params[j]? = some t -> args[j]? = some v -> Value.okWide C.prog W .any base t v) ->
   DataW.Whole enc C.prog fn.params.toList s.vars apart W args.toList ds gs before ->
   (DataW.weightsEach C.prog (fn.params.toList ++ s.plain.varTypes C.prog) (ds ++ gs)).all (· <= reachBytes) = true -> X W args ->
   W.ShapedOpen C.prog ->
   Calls C.prog f args W fun e W' => ∃ v, e = .returned v /\ s.post enc C.prog fn apart fresh handsOn again W args v W') :
  ReturnsInHanded a C os f .any (fun w args => (s.pre enc C.prog fn conds apart w args /\ X w args) /\ sizedMet enc C.prog fn (OpenSpec.ofChange s) apart w args) (s.post enc C.prog fn apart fresh handsOn again) := by
 refine returnsInHanded_of_calls own started noInit witness ?_
 intro w tape i _ hsh _ hok hpre hholds
 obtain ⟨_, _, _, fn', hfn', _, _, _, _, hval⟩ := hok
 have e : fn' = fn := Option.some.inj (hfn'.symm.trans hfn)
 subst e
 obtain ⟨⟨⟨ds, gs, before, hw, hc⟩, hx⟩, hz⟩ := hpre
 have hw' := DataW.Whole.of_heap (w' := w.forCall tape i) (by rfl) hw
 refine (contract (w.forCall tape i) w.heap.size i.args ds gs before hval hw' (hz.weights hw) (hX _ _ _ (by rfl) hx) hsh).mono fun e W' ⟨v, he, hp⟩ => ?_
 subst he
 exact ChangeSpec.post_blind hp
end
end base
namespace base
open Go.RowKit Go.ChangeShapes Go.WideShapes Go.ChangeAt
theorem tab_of_reads {P : Program} {w : World} {name : String} {g : Nat} {t e : TypeId} {n : Nat} {k : IntKind} {zs : List Int} (hn : P.globalNamed name = some g) (hy : (P.globals[g]?).map (·.type) = some t)
  (ht : P.underlying t = some (.array n e)) (he : P.underlying e = some (.int k)) (hce : P.cellsOf e = 1) (hct : P.cellsOf t = n) (h : Lib.VarReads P w name (Lib.tabData k zs)) : Lib.TabIs P w name k zs := by
 obtain ⟨g', t', cs, fuel, p, hg, hty, hvar, hd⟩ := h
 obtain rfl := Option.some.inj (hn.symm.trans hg)
 obtain rfl := Option.some.inj (hy.symm.trans hty)
 unfold Lib.TabIs
 rw [hvar, <- Lib.cells_of_tab ht he hce hct hd]
end base
namespace base
open Go.RowKit Go.ChangeShapes Go.WideShapes Go.ChangeAt
end base
namespace dim
open Go.RowKit base Go.ChangeShapes Go.WideShapes Go.ChangeAt
theorem pow_of {w : World} {l : List (String × DataW Unit)} (h : laidMet Tryz.prog l w) (hm : ("internal/strconv.uint64pow10", Rows.laid_internal_strconv_uint64pow10) ∈ l) : PowAt w := by
 have ht := tab_of_reads (P := Tryz.prog) (g := 2) (k := .u64) (zs := Lib.pow10Tab) (by kernel_rfl) (by kernel_rfl) Tryz.underlying176 Tryz.underlying95 (by kernel_rfl) (by kernel_rfl) (Lib.laidMet.reads h hm)
 refine ⟨?_, ht⟩
 have hc := ht.cell (g := 2) (by kernel_rfl) 0 (by decide)
 exact World.block_lt_of_cell? w _ hc
end dim
namespace dim
open Go.RowKit base tok Go.ChangeShapes Go.WideShapes Go.ChangeAt
section
variable {H : Type} {enc : TypeId × Value -> H} {w : World} {base : Nat} {spare : Nat -> Bool} {held : Bool}
theorem open_scale {r : Reach} {b0 : Nat} {v : Value} {d : DataW H} {p : List MemPlace} (hv : Value.okWide Tryz.prog w r b0 42 v) (h : DataW.Trod enc Tryz.prog w base spare held 42 v d p) :
  ∃ em rem vw vh : Int, v = .agg #[.int .i64 em, .int .i64 rem, .int .i64 vw, .int .i64 vh] := by
 obtain ⟨cs, rfl, hsz, hf⟩ := open_flat Tryz.underlying42 (by kernel_rfl) (by kernel_rfl) hv h
 obtain ⟨u0, y0, n0, g0, h0⟩ := hf 0 _ rfl
 obtain ⟨u1, y1, n1, g1, h1⟩ := hf 1 _ rfl
 obtain ⟨u2, y2, n2, g2, h2⟩ := hf 2 _ rfl
 obtain ⟨u3, y3, n3, g3, h3⟩ := hf 3 _ rfl
 obtain ⟨i0, e0, _, _⟩ := DataW.trod_int Tryz.underlying3 h0
 obtain ⟨i1, e1, _, _⟩ := DataW.trod_int Tryz.underlying3 h1
 obtain ⟨i2, e2, _, _⟩ := DataW.trod_int Tryz.underlying3 h2
 obtain ⟨i3, e3, _, _⟩ := DataW.trod_int Tryz.underlying3 h3
 simp only [List.cons.injEq, and_true] at e0 e1 e2 e3
 subst e0 e1 e2 e3
 obtain ⟨l⟩ := cs
 match l, hsz with
 | [a0, a1, a2, a3], _ =>
  simp at g0 g1 g2 g3
  subst g0 g1 g2 g3
  exact ⟨_, _, _, _, rfl⟩
end
theorem units_of {w : World} {l : List (String × DataW Unit)} (h : laidMet Tryz.prog l w) (hm : ("clerestory/dim.units", Rows.laid_clerestory_dim_units) ∈ l) : UnitsAt w := by
 obtain ⟨R, o, cap, hc, hs⟩ := strs_of_reads (P := Tryz.prog) (g := 1) (L := unitsL) (by kernel_rfl) (by kernel_rfl) Tryz.underlying23 Tryz.underlying9 (by kernel_rfl) (by decide) (Lib.laidMet.reads h hm)
 exact ⟨World.block_lt_of_cell? w _ hc, R, o, cap, hc, hs⟩
end dim
namespace cal
open Go.RowKit base Go.ChangeShapes Go.WideShapes Go.ChangeAt
end cal
namespace col
open Go.RowKit base Go.ChangeShapes Go.WideShapes Go.ChangeAt
theorem bru_of {w : World} {l : List (String × DataW Unit)} (h : laidMet Tryz.prog l w) (hm : ("math/bits.deBruijn64tab", Rows.laid_math_bits_deBruijn64tab) ∈ l) : BruAt w := by
 have ht := tab_of_reads (P := Tryz.prog) (g := 8) (k := .u8) (zs := bruTab) (by kernel_rfl) (by kernel_rfl) Tryz.underlying201 Tryz.underlying5 (by kernel_rfl) (by kernel_rfl) (Lib.laidMet.reads h hm)
 refine ⟨?_, ht⟩
 have hc := ht.cell (g := 8) (by kernel_rfl) 0 (by decide)
 exact World.block_lt_of_cell? w _ hc
end col
namespace sel
open Go.RowKit base tok Go.ChangeShapes Go.WideShapes Go.ChangeAt
theorem star_err : "*" ++ "errors.errorString" = "*errors.errorString" := by decide
theorem row_err (u : TypeId) (h : Tryz.prog.typeName? 3 u = some "*errors.errorString") : u = 202 :=
 typeName_ptr_named (nm := "errors.errorString") (by rw [star_err]; kernel_rfl) (by kernel_rfl) (by decide) u (by rw [star_err]; exact h)
theorem err_of {n : String} {text : List UInt8} {g : Nat} {r : List (String × DataW Unit)} {w : World} (hg : Tryz.prog.globalNamed n = some g) (ht : (Tryz.prog.globals[g]?).map (·.type) = some 134)
  (h : laidMet Tryz.prog ((n, .iface "*errors.errorString" (.ptr (.agg [.lit (.string text)]))) :: r) w) : ∃ tp p, w.cell? ⟨g, 0, none⟩ = some (.iface tp p) := by
 obtain ⟨a0, s0, hv0, -, -, -⟩ := laid_sentinel h hg ht Tryz.underlying134 row_err Tryz.underlying202 Tryz.underlying204 rfl rfl Tryz.underlying9 (by kernel_rfl) (by kernel_rfl)
 exact ⟨_, _, by have h0 := World.var?_cell hg hv0 0; simpa using h0⟩
end sel
end Go.Proofs.YtlfkkaofgcongaaGreatDoor
