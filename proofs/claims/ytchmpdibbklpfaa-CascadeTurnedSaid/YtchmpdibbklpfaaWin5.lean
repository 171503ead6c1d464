/- Slices that Win hands back, as rows of declarations; how many have a name. -/
import Derived.Test.YtchmpdibbklpfaaWin4
import Derived.Test.YtchmpdibbklpfaaCasTotal
import Derived.Laws.StructEq
namespace Go.Proofs.Ytchmpdibbklpfaa.win
open Go.RowKit Go.Proofs.Ytchmpdibbklpfaa.base Go.Proofs.Ytchmpdibbklpfaa.cas
set_option linter.unusedVariables false

theorem row_grd {w : World} {base : Nat} {v : Value} {acc : List GD} (h : w.ownsRow base 23 6 v acc.length (rows acc)) : ∃ A cap, v = .slice A acc.length cap ∧ acc.length ≤ cap ∧ GRd w w.heap.size A acc.length acc := by
  rcases Nat.eq_zero_or_pos acc.length with h0 | h0
  · rcases h.2 with ⟨rfl, hz⟩ | ⟨g, cap, cur, rfl, _, _, hc, _⟩
    · exact ⟨none, 0, by rw [hz], by omega, rfl, fun h1 => by omega⟩
    · exact ⟨_, _, rfl, hc, rfl, fun h1 => by omega⟩
  · rcases h.2 with ⟨rfl, hz⟩ | ⟨g, cap, cur, rfl, _, _, hc, _⟩
    · omega
    · have hg := h.lt g rfl
      refine ⟨_, _, rfl, hc, rfl, fun _ => ⟨g, 0, rfl, hg.2, fun i d hd j hj => ?_⟩⟩
      rw [Nat.zero_add]
      have hil := (List.getElem?_eq_some_iff.1 hd).1
      have := (h.cellAt (i * 6 + j) (by omega)).trans (rows_at hd j hj)
      rw [this]

theorem row_grdn {w : World} {base n : Nat} {v : Value} {acc : List GD} (hn : acc.length = n) (h : w.ownsRow base 23 6 v n (rows acc)) : ∃ A cap, v = .slice A n cap ∧ n ≤ cap ∧ GRd w w.heap.size A n acc := by
  subst hn
  exact row_grd h

theorem win_row (A : Option Addr) (n cap : Nat) (L : List GD) (w : World) (hn : n ≤ 20) (hL : GRd w w.heap.size A n L) (hN : Named L) :
    Calls Try.prog 16 #[.slice A n cap] w fun e w' => (∃ A' cap', e = .returned (.slice A' (winP L).length cap') ∧ GRd w' w'.heap.size A' (winP L).length (winP L)) ∧ Below w.heap.size w w' :=
  (win_ct A n cap L w hn hL hN).mono fun e w' ⟨⟨v, he, hr⟩, hb⟩ => by
    obtain ⟨A', c', rfl, _, hg⟩ := row_grd hr
    exact ⟨⟨A', c', he, hg⟩, hb⟩

/-- how many of the first bear a name -/
def cnt (nm : ByteArray) (acc : List GD) : Nat := acc.countP fun e => decide (e.nm = nm)

theorem cnt_step {nm : ByteArray} {acc : List GD} {k : Nat} {e : GD} (h : acc[k]? = some e) : cnt nm (acc.take (k + 1)) = cnt nm (acc.take k) + if e.nm = nm then 1 else 0 := by
  obtain ⟨hl, he⟩ := List.getElem?_eq_some_iff.1 h
  unfold cnt
  rw [List.take_succ_eq_append_getElem hl, List.countP_append, he]
  by_cases hn : e.nm = nm <;> simp [hn]

theorem cnt_le (nm : ByteArray) (acc : List GD) : cnt nm acc ≤ acc.length := List.countP_le_length

theorem cnt_one {L acc : List GD} (h : Won L acc) {d : GD} (hd : d ∈ L) : cnt d.nm acc = 1 := by
  obtain ⟨e, he, hn, _⟩ := h.has d hd
  have hp : acc.Pairwise fun a b => a.nm ≠ b.nm := by
    rw [List.pairwise_iff_getElem]
    intro i j hi hj hij hab
    have := h.one i j _ _ (List.getElem?_eq_getElem hi) (List.getElem?_eq_getElem hj) hab
    omega
  have hf : (acc.filter fun e => decide (e.nm = d.nm)).Pairwise fun a b => a.nm ≠ b.nm := hp.filter _
  have hm : e ∈ acc.filter fun e => decide (e.nm = d.nm) := List.mem_filter.2 ⟨he, by simpa using hn⟩
  unfold cnt
  rw [List.countP_eq_length_filter]
  match hF : acc.filter (fun e => decide (e.nm = d.nm)), hf with
  | [], _ => rw [hF] at hm; cases hm
  | [x], _ => rw [hF]; rfl
  | x :: y :: r, hf =>
    exfalso
    have hx : x ∈ acc.filter fun e => decide (e.nm = d.nm) := by rw [hF]; simp
    have hy : y ∈ acc.filter fun e => decide (e.nm = d.nm) := by rw [hF]; simp
    have h1 := (List.mem_filter.1 hx).2
    have h2 := (List.mem_filter.1 hy).2
    simp at h1 h2
    rw [hF] at hf
    exact (List.pairwise_cons.1 hf).1 y (by simp) (by rw [h1, h2])

/-- a winner of that name is not below it -/
theorem not_below {L acc : List GD} (h : Won L acc) {d e : GD} (hd : d ∈ L) (he : e ∈ acc) (hn : e.nm = d.nm) : decide (cmpG e.o e.i e.w e.p d.o d.i d.w d.p < 0) = false := by
  obtain ⟨e', he', hn', hc⟩ := h.has d hd
  obtain rfl := h.uniq he he' (by rw [hn, hn'])
  simpa [GD.cmp] using hc

theorem name_beq (a b : ByteArray) : (a.toList == b.toList) = decide (a = b) := by
  rw [ByteArray.toList_eq, ByteArray.toList_eq]
  by_cases h : a = b
  · subst h; simp
  · have : ¬ a.data.toList = b.data.toList := fun e => h (ByteArray.ext (Array.toList_inj.1 e))
    rw [beq_eq_false_iff_ne.2 this, decide_eq_false h]
/-- == on two of them -/
theorem run_eq_given (d e : GD) (w : World) : (binOp .eql 23 (.agg #[.string d.nm, .string d.vl, .int .i64 d.o, .bool d.i, .int .i64 d.w, .int .i64 d.p]) (.agg #[.string e.nm, .string e.vl, .int .i64 e.o, .bool e.i, .int .i64 e.w, .int .i64 e.p])).run Try.prog w = .ok (.bool (decide (d = e))) w := by
  rw [run_eql_struct, run_equalIn_agg w _ _ _ _ (by kernel_rfl) (by kernel_rfl)]
  simp only [Program.fieldsOf, Try.underlying23]
  obtain ⟨n1, v1, o1, i1, w1, p1⟩ := d
  obtain ⟨n2, v2, o2, i2, w2, p2⟩ := e
  simp [Op.eqFields, go_sem, Try.underlying9, Try.underlying3, Try.underlying4, name_beq]
  (repeat' split) <;> simp_all

end Go.Proofs.Ytchmpdibbklpfaa.win
