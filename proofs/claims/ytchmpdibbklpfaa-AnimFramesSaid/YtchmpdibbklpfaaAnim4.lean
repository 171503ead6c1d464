/- The plain data of a change, its frames, and what the program computes of them. No walk. -/
import Derived.Test.YtchmpdibbklpfaaAnimMix
namespace Go.Proofs.Ytchmpdibbklpfaa.anim
open Go.RowKit Go.Proofs.Ytchmpdibbklpfaa.base
set_option linter.unusedVariables false

structure FrameD where
  pl : Int
  k : Int
  n : Int

/-- a change: its numbers; its frames' slice, and what they are -/
structure AnimD where
  from_ : Int
  len : Int
  times : Int
  turn : Bool
  stays : Bool
  kind : Int
  c0 : Int
  c1 : Int
  c2 : Int
  c3 : Int
  n : Int
  fA : Option Addr
  fl : Nat
  fc : Nat
  F : List FrameD

abbrev AnimD.cells (d : AnimD) : Array Value := #[.int .i64 d.from_, .int .i64 d.len, .int .i64 d.times, .bool d.turn, .bool d.stays, .int .i64 d.kind, .int .i64 d.c0, .int .i64 d.c1, .int .i64 d.c2, .int .i64 d.c3, .int .i64 d.n, .slice d.fA d.fl d.fc]
abbrev AnimD.val (d : AnimD) : Value := .agg d.cells

/-- the frames lie where the slice says, below block B -/
def FrRd (w : World) (B : Nat) (A : Option Addr) (fl : Nat) (F : List FrameD) : Prop :=
  F.length = fl ∧ (0 < fl → ∃ b off, A = some ⟨b, off, none⟩ ∧ b < B ∧ ∀ (i : Nat) (f : FrameD), F[i]? = some f →
    w.cell? ⟨b, off + i * 3, none⟩ = some (.int .i64 f.pl) ∧ w.cell? ⟨b, off + i * 3 + 1, none⟩ = some (.int .i64 f.k) ∧ w.cell? ⟨b, off + i * 3 + 2, none⟩ = some (.int .i64 f.n))

def AnRd (w : World) (B : Nat) (d : AnimD) : Prop := d.fl ≤ d.fc ∧ d.fc ≤ maxLen ∧ FrRd w B d.fA d.fl d.F

theorem FrRd.keep {w w' : World} {B B' : Nat} {A : Option Addr} {fl : Nat} {F : List FrameD} (h : FrRd w B A fl F) (hb : Below B w w') (hB : B ≤ B') : FrRd w' B' A fl F := by
  refine ⟨h.1, fun h0 => ?_⟩
  obtain ⟨b, off, hA, hlt, hc⟩ := h.2 h0
  refine ⟨b, off, hA, by omega, fun i f hf => ?_⟩
  obtain ⟨h1, h2, h3⟩ := hc i f hf
  exact ⟨(hb.cell (p := ⟨b, _, none⟩) hlt).trans h1, (hb.cell (p := ⟨b, _, none⟩) hlt).trans h2, (hb.cell (p := ⟨b, _, none⟩) hlt).trans h3⟩
theorem AnRd.keep {w w' : World} {B B' : Nat} {d : AnimD} (h : AnRd w B d) (hb : Below B w w') (hB : B ≤ B') : AnRd w' B' d := ⟨h.1, h.2.1, h.2.2.keep hb hB⟩

/-- ever later -/
def rising : Int → List FrameD → Bool
  | _, [] => true
  | p, f :: r => decide (p < f.pl) && rising f.pl r

def checkE (d : AnimD) : Int :=
  if !(inB d.from_ 0 100000000 && inB d.len 1 100000000 && inB d.times 1 1000) then 1
  else if !easingB d.kind d.c0 d.c1 d.c2 d.c3 d.n then 3
  else if 10 < d.fl then 2
  else match d.F with
    | [] => 3
    | f :: r => if d.fl < 2 ∨ f.pl ≠ 0 ∨ (r.getLastD f).pl ≠ 1000 then 3 else if rising f.pl r then 0 else 3

def endI (d : AnimD) : Int := d.from_ + d.times * d.len

/-- the frame at which one is, and the next one -/
def upTo (r : Int) : FrameD → List FrameD → FrameD × Option FrameD
  | f, [] => (f, none)
  | f, g :: l => if g.pl ≤ r then upTo r g l else (f, some g)

def framesP (d : AnimD) (r : Int) : Int × Int :=
  match d.F with
  | [] => (0, 0)
  | f :: l => match upTo r f l with
    | (f, none) => (f.k, f.n)
    | (f, some g) =>
      let t := easedI d.kind d.c0 d.c1 d.c2 d.c3 d.n ((r - f.pl) * 1000 / (g.pl - f.pl))
      (mixK f.k g.k t, mixN f.k f.n g.k g.n t)

def placeI (d : AnimD) (now : Int) : Int :=
  let since := now - d.from_
  let r := since % d.len * 1000 / d.len
  if d.turn && since / d.len % 2 == 1 then 1000 - r else r

/-- what a right change does -/
def tellsP (d : AnimD) (now : Int) : (Int × Int) × Bool :=
  if now < d.from_ then ((0, 0), false)
  else if endI d ≤ now then
    match d.F with
    | [] => ((0, 0), d.stays)
    | f :: l => if d.turn && d.times % 2 == 0 then ((f.k, f.n), d.stays) else (((l.getLastD f).k, (l.getLastD f).n), d.stays)
  else (framesP d (placeI d now), true)

def rightE (L : List AnimD) (now : Int) : Int :=
  if 10 < L.length then 2 else (L.find? fun d => checkE d != 0).elim (if inB now 0 200000000000 then 0 else 1) checkE

def stepP (now : Int) (base : Int × Int) (d : AnimD) : Int × Int := if (tellsP d now).2 then (tellsP d now).1 else base
def atV (L : List AnimD) (base : Int × Int) (now : Int) : Int × Int := if rightE L now = 0 then L.foldl (stepP now) base else (0, 0)

end Go.Proofs.Ytchmpdibbklpfaa.anim
