/-
Functions without a body.
-/
import Derived.Test.YtdhpdhagnbdhoaaGreatDoorFwDTree
import Derived.Lib.Bytealg
namespace Go.D
open Go.RowKit

variable {P : Program} {fm : FM} {T : Tab}

theorem relsA_one {G : Gh} {a : DV} {args : Array Value} (h : RelsA fm G [a] args) : ∃ x, args = #[x] ∧ Rel fm G a x := by
  obtain ⟨h1, h2⟩ := h
  match args, h1 with
  | ⟨[x]⟩, _ => exact ⟨x, rfl, h2 0 (by simp)⟩

theorem relsA_two {G : Gh} {a b : DV} {args : Array Value} (h : RelsA fm G [a, b] args) : ∃ x y, args = #[x, y] ∧ Rel fm G a x ∧ Rel fm G b y := by
  obtain ⟨h1, h2⟩ := h
  match args, h1 with
  | ⟨[x, y]⟩, _ => exact ⟨x, y, rfl, h2 0 (by simp), h2 1 (by simp)⟩

/-- A function that the model runs itself and that leaves the world as it is. -/
theorem prim_extern {p : List DV → St → Option (DV × St)} {f : FuncId} {fn : Func} {e : Array Value → Sem Value} (hf : P.funcs[f]? = some fn) (hname : (fn.name == "runtime.NumGoroutine") = false) (hb : fn.body.isNone = true) (hn : Extern.findNext fn = none)
    (he : Extern.find fn = some e) (h : ∀ (G : Gh) (w : World) (st : St) (args : List DV) (args' : Array Value) (v : DV) (st' : St), RelsA fm G args args' → p args st = some (v, st') → st' = st ∧ ∃ x, (e args').run P w = .ok x w ∧ Rel fm G v x) : PrimSim P fm T p f := by
  intro G w0 st w args args' v st' hs ha hp
  obtain ⟨rfl, x, h1, h2⟩ := h G w st args args' v st' ha hp
  refine .inr ⟨x, w, ?_, G, Gh.le.refl G, hs, h2⟩
  rw [run_callFunc_extern hf hname hb hn he, h1]
  rfl

def indexByteD : List DV → St → Option (DV × St)
  | [.str s, .int .u8 c], st => some (.int .i64 (Lib.indexByte s c.toNat.toUInt8), st)
  | _, _ => none

theorem prim_indexByte {f : FuncId} {fn : Func} (hf : P.funcs[f]? = some fn) (hname : (fn.name == "runtime.NumGoroutine") = false) (hb : fn.body.isNone = true) (hn : Extern.findNext fn = none)
    (he : Extern.find fn = some Extern.BytealgIndexByte.indexByte) : PrimSim P fm T indexByteD f := by
  refine prim_extern hf hname hb hn he fun G w st args args' v st' ha hp => ?_
  unfold indexByteD at hp
  split at hp
  · simp only [Option.some.injEq, Prod.mk.injEq] at hp
    obtain ⟨rfl, rfl⟩ := hp
    obtain ⟨x, y, rfl, hx, hy⟩ := relsA_two ha
    cases hy
    cases hx with
    | str _ b hb => subst hb; exact ⟨rfl, _, Lib.run_indexByteString b _ w, .int _ _⟩
  · cases hp

def countByteD : List DV → St → Option (DV × St)
  | [.str s, .int .u8 c], st => some (.int .i64 (Lib.countByte s c.toNat.toUInt8 : Nat), st)
  | _, _ => none

theorem prim_countByte {f : FuncId} {fn : Func} (hf : P.funcs[f]? = some fn) (hname : (fn.name == "runtime.NumGoroutine") = false) (hb : fn.body.isNone = true) (hn : Extern.findNext fn = none)
    (he : Extern.find fn = some Extern.BytealgCount.count) : PrimSim P fm T countByteD f := by
  refine prim_extern hf hname hb hn he fun G w st args args' v st' ha hp => ?_
  unfold countByteD at hp
  split at hp
  · simp only [Option.some.injEq, Prod.mk.injEq] at hp
    obtain ⟨rfl, rfl⟩ := hp
    obtain ⟨x, y, rfl, hx, hy⟩ := relsA_two ha
    cases hy
    cases hx with
    | str _ b hb => subst hb; exact ⟨rfl, _, Lib.run_countString b _ w, .int _ _⟩
  · cases hp

/-- The table of the ASCII characters that are spaces. -/
def asciiSpaceL : List Nat := [0, 0, 0, 0, 0, 0, 0, 0, 0, 1, 1, 1, 1, 1, 0, 0, 0, 0, 0, 0, 0, 0, 0, 0, 0, 0, 0, 0, 0, 0, 0, 0, 1, 0, 0, 0, 0, 0, 0, 0, 0, 0, 0, 0, 0, 0, 0, 0, 0, 0, 0, 0, 0, 0, 0, 0, 0, 0, 0, 0, 0, 0, 0, 0, 0, 0, 0, 0, 0, 0, 0, 0, 0, 0, 0, 0, 0, 0, 0, 0, 0, 0, 0, 0, 0, 0, 0, 0, 0, 0, 0, 0, 0, 0, 0, 0, 0, 0, 0, 0, 0, 0, 0, 0, 0, 0, 0, 0, 0, 0, 0, 0, 0, 0, 0, 0, 0, 0, 0, 0, 0, 0, 0, 0, 0, 0, 0, 0, 0, 0, 0, 0, 0, 0, 0, 0, 0, 0, 0, 0, 0, 0, 0, 0, 0, 0, 0, 0, 0, 0, 0, 0, 0, 0, 0, 0, 0, 0, 0, 0, 0, 0, 0, 0, 0, 0, 0, 0, 0, 0, 0, 0, 0, 0, 0, 0, 0, 0, 0, 0, 0, 0, 0, 0, 0, 0, 0, 0, 0, 0, 0, 0, 0, 0, 0, 0, 0, 0, 0, 0, 0, 0, 0, 0, 0, 0, 0, 0, 0, 0, 0, 0, 0, 0, 0, 0, 0, 0, 0, 0, 0, 0, 0, 0, 0, 0, 0, 0, 0, 0, 0, 0, 0, 0, 0, 0, 0, 0, 0, 0, 0, 0, 0, 0, 0, 0, 0, 0, 0, 0, 0, 0, 0, 0, 0, 0]
def asciiSpaceD : DV := .cptr (asciiSpaceL.map fun n => .int .u8 (Int.ofNat n))

theorem envIn_none {l : List (Nat × FuncId)} (w : World) : EnvIn (fmOf l []) w := fun r i v h => by cases h

theorem envIn_one {l : List (Nat × FuncId)} {g : Nat} {t : List Nat} {w : World} (h : ∀ i (h : i < t.length), w.cell? ⟨g, i, none⟩ = some (.int .u8 (Int.ofNat t[i]))) : EnvIn (fmOf l [(g, t)]) w := by
  intro r i v hv
  simp only [fmOf, envOf] at hv
  cases hb : Nat.beq r g with
  | false => rw [hb] at hv; simp at hv
  | true =>
    rw [hb] at hv
    simp only [cond_true, Option.map_eq_some_iff] at hv
    obtain ⟨n, hn, rfl⟩ := hv
    have := Nat.eq_of_beq_eq_true hb
    subst this
    obtain ⟨hi, rfl⟩ := List.getElem?_eq_some_iff.1 hn
    have hc := h i hi
    simp only [World.cell?] at hc
    split at hc
    · rename_i cs t' fz hcs
      exact ⟨get?_lt hcs, cs, t', fz, hcs, by simpa using hc⟩
    all_goals first | (cases hc; done) | skip

end Go.D
