/-
Functions without a body.
-/
import Derived.Test.YtpfeehmblhcejaaFwDTree
import Derived.Lib.Bytealg
namespace Go.D
open Go.RowKit

variable {P : Program} {fm : Nat → Option FuncId} {T : Tab}

theorem relsA_one {G : Gh} {a : DV} {args : Array Value} (h : RelsA fm G [a] args) : ∃ x, args = #[x] ∧ Rel fm G a x := by
  obtain ⟨h1, h2⟩ := h
  match args, h1 with
  | ⟨[x]⟩, _ => exact ⟨x, rfl, h2 0 (by simp)⟩

theorem relsA_two {G : Gh} {a b : DV} {args : Array Value} (h : RelsA fm G [a, b] args) : ∃ x y, args = #[x, y] ∧ Rel fm G a x ∧ Rel fm G b y := by
  obtain ⟨h1, h2⟩ := h
  match args, h1 with
  | ⟨[x, y]⟩, _ => exact ⟨x, y, rfl, h2 0 (by simp), h2 1 (by simp)⟩

/-- A function that the model runs itself and that leaves the world as it is. -/
theorem prim_extern {p : List DV → St → Option (DV × St)} {f : FuncId} {fn : Func} {e : Array Value → Sem Value} (hf : P.funcs[f]? = some fn) (hname : (fn.name == "runtime.NumGoroutine") = false) (hb : fn.body.isNone = true) (hn : Extern.findNext fn = none)
    (he : Extern.find fn = some e) (h : ∀ (G : Gh) (w : World) (st : St) (args : List DV) (args' : Array Value) (v : DV) (st' : St), RelsA fm G args args' → p args st = some (v, st') → st' = st ∧ ∃ x, (e args').run P w = .ok x w ∧ Rel fm G v x) : PrimSim P fm T p f := by
  intro G w0 st w args args' v st' hs ha hp
  obtain ⟨rfl, x, h1, h2⟩ := h G w st args args' v st' ha hp
  refine .inr ⟨x, w, ?_, G, Gh.le.refl G, hs, h2⟩
  rw [run_callFunc_extern hf hname hb hn he, h1]
  rfl

def indexByteD : List DV → St → Option (DV × St)
  | [.str s, .int .u8 c], st => some (.int .i64 (Lib.indexByte s c.toNat.toUInt8), st)
  | _, _ => none

theorem prim_indexByte {f : FuncId} {fn : Func} (hf : P.funcs[f]? = some fn) (hname : (fn.name == "runtime.NumGoroutine") = false) (hb : fn.body.isNone = true) (hn : Extern.findNext fn = none)
    (he : Extern.find fn = some Extern.BytealgIndexByte.indexByte) : PrimSim P fm T indexByteD f := by
  refine prim_extern hf hname hb hn he fun G w st args args' v st' ha hp => ?_
  unfold indexByteD at hp
  split at hp
  · simp only [Option.some.injEq, Prod.mk.injEq] at hp
    obtain ⟨rfl, rfl⟩ := hp
    obtain ⟨x, y, rfl, hx, hy⟩ := relsA_two ha
    cases hy
    cases hx with
    | str _ b hb => subst hb; exact ⟨rfl, _, Lib.run_indexByteString b _ w, .int _ _⟩
  · cases hp

def countByteD : List DV → St → Option (DV × St)
  | [.str s, .int .u8 c], st => some (.int .i64 (Lib.countByte s c.toNat.toUInt8 : Nat), st)
  | _, _ => none

theorem prim_countByte {f : FuncId} {fn : Func} (hf : P.funcs[f]? = some fn) (hname : (fn.name == "runtime.NumGoroutine") = false) (hb : fn.body.isNone = true) (hn : Extern.findNext fn = none)
    (he : Extern.find fn = some Extern.BytealgCount.count) : PrimSim P fm T countByteD f := by
  refine prim_extern hf hname hb hn he fun G w st args args' v st' ha hp => ?_
  unfold countByteD at hp
  split at hp
  · simp only [Option.some.injEq, Prod.mk.injEq] at hp
    obtain ⟨rfl, rfl⟩ := hp
    obtain ⟨x, y, rfl, hx, hy⟩ := relsA_two ha
    cases hy
    cases hx with
    | str _ b hb => subst hb; exact ⟨rfl, _, Lib.run_countString b _ w, .int _ _⟩
  · cases hp

end Go.D
