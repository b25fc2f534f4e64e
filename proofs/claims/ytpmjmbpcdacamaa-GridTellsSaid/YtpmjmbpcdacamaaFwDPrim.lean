/-
Functions without a body.
-/
import Derived.Test.YtpmjmbpcdacamaaFwDTree
import Derived.Lib.MakeNoZero
import Derived.Lib.Bytealg
namespace Go.D
open Go.RowKit

variable {P : Program} {fm : FM} {T : Tab}

theorem relsA_one {G : Gh} {a : DV} {args : Array Value} (h : RelsA fm G [a] args) : ∃ x, args = #[x] ∧ Rel fm G a x := by
  obtain ⟨h1, h2⟩ := h
  match args, h1 with
  | ⟨[x]⟩, _ => exact ⟨x, rfl, h2 0 (by simp)⟩

theorem relsA_two {G : Gh} {a b : DV} {args : Array Value} (h : RelsA fm G [a, b] args) : ∃ x y, args = #[x, y] ∧ Rel fm G a x ∧ Rel fm G b y := by
  obtain ⟨h1, h2⟩ := h
  match args, h1 with
  | ⟨[x, y]⟩, _ => exact ⟨x, y, rfl, h2 0 (by simp), h2 1 (by simp)⟩

/-- A function that the model runs itself and that leaves the world as it is. -/
theorem prim_extern {p : List DV → St → Option (DV × St)} {f : FuncId} {fn : Func} {e : Array Value → Sem Value} (hf : P.funcs[f]? = some fn) (hname : (fn.name == "runtime.NumGoroutine") = false) (hb : fn.body.isNone = true) (hn : Extern.findNext fn = none)
    (he : Extern.find fn = some e) (h : ∀ (G : Gh) (w : World) (st : St) (args : List DV) (args' : Array Value) (v : DV) (st' : St), RelsA fm G args args' → p args st = some (v, st') → st' = st ∧ ∃ x, (e args').run P w = .ok x w ∧ Rel fm G v x) : PrimSim P fm T p f := by
  intro G w0 st w args args' v st' hs ha hp
  obtain ⟨rfl, x, h1, h2⟩ := h G w st args args' v st' ha hp
  refine .inr ⟨x, w, ?_, G, Gh.le.refl G, hs, h2⟩
  rw [run_callFunc_extern hf hname hb hn he, h1]
  rfl

def indexByteD : List DV → St → Option (DV × St)
  | [.str s, .int .u8 c], st => some (.int .i64 (Lib.indexByte s c.toNat.toUInt8), st)
  | _, _ => none

theorem prim_indexByte {f : FuncId} {fn : Func} (hf : P.funcs[f]? = some fn) (hname : (fn.name == "runtime.NumGoroutine") = false) (hb : fn.body.isNone = true) (hn : Extern.findNext fn = none)
    (he : Extern.find fn = some Extern.BytealgIndexByte.indexByte) : PrimSim P fm T indexByteD f := by
  refine prim_extern hf hname hb hn he fun G w st args args' v st' ha hp => ?_
  unfold indexByteD at hp
  split at hp
  · simp only [Option.some.injEq, Prod.mk.injEq] at hp
    obtain ⟨rfl, rfl⟩ := hp
    obtain ⟨x, y, rfl, hx, hy⟩ := relsA_two ha
    cases hy
    cases hx with
    | str _ b hb => subst hb; exact ⟨rfl, _, Lib.run_indexByteString b _ w, .int _ _⟩
  · cases hp

def countByteD : List DV → St → Option (DV × St)
  | [.str s, .int .u8 c], st => some (.int .i64 (Lib.countByte s c.toNat.toUInt8 : Nat), st)
  | _, _ => none

theorem prim_countByte {f : FuncId} {fn : Func} (hf : P.funcs[f]? = some fn) (hname : (fn.name == "runtime.NumGoroutine") = false) (hb : fn.body.isNone = true) (hn : Extern.findNext fn = none)
    (he : Extern.find fn = some Extern.BytealgCount.count) : PrimSim P fm T countByteD f := by
  refine prim_extern hf hname hb hn he fun G w st args args' v st' ha hp => ?_
  unfold countByteD at hp
  split at hp
  · simp only [Option.some.injEq, Prod.mk.injEq] at hp
    obtain ⟨rfl, rfl⟩ := hp
    obtain ⟨x, y, rfl, hx, hy⟩ := relsA_two ha
    cases hy
    cases hx with
    | str _ b hb => subst hb; exact ⟨rfl, _, Lib.run_countString b _ w, .int _ _⟩
  · cases hp

def noEscapeD : List DV → St → Option (DV × St)
  | [v], st => some (v, st)
  | _, _ => none

theorem prim_noEscape {f : FuncId} {fn : Func} (hf : P.funcs[f]? = some fn) (hname : (fn.name == "runtime.NumGoroutine") = false) (hb : fn.body.isNone = true) (hn : Extern.findNext fn = none)
    (he : Extern.find fn = some Extern.AbiNoEscape.same) : PrimSim P fm T noEscapeD f := by
  refine prim_extern hf hname hb hn he fun G w st args args' v st' ha hp => ?_
  unfold noEscapeD at hp
  split at hp
  · rename_i v0
    simp only [Option.some.injEq, Prod.mk.injEq] at hp
    obtain ⟨rfl, rfl⟩ := hp
    obtain ⟨h1, h2⟩ := ha
    have h3 := h2 0 (by simp)
    match args', h1 with
    | ⟨[x]⟩, _ => exact ⟨rfl, x, Lib.run_noEscape w x, h3⟩
  · cases hp

def makeNoZeroD (ty : Nat) : List DV → St → Option (DV × St)
  | [.int .i64 n], st => if 0 ≤ n ∧ n ≤ 140737488355328 then some (.hsl 1 false st.heap.length 0 n.toNat none, st.push (.cells (.frz ty) [])) else none
  | _, _ => none

theorem prim_makeNoZero {f : FuncId} {fn : Func} {ps : Array TypeId} {t e : TypeId} (hf : P.funcs[f]? = some fn) (hname : (fn.name == "runtime.NumGoroutine") = false) (hb : fn.body.isNone = true) (hn : Extern.findNext fn = none)
    (he : Extern.find fn = some (Extern.BytealgMakeNoZero.makeNoZero ps #[t])) (ht : P.underlying t = some (.slice e)) : PrimSim P fm T (makeNoZeroD e) f := by
  intro G w0 st w args args' v st' hs ha hp
  unfold makeNoZeroD at hp
  split at hp
  · rename_i n
    split at hp
    · rename_i hc
      simp only [Option.some.injEq, Prod.mk.injEq] at hp
      obtain ⟨rfl, rfl⟩ := hp
      obtain ⟨h1, h2⟩ := ha
      have h3 := h2 0 (by simp)
      match args', h1, h3 with
      | ⟨[x]⟩, _, h3 =>
        have h4 : Rel fm G (.int .i64 n) x := h3
        cases h4
        obtain ⟨cs, g1, g2, g3⟩ := Lib.run_makeNoZero (P := P) w ps t e ht n.toNat (by omega)
        have hcast : ((n.toNat : Nat) : Int) = n := by omega
        rw [hcast] at g1
        have hs2 := hs.drew.drew.push (o := .cells (.frz e) []) (ob := .cells cs e) cs.size ⟨cs, e, (0, 0), rfl, rfl, Nat.zero_le _, by simp [Gh.push], fun i hi => absurd hi (by simp), Nat.zero_le _, rfl⟩ rfl
        refine .inr ⟨_, _, ?_, _, Gh.le_push hs.drew.drew.muNone, hs2, .hsl _ _ _ _ _ _ _ cs.size (by simp [Gh.push]; rfl) ⟨g2, by simp [Gh.push]⟩⟩
        rw [run_callFunc_extern hf hname hb hn he]
        show Result.andThen ((Extern.BytealgMakeNoZero.makeNoZero ps #[t] #[.int .i64 n]).run P w) _ = _
        rw [g1]
        rfl
    · cases hp
  · cases hp

/-- The table of the ASCII characters that are spaces. -/
def asciiSpaceL : List Nat := [0, 0, 0, 0, 0, 0, 0, 0, 0, 1, 1, 1, 1, 1, 0, 0, 0, 0, 0, 0, 0, 0, 0, 0, 0, 0, 0, 0, 0, 0, 0, 0, 1, 0, 0, 0, 0, 0, 0, 0, 0, 0, 0, 0, 0, 0, 0, 0, 0, 0, 0, 0, 0, 0, 0, 0, 0, 0, 0, 0, 0, 0, 0, 0, 0, 0, 0, 0, 0, 0, 0, 0, 0, 0, 0, 0, 0, 0, 0, 0, 0, 0, 0, 0, 0, 0, 0, 0, 0, 0, 0, 0, 0, 0, 0, 0, 0, 0, 0, 0, 0, 0, 0, 0, 0, 0, 0, 0, 0, 0, 0, 0, 0, 0, 0, 0, 0, 0, 0, 0, 0, 0, 0, 0, 0, 0, 0, 0, 0, 0, 0, 0, 0, 0, 0, 0, 0, 0, 0, 0, 0, 0, 0, 0, 0, 0, 0, 0, 0, 0, 0, 0, 0, 0, 0, 0, 0, 0, 0, 0, 0, 0, 0, 0, 0, 0, 0, 0, 0, 0, 0, 0, 0, 0, 0, 0, 0, 0, 0, 0, 0, 0, 0, 0, 0, 0, 0, 0, 0, 0, 0, 0, 0, 0, 0, 0, 0, 0, 0, 0, 0, 0, 0, 0, 0, 0, 0, 0, 0, 0, 0, 0, 0, 0, 0, 0, 0, 0, 0, 0, 0, 0, 0, 0, 0, 0, 0, 0, 0, 0, 0, 0, 0, 0, 0, 0, 0, 0, 0, 0, 0, 0, 0, 0, 0, 0, 0, 0, 0, 0, 0, 0, 0, 0, 0, 0]
def asciiSpaceD : DV := .cptr (asciiSpaceL.map fun n => .int .u8 (Int.ofNat n))

theorem envIn_none {l : List (Nat × FuncId)} (w : World) : EnvIn (fmOf l []) w := fun r i v h => by cases h

theorem envIn_one {l : List (Nat × FuncId)} {g : Nat} {t : List Nat} {w : World} (h : ∀ i (h : i < t.length), w.cell? ⟨g, i, none⟩ = some (.int .u8 (Int.ofNat t[i]))) : EnvIn (fmOf l [(g, t)]) w := by
  intro r i v hv
  simp only [fmOf, envOf] at hv
  cases hb : Nat.beq r g with
  | false => rw [hb] at hv; simp at hv
  | true =>
    rw [hb] at hv
    simp only [cond_true, Option.map_eq_some_iff] at hv
    obtain ⟨n, hn, rfl⟩ := hv
    have := Nat.eq_of_beq_eq_true hb
    subst this
    obtain ⟨hi, rfl⟩ := List.getElem?_eq_some_iff.1 hn
    have hc := h i hi
    simp only [World.cell?] at hc
    split at hc
    · rename_i cs t' fz hcs
      exact ⟨get?_lt hcs, cs, t', fz, hcs, by simpa using hc⟩
    all_goals first | (cases hc; done) | skip

end Go.D
