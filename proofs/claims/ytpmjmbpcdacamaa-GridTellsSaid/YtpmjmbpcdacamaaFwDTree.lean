/-
A table of functions; and how a run of a closed law begins.
-/
import Derived.Test.YtpmjmbpcdacamaaFwDChkDraw
namespace Go.D
open Go.RowKit

variable {P : Program} {fm : FM}

inductive TT where
  | nil
  | leaf (g : Nat) (d : Def)
  | node (k : Nat) (l r : TT)

def TT.get : TT → Nat → Option Def
  | .nil, _ => none
  | .leaf g d, h => bif Nat.beq h g then some d else none
  | .node k l r, h => bif Nat.blt h k then l.get h else r.get h

def TT.ok (P : Program) (fm : FM) (T : Tab) : TT → Prop
  | .nil => True
  | .leaf g d => ∀ f, fm g = some f → DefRel P fm T d f
  | .node _ l r => l.ok P fm T ∧ r.ok P fm T

theorem TT.ok_get {T : Tab} : ∀ (t : TT), t.ok P fm T → ∀ g d f, t.get g = some d → fm g = some f → DefRel P fm T d f
  | .nil, _, g, d, f, h, _ => by simp [TT.get] at h
  | .leaf g0 d0, h0, g, d, f, h, hf => by
    simp only [TT.get] at h
    cases hb : Nat.beq g g0 with
    | false => rw [hb] at h; simp at h
    | true =>
      rw [hb] at h
      simp only [cond_true, Option.some.injEq] at h
      subst h
      have := Nat.eq_of_beq_eq_true hb
      subst this
      exact h0 f hf
  | .node k l r, h0, g, d, f, h, hf => by
    simp only [TT.get] at h
    cases hb : Nat.blt g k with
    | true => rw [hb] at h; exact l.ok_get h0.1 g d f h hf
    | false => rw [hb] at h; exact r.ok_get h0.2 g d f h hf

theorem tabRel_tree {t : TT} (h : t.ok P fm t.get) : TabRel P fm t.get := fun g d f hg hf => t.ok_get h g d f hg hf

/-- Which of the program's functions a number of the table is. -/
def fmList : List (Nat × FuncId) → Nat → Option FuncId
  | [], _ => none
  | (g, f) :: r, h => bif Nat.beq h g then some f else fmList r h

/-- A table of cells that lies in block g: the bytes. -/
def envOf : List (Nat × List Nat) → Nat → Nat → Option Value
  | [], _, _ => none
  | (g, l) :: r, b, i => bif Nat.beq b g then (l[i]?).map (fun n => .int .u8 (Int.ofNat n)) else envOf r b i

def fmOf (l : List (Nat × FuncId)) (env : List (Nat × List Nat)) : FM := ⟨fmList l, envOf env⟩

/-- The tables lie in the world. -/
def EnvIn (fm : FM) (w : World) : Prop := ∀ r i v, fm.env r i = some v → r < w.heap.size ∧ ∃ cs t fz, w.heap[r]? = some (.cells cs t fz) ∧ cs[i]? = some v

def st0 : St := { heap := [], toks := [], cur := 0, base := 0, tbase := 0 }

def gh0 (w : World) : Gh := { ro := fun _ _ => none, mu := fun _ => none, hist := fun _ _ => none, gsz := fun _ => 0, dfr := fun _ => False, lps := fun _ => False, pend := fun _ => none, floor := w.heap.size, base := 0, tbase := 0 }

theorem sim0 (CR : Nat → RC → Code → Prop) (w : World) (he : EnvIn fm w) : Sim fm CR (gh0 w) w st0 w where
  muDom := fun b r h => by cases h
  muInj := fun b b' o o' r h => by simp [st0] at h
  obj := fun b o h => by simp [st0] at h
  ro := fun r i v h => by cases h
  roMu := fun r i v b o h => by cases h
  tok := fun t s h => by simp [st0] at h
  tokInj := fun t t' s s' x x' h => by simp [st0] at h
  hist := fun t s x h => by cases h
  dfr := fun r h => h.elim
  lps := fun r h => h.elim
  floorLe := Nat.le_refl _
  below := Below.refl _ w
  base := rfl
  tbase := rfl
  baseLe := Nat.zero_le _
  pend := fun b o h => by cases h
  env := he

/-- A closed law that the table's run tells true. -/
theorem known_calls {T : Tab} (hT : TabRel P fm T) (hm : P.follows .mixedOrders = true) {n g : Nat} {f : FuncId} {F : RFunc} {st' : St} (hg : T g = some (.code F)) (hf : fm g = some f) (hrun : callF T n g [] st0 = some (.bool true, st')) (w : World) (he : EnvIn fm w) :
    Calls P f #[] w (fun e w' => e = .returned (.bool true) ∧ Below w.heap.size w w') := by
  have hc : isCode T g = true := by unfold isCode; rw [hg]
  have h := calls_of_callF hT hm hf hrun (sim0 (fm := fm) (CRel P fm T) w he) (args' := #[]) ⟨rfl, fun i hi => by simp at hi⟩ hc (enter_of (hT g _ f hg hf))
  refine h.mono ?_
  rintro e w' ⟨x, rfl, G', hle, hs, hx⟩
  cases hx
  have := hs.below
  rw [hle.floor] at this
  exact ⟨rfl, this⟩

/-- As 'known_calls', of a call with arguments that hang on nothing. -/
theorem known_calls_args {T : Tab} (hT : TabRel P fm T) (hm : P.follows .mixedOrders = true) {n g : Nat} {f : FuncId} {F : RFunc} {st' : St} {args : List DV} {args' : Array Value} (hg : T g = some (.code F)) (hf : fm g = some f)
    (hrun : callF T n g args st0 = some (.bool true, st')) (ha : ∀ G, RelsA fm G args args') (w : World) (he : EnvIn fm w) :
    Calls P f args' w (fun e w' => e = .returned (.bool true) ∧ Below w.heap.size w w') := by
  have hc : isCode T g = true := by unfold isCode; rw [hg]
  have h := calls_of_callF hT hm hf hrun (sim0 (fm := fm) (CRel P fm T) w he) (ha _) hc (enter_of (hT g _ f hg hf))
  refine h.mono ?_
  rintro e w' ⟨x, rfl, G', hle, hs, hx⟩
  cases hx
  have := hs.below
  rw [hle.floor] at this
  exact ⟨rfl, this⟩

theorem relsMk1 {G : Gh} {v : DV} {x : Value} (h : Rel fm G v x) : RelsA fm G [v] #[x] := ⟨rfl, fun i hi => by
  have : i = 0 := by simpa using hi
  subst this; exact h⟩

theorem relsMk2 {G : Gh} {v u : DV} {x y : Value} (h : Rel fm G v x) (k : Rel fm G u y) : RelsA fm G [v, u] #[x, y] := ⟨rfl, fun i hi => by
  match i, hi with
  | 0, _ => exact h
  | 1, _ => exact k⟩

end Go.D
