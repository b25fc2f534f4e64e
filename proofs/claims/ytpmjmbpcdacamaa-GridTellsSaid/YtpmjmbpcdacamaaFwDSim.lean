/-
A state of the small language stands for a world; an operation of it for one of Go's model; a piece of its code for a piece of Go's.
-/
import Derived.Test.YtpmjmbpcdacamaaFwDRel
namespace Go.D
open Go.RowKit

def HO.isGone : HO → Bool
  | .gone => true
  | _ => false

section
variable (P : Program) (fm : FM) (T : Tab)

def XsRel (xs : List X) (os : List Operand) : Prop := os.length = xs.length ∧ ∀ (i : Nat) (x : X) (o : Operand), xs[i]? = some x → os[i]? = some o → XRel fm x o

/-- A value (v, x) as an operation hands it on. -/
def nextIs (nx : Next) (x : Value) : Prop := nx = .value x ∨ (nx = .skip ∧ x = undef)

def LoopSt : Nat → LoopState
  | 0 => .ready
  | 1 => .busy
  | 2 => .done
  | _ => .exhausted

/-- An object of the small heap stands for one of the world. 'CR': which code stands for which, at frames of so many slots. -/
def ObjRel (CR : Nat → RC → Code → Prop) (G : Gh) (b : Nat) : HO → Obj → Prop
  | .cells .plain vs, o => ∃ cs t fz, o = .cells cs t fz ∧ cs.size = vs.length ∧ (∀ i (h : i < vs.length), Rel fm G (vs[i]) (cs.getD i undef)) ∧ (∀ i, i < cs.size → ¬ (fz.1 ≤ i ∧ i < fz.2)) ∧ vs.all DV.scal = true
  | .cells (.typed ty) vs, o => ∃ cs t fz, o = .cells cs t fz ∧ t = ty ∧ cs.size = vs.length ∧ (∀ i (h : i < vs.length), Rel fm G (vs[i]) (cs.getD i undef)) ∧ (∀ i, i < cs.size → ¬ (fz.1 ≤ i ∧ i < fz.2)) ∧ vs.all DV.scal = true
  | .cells (.frz ty) vs, o => ∃ cs t fz, o = .cells cs t fz ∧ t = ty ∧ vs.length ≤ cs.size ∧ cs.size = G.gsz b ∧ (∀ i (h : i < vs.length), Rel fm G (vs[i]) (cs.getD i undef)) ∧ fz.2 ≤ vs.length ∧ vs.all DV.scal = true
  | .cells .grown vs, o => ∃ cs t fz, o = .cells cs t fz ∧ vs.length ≤ cs.size ∧ cs.size = G.gsz b ∧ (∀ i (h : i < vs.length), Rel fm G (vs[i]) (cs.getD i undef)) ∧ (∀ i, i < cs.size → ¬ (fz.1 ≤ i ∧ i < fz.2)) ∧ vs.all DV.scal = true
  | .map es, o => ∃ en ck, o = .map en ck ∧ en.size = es.length ∧ ∀ (i : Nat) (k v : DV), es[i]? = some (k, v) → ∃ e : MapEntry, en[i]? = some e ∧ Rel fm G k e.key ∧ Rel fm G v e.val
  | .loop lo, o => ∃ l, o = .loop l ∧ l.state = LoopSt lo.state ∧ lo.state ≤ 3 ∧ JRel lo.pending l.pending ∧ l.params.toList = lo.params ∧
      (∃ N, N ≤ l.tmps.size ∧ (∀ p ∈ lo.params, p < N) ∧ CR N lo.assign l.assign ∧ CR N lo.body l.body) ∧ FrRel fm G lo.fr l.tmps
  | .gone, _ => True

structure Sim (CR : Nat → RC → Code → Prop) (G : Gh) (w0 : World) (st : St) (w : World) : Prop where
  muDom : ∀ b r, G.mu b = some r → b < st.heap.length
  muInj : ∀ b b' o o' r, st.heap[b]? = some o → st.heap[b']? = some o' → o.isGone = false → o'.isGone = false → G.mu b = some r → G.mu b' = some r → b = b'
  obj : ∀ b o, st.heap[b]? = some o → o.isGone = false → G.pend b = none → ∃ r ob, G.mu b = some r ∧ w.heap[r]? = some ob ∧ ObjRel fm CR G b o ob ∧ (st.base ≤ b → G.floor ≤ r)
  ro : ∀ r i v, G.ro r i = some v → ∃ cs t fz, w.heap[r]? = some (.cells cs t fz) ∧ cs[i]? = some v
  roMu : ∀ r i v b o, G.ro r i = some v → st.heap[b]? = some o → o.isGone = false → G.mu b = some r → False
  tok : ∀ t s, st.toks[t]? = some s → ∃ r len cap n cs ty, G.hist t s = some (r, len, cap, n) ∧ 0 < n ∧ len ≤ cap ∧ w.heap[r]? = some (.cells cs ty (0, 0)) ∧ cs.size = cap * n ∧
      (∀ i, len * n ≤ i → G.ro r i = none) ∧ (∀ b o, st.heap[b]? = some o → o.isGone = false → G.mu b ≠ some r) ∧ (st.tbase ≤ t → G.floor ≤ r)
  tokInj : ∀ t t' s s' x x', st.toks[t]? = some s → st.toks[t']? = some s' → G.hist t s = some x → G.hist t' s' = some x' → x.1 = x'.1 → t = t'
  hist : ∀ t s x, G.hist t s = some x → ∃ s', st.toks[t]? = some s' ∧ s ≤ s'
  dfr : ∀ r, G.dfr r → w.heap[r]? = some (.deferred (some []))
  lps : ∀ r, G.lps r → ∃ l, w.heap[r]? = some (.loop l)
  floorLe : G.floor ≤ w.heap.size
  below : Below G.floor w0 w
  base : st.base = G.base
  tbase : st.tbase = G.tbase
  baseLe : st.base ≤ st.heap.length
  pend : ∀ b o, G.pend b = some o → st.heap[b]? = some o ∧ G.mu b = none
  env : ∀ r i v, fm.env r i = some v → r < G.floor ∧ ∃ cs t fz, w0.heap[r]? = some (.cells cs t fz) ∧ cs[i]? = some v

theorem Sim.np {fm : FM} {CR : Nat → RC → Code → Prop} {G : Gh} {w0 w : World} {st : St} (h : Sim fm CR G w0 st w) {b r : Nat} (hm : G.mu b = some r) : G.pend b = none := by
  cases e : G.pend b with
  | none => rfl
  | some o => have := (h.pend b o e).2; rw [hm] at this; cases this

theorem Sim.rok {fm : FM} {CR : Nat → RC → Code → Prop} {G : Gh} {w0 w : World} {st : St} (h : Sim fm CR G w0 st w) {r i : Nat} {v : Value} (k : ROk fm G r i v) : ∃ cs t fz, w.heap[r]? = some (.cells cs t fz) ∧ cs[i]? = some v := by
  rcases k with k | k
  · exact h.ro r i v k
  · obtain ⟨h1, cs, t, fz, h2, h3⟩ := h.env r i v k
    exact ⟨cs, t, fz, (h.below.block r h1).trans h2, h3⟩

/-- An operation that runs no code does in the model what it does here. -/
def OpSim (CR : Nat → RC → Code → Prop) (ro : ROp) (o : Oper) : Prop :=
  ∀ (G : Gh) (w0 : World) (st : St) (w : World) (fr : Fr) (a : Act) (v : DV) (st' : St), Sim fm CR G w0 st w → FrRel fm G fr a.tmps → stepD st fr ro = some (v, st') →
    ∃ G' w' x nx, (execOp a.eval o).run P w = .ok nx w' ∧ nextIs nx x ∧ G.le G' ∧ Sim fm CR G' w0 st' w' ∧ Rel fm G' v x

def isCall : ROp → Bool
  | .call .. | .callv .. | .callp .. => true
  | _ => false

/-- What a guard asks. -/
def GuardRel (ops : Array Oper) (g : Option (Nat × Bool)) (g' : Option (Nat × Bool)) : Prop :=
  match g, g' with
  | none, none => True
  | some (t, want), some (j, want') => want = want' ∧ (ops[j]?).bind (·.dst) = some t
  | _, _ => False

end

/-- Facts on operations by themselves: the relation of code does not enter into what they do, so they are asked for whatever relation of code. -/
def OpSimAll (P : Program) (fm : FM) (ro : ROp) (o : Oper) : Prop := ∀ CR, OpSim P fm CR ro o

def OperRel (P : Program) (fm : FM) (N : Nat) (ops : Array Oper) (r : ROper) (o : Oper) : Prop :=
  r.dst = o.dst ∧ (∀ t, o.dst = some t → t < N) ∧ GuardRel ops r.guard o.guard ∧ (∀ c, o.op ≠ .defer c) ∧
  match r.op with
  | .call g args => ∃ c f, o.op = .call c ∧ c.callee = .value (.func f) ∧ fm g = some f ∧ XsRel fm args c.args.toList
  | .callv f args | .callp f args => ∃ c fo, o.op = .call c ∧ c.callee = .value fo ∧ XRel fm f fo ∧ XsRel fm args c.args.toList
  | op => OpSimAll P fm op o

def OpsRel (P : Program) (fm : FM) (N : Nat) (rs : List ROper) (ops : Array Oper) : Prop :=
  rs.length = ops.size ∧ ∀ (i : Nat) (r : ROper), rs[i]? = some r → ∃ o, ops[i]? = some o ∧ OperRel P fm N ops r o

end Go.D
