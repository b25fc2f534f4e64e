/-
Pieces of code: what stands for what.
-/
import Derived.Test.YtpmjmbpcdacamaaFwDMem
import Derived.RangeFuncCalls
namespace Go.D
open Go.RowKit

def loudAt (pf : Nat → Bool) (rs : List ROper) (i : Nat) : Bool := match rs[i]? with | some r => loudD pf r.op | none => false

/-- How many of the operations ahead of i may change the state. -/
def loudBefore (pf : Nat → Bool) (rs : List ROper) : Nat → Nat
  | 0 => 0
  | i + 1 => loudBefore pf rs i + if loudAt pf rs i = true then 1 else 0

/-- An operation that does not look at the state. -/
def statelessD : ROp → Bool
  | .mv _ | .pick .. | .build .. | .nilchk _ | .bin .. | .eq .. | .un .. | .i2i .. | .i2s _ | .same _ | .mkfn .. | .slice .. | .faddr .. | .field .. | .iaddr .. | .iaddrA .. | .index .. | .indexA .. | .extract .. | .iface .. | .sldata _ | .sliceA .. | .lenC _ | .cap _ | .max _ | .min _ | .got .. | .fail => true
  | _ => false

/-- A free laying does in the model what it does here, wherever the object lies here. -/
def FreeRun (P : Program) (fm : FM) (op : ROp) (o : Oper) : Prop :=
  ∀ (CR : Nat → RC → Code → Prop) (G : Gh) (w0 : World) (st : St) (w : World) (fr : Fr) (a : Act) (b : Nat) (v : DV) (ob : HO), Sim fm CR G w0 st w → FrRel fm G fr a.tmps → freeD op fr b = some (v, ob) →
    ob.isGone = false ∧ ∃ obm x nx, (execOp a.eval o).run P w = .ok nx (w.alloc obm) ∧ nextIs nx x ∧ ∀ G' : Gh, G'.mu b = some w.heap.size → ObjRel fm CR G' b ob obm ∧ Rel fm G' v x

/-- What is asked of the order in which a region is drawn: 'anc': what must go ahead of what. -/
structure DRelC (T : Tab) (rs : List ROper) (chk : List (Nat × List Nat)) (ops : Array Oper) (anc : Nat → List Nat) : Prop where
  just : ∀ (j : Nat) (o : Oper), ops[j]? = some o → ∀ i ∈ anc j, i < j ∧ ∃ e ∈ o.after.toList, Region.binds .any e = true ∧ (e.on = i ∨ (e.on < j ∧ i ∈ anc e.on))
  edges : ∀ (j : Nat) (o : Oper), ops[j]? = some o → ∀ e ∈ o.after.toList, Region.binds .any e = true → e.on < j
  chkReads : ∀ (j : Nat) (vs : List Nat) (r : ROper), (j, vs) ∈ chk → rs[j]? = some r → ∀ (i t : Nat) (r' : ROper), rs[i]? = some r' → r'.dst = some t → t ∈ r.reads → i < j
  loud : ∀ (i j : Nat) (r r' : ROper), i < j → rs[i]? = some r → rs[j]? = some r' → loudD (isPure T) r.op = true → loudD (isPure T) r'.op = true → i ∈ anc j
  writers : ∀ (i j t : Nat) (r r' : ROper), i ≠ j → rs[i]? = some r → rs[j]? = some r' → r.dst = some t → r'.dst ≠ some t
  readers : ∀ (i j t : Nat) (r r' : ROper), rs[i]? = some r → rs[j]? = some r' → r.dst = some t → t ∈ r'.reads → i ≠ j ∧ (i < j → i ∈ anc j) ∧ (j < i → j ∈ anc i)
  cover : ∀ (j v : Nat) (r : ROper), rs[j]? = some r → loudD (isPure T) r.op = false → statelessD r.op = false →
    (∀ (i : Nat) (r' : ROper), rs[i]? = some r' → loudD (isPure T) r'.op = true → i ∈ anc j → loudBefore (isPure T) rs i < v) →
    (∀ (i : Nat) (r' : ROper), rs[i]? = some r' → loudD (isPure T) r'.op = true → j ∈ anc i → v ≤ loudBefore (isPure T) rs i) →
    v ≤ loudBefore (isPure T) rs rs.length → v = loudBefore (isPure T) rs j ∨ ∃ vs, (j, vs) ∈ chk ∧ v ∈ vs ∧ r.dst.isSome = true

/-- A region that draws its order. 'hs': what is laid ahead. -/
structure DRel (P : Program) (fm : FM) (T : Tab) (N : Nat) (rs : List ROper) (hs : List Nat) (chk : List (Nat × List Nat)) (ops : Array Oper) (anc : Nat → List Nat) : Prop where
  rel : OpsRel P fm N rs ops
  free : ∀ (j : Nat) (r : ROper) (o : Oper), j ∈ hs → rs[j]? = some r → ops[j]? = some o → FreeRun P fm r.op o
  rest : DRelC T (maskR hs 0 rs) chk ops anc

/-- Two lists of operations alike in all that the order asks. -/
def Alike (pf : Nat → Bool) (as bs : List ROper) : Prop :=
  as.length = bs.length ∧ ∀ (i : Nat) (a b : ROper), as[i]? = some a → bs[i]? = some b → a.dst = b.dst ∧ a.reads = b.reads ∧ loudD pf a.op = loudD pf b.op ∧ statelessD a.op = statelessD b.op

theorem Alike.get {pf : Nat → Bool} {as bs : List ROper} (h : Alike pf as bs) {i : Nat} {b : ROper} (hb : bs[i]? = some b) : ∃ a, as[i]? = some a ∧ a.dst = b.dst ∧ a.reads = b.reads ∧ loudD pf a.op = loudD pf b.op ∧ statelessD a.op = statelessD b.op := by
  have hi := (List.getElem?_eq_some_iff.1 hb).1
  have : i < as.length := by rw [h.1]; exact hi
  exact ⟨as[i], List.getElem?_eq_getElem this, h.2 i _ b (List.getElem?_eq_getElem this) hb⟩

theorem Alike.loudAt {pf : Nat → Bool} {as bs : List ROper} (h : Alike pf as bs) (i : Nat) : loudAt pf as i = loudAt pf bs i := by
  unfold Go.D.loudAt
  cases hb : bs[i]? with
  | none =>
    have : as[i]? = none := by rw [List.getElem?_eq_none_iff] at hb ⊢; rw [h.1]; exact hb
    rw [this]
  | some b =>
    obtain ⟨a, ha, _, _, h3, _⟩ := h.get hb
    rw [ha]; exact h3

theorem Alike.loudBefore {pf : Nat → Bool} {as bs : List ROper} (h : Alike pf as bs) : ∀ i, loudBefore pf as i = loudBefore pf bs i
  | 0 => rfl
  | i + 1 => by simp only [Go.D.loudBefore, h.loudBefore i, h.loudAt i]

theorem DRelC.alike {T : Tab} {as bs : List ROper} {chk : List (Nat × List Nat)} {ops : Array Oper} {anc : Nat → List Nat} (h : DRelC T as chk ops anc) (k : Alike (isPure T) as bs) : DRelC T bs chk ops anc where
  just := h.just
  edges := h.edges
  chkReads := by
    intro j vs r hc hr i t r' hr' hd ht
    obtain ⟨a, ha, d1, d2, _⟩ := k.get hr
    obtain ⟨a', ha', e1, e2, _⟩ := k.get hr'
    exact h.chkReads j vs a hc ha i t a' ha' (e1.trans hd) (d2 ▸ ht)
  loud := by
    intro i j r r' hij hr hr' hl hl'
    obtain ⟨a, ha, _, _, d3, _⟩ := k.get hr
    obtain ⟨a', ha', _, _, e3, _⟩ := k.get hr'
    exact h.loud i j a a' hij ha ha' (d3.trans hl) (e3.trans hl')
  writers := by
    intro i j t r r' hij hr hr' hd
    obtain ⟨a, ha, d1, _⟩ := k.get hr
    obtain ⟨a', ha', e1, _⟩ := k.get hr'
    rw [← e1]
    exact h.writers i j t a a' hij ha ha' (d1.trans hd)
  readers := by
    intro i j t r r' hr hr' hd ht
    obtain ⟨a, ha, d1, _⟩ := k.get hr
    obtain ⟨a', ha', _, e2, _⟩ := k.get hr'
    exact h.readers i j t a a' ha ha' (d1.trans hd) (e2 ▸ ht)
  cover := by
    intro j v r hr hl hsl hlow hup hv
    obtain ⟨a, ha, d1, d2, d3, d4⟩ := k.get hr
    have := h.cover j v a ha (d3.trans hl) (d4.trans hsl) ?_ ?_ (by rw [k.1, k.loudBefore]; exact hv)
    · rw [k.loudBefore, d1] at this; exact this
    · intro i r' hr' hl' hi
      have hi2 := (List.getElem?_eq_some_iff.1 hr').1
      have hb : bs[i]? = some (bs[i]'(by rw [← k.1]; exact hi2)) := List.getElem?_eq_getElem _
      have := (k.2 i r' _ hr' hb).2.2.1
      rw [k.loudBefore]
      exact hlow i _ hb (this ▸ hl') hi
    · intro i r' hr' hl' hi
      have hi2 := (List.getElem?_eq_some_iff.1 hr').1
      have hb : bs[i]? = some (bs[i]'(by rw [← k.1]; exact hi2)) := List.getElem?_eq_getElem _
      have := (k.2 i r' _ hr' hb).2.2.1
      rw [k.loudBefore]
      exact hup i _ hb (this ▸ hl') hi

def CRel (P : Program) (fm : FM) (T : Tab) (N : Nat) : RC → Code → Prop
  | .skip, c => c = .skip ∨ ∃ l, c = .label l
  | .region ops _, c => ∃ id oops, c = .region id oops false ∧ OpsRel P fm N ops oops
  | .dregion ops hs chk _, c => ∃ id oops anc, c = .region id oops true ∧ DRel P fm T N ops hs chk oops anc
  | .seq a b, c => ∃ x y, c = .seq x y ∧ CRel P fm T N a x ∧ CRel P fm T N b y
  | .cond x a b, c => ∃ o y z, c = .cond o y z ∧ XRel fm x o ∧ CRel P fm T N a y ∧ CRel P fm T N b z
  | .block id a, c => ∃ x, c = .block id x ∧ CRel P fm T N a x
  | .loop _ a, c => ∃ x, c = .loop x ∧ CRel P fm T N a x
  | .exit id, c => c = .exit id
  | .ret, c => c = .ret
  | .stuck, _ => True
  | .rfunc f ps as bo _, c => ∃ o qs x y, c = .rangeFunc o qs x y ∧ XRel fm f o ∧ qs.toList = ps ∧ (∀ p ∈ ps, p < N) ∧ CRel P fm T N as x ∧ CRel P fm T N bo y

/-- A type's values fill so many cells, as a struct or an array if 'ag' says so. -/
def TyCells (P : Program) (ty : TypeId) (n : Nat) (ag : Bool) : Prop :=
  (∃ d, P.underlying ty = some d ∧ (match d with | .struct _ | .array _ _ => true | _ => false) = ag) ∧ (∃ i, P.info? ty = some i ∧ i.size = n) ∧ (ag = false → n = 1)

def ResRel (P : Program) : RRes → ResultVar → Prop
  | .t n, .tmp m => n = m
  | .cell a n ag, .cell b ty => a = b ∧ TyCells P ty n ag
  | _, _ => False

def RelsA (fm : FM) (G : Gh) (vs : List DV) (cs : Array Value) : Prop :=
  cs.size = vs.length ∧ ∀ i (h : i < vs.length), Rel fm G (vs[i]) (cs.getD i undef)

/-- A call of function f ends so that R holds. -/
def EnterOk (P : Program) (f : FuncId) (args : Array Value) (w : World) (R : Value → World → Prop) : Prop :=
  ∃ f', (callFunc f args).run P w = .ok (.enter f' args) w ∧ CallsIn Fence.wide 0 P f' args w (fun e w' => ∃ x, e = .returned x ∧ R x w')

def FnOk (P : Program) (f : FuncId) (args : Array Value) (w : World) (R : Value → World → Prop) : Prop :=
  EnterOk P f args w R ∨ ∃ x w', (callFunc f args).run P w = .ok (.value x) w' ∧ R x w'

def InvOk (P : Program) (t : Target) (args : Array Value) (w : World) (R : Value → World → Prop) : Prop :=
  (∃ f' a', (invoke t args).run P w = .ok (.enter f' a') w ∧ CallsIn Fence.wide 0 P f' a' w (fun e w' => ∃ x, e = .returned x ∧ R x w')) ∨
  (∃ x w', (invoke t args).run P w = .ok (.value x) w' ∧ R x w') ∨
  ∃ l f tmps as bo w1, (invoke t args).run P w = .ok (.round l f tmps as bo) w1 ∧ RoundIn Fence.wide 0 P l f tmps as bo w1 (fun e w' => ∃ x, e = .returned x ∧ R x w')

section
variable (P : Program) (fm : FM) (T : Tab)

abbrev SimT (G : Gh) (w0 : World) (st : St) (w : World) : Prop := Sim fm (CRel P fm T) G w0 st w

def PrimSim (p : List DV → St → Option (DV × St)) (f : FuncId) : Prop :=
  ∀ (G : Gh) (w0 : World) (st : St) (w : World) (args : List DV) (args' : Array Value) (v : DV) (st' : St), SimT P fm T G w0 st w → RelsA fm G args args' → p args st = some (v, st') →
    FnOk P f args' w fun x w' => ∃ G', G.le G' ∧ SimT P fm T G' w0 st' w' ∧ Rel fm G' v x

def DefRel : Def → FuncId → Prop
  | .code F, f => ∃ fn c, (∀ (args : Array Value) (w : World), (callFunc f args).run P w = .ok (.enter f args) w) ∧ P.funcs[f]? = some fn ∧ fn.body = some c ∧ CRel P fm T fn.ntmps F.body c ∧
      fn.results.toList.length = F.results.length ∧ ∀ (i : Nat) (a : RRes) (b : ResultVar), F.results[i]? = some a → fn.results.toList[i]? = some b → ResRel P a b
  | .prim p, f => PrimSim P fm T p f
  | .pprim p, f => PrimSim P fm T (fun as st => (p as).map fun v => (v, st)) f

def TabRel : Prop := ∀ g d f, T g = some d → fm g = some f → DefRel P fm T d f

def fen : Option Nat → Fence
  | none => Fence.wide
  | some l => Fence.wide.inRound l

def RoOk (G : Gh) : Option Nat → Prop
  | none => True
  | some l => G.lps l

/-- The marks among an activation's deferred calls: each block is this activation's own. -/
def DfrOk (G : Gh) (D0 : Nat → Prop) (ds : List Deferred) : Prop :=
  ∃ rs : List Nat, ds = rs.map (fun r => { target := .collected r, args := #[] }) ∧ rs.Nodup ∧ ∀ r ∈ rs, G.dfr r ∧ ¬ D0 r ∧ G.floor ≤ r

def exRel : Ex → Exit → Prop
  | .normal, .normal => True
  | .exit a, .exit b => a = b
  | .ret, .ret => True
  | _, _ => False

def CPost (G : Gh) (w0 : World) (st : St) (fr : Fr) (ex : Ex) (N : Nat) (D0 : Nat → Prop) (e : Exit) (a : Act) (w : World) : Prop :=
  exRel ex e ∧ ∃ G', G.le G' ∧ SimT P fm T G' w0 st w ∧ FrRel fm G' fr a.tmps ∧ N ≤ a.tmps.size ∧ DfrOk G' D0 a.defers

structure Good (n : Nat) : Prop where
  code : ∀ {rc : RC} {c : Code} {N : Nat} {fr : Fr} {st : St} {ex : Ex} {fr' : Fr} {st' : St} {G : Gh} {w0 w : World} {a : Act} {ro : Option Nat} {D0 : Nat → Prop},
    CRel P fm T N rc c → runC T n rc fr st = some (ex, fr', st') → SimT P fm T G w0 st w → FrRel fm G fr a.tmps → N ≤ a.tmps.size → DfrOk G D0 a.defers → (∀ r, D0 r → G.dfr r) → RoOk G ro →
    c.wpIn (fen ro) 0 P (CPost P fm T G w0 st' fr' ex N D0) a w
  one : ∀ {N : Nat} {ops : Array Oper} {r : ROper} {o : Oper} {fr : Fr} {st : St} {v : DV} {st' : St} {G : Gh} {w0 w : World} {a : Act} {ro : Option Nat} {K : Act → World → Prop} {Q : Exit → Act → World → Prop},
    OperRel P fm N ops r o → runOne T n r fr st = some (v, st') → SimT P fm T G w0 st w → (∀ t ∈ r.reads, Rel fm G (fr.get t) (a.tmps.getD t undef)) →
    (∀ x G' w', G.le G' → SimT P fm T G' w0 st' w' → Rel fm G' v x → K (a.put o.dst x) w') →
    (if Region.wanted o (yielded ops a.tmps) then o.wpIn (fen ro) 0 P a w K Q else (∀ f, o.about P w a.eval = some f → (fen ro).fn f) ∧ K (a.put o.dst undef) w)
  fn : ∀ {g : Nat} {f : FuncId} {args : List DV} {st : St} {v : DV} {st' : St} {G : Gh} {w0 w : World} {args' : Array Value},
    fm g = some f → callF T n g args st = some (v, st') → SimT P fm T G w0 st w → RelsA fm G args args' →
    FnOk P f args' w (fun x w' => ∃ G', G.le G' ∧ SimT P fm T G' w0 st' w' ∧ Rel fm G' v x) ∧
    (isCode T g = true → EnterOk P f args' w (fun x w' => ∃ G', G.le G' ∧ SimT P fm T G' w0 st' w' ∧ Rel fm G' v x))
  val : ∀ {v0 : DV} {x0 : Value} {args : List DV} {st : St} {v : DV} {st' : St} {G : Gh} {w0 w : World} {args' : Array Value},
    Rel fm G v0 x0 → callV T n v0 args st = some (v, st') → SimT P fm T G w0 st w → RelsA fm G args args' →
    ∃ d, (Deferred.ofValue x0 args').run P w = .ok d w ∧ InvOk P d.target d.args w (fun x w' => ∃ G', G.le G' ∧ SimT P fm T G' w0 st' w' ∧ Rel fm G' v x)

end
end Go.D
