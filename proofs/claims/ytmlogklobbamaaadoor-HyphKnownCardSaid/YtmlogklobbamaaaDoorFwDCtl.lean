/-
Pieces of code: what stands for what.
-/
import Derived.Test.YtmlogklobbamaaaDoorFwDMem
import Derived.RangeFuncCalls
namespace Go.D
open Go.RowKit

def loudAt (pf : Nat → Bool) (rs : List ROper) (i : Nat) : Bool := match rs[i]? with | some r => loudD pf r.op | none => false

/-- How many of the operations ahead of i may change the state. -/
def loudBefore (pf : Nat → Bool) (rs : List ROper) : Nat → Nat
  | 0 => 0
  | i + 1 => loudBefore pf rs i + if loudAt pf rs i = true then 1 else 0

/-- An operation that does not look at the state. -/
def statelessD : ROp → Bool
  | .mv _ | .pick .. | .build .. | .nilchk _ | .bin .. | .eq .. | .un .. | .i2i .. | .i2s _ | .same _ | .mkfn .. | .slice .. | .faddr .. | .field .. | .iaddr .. | .iaddrA .. | .index .. | .indexA .. | .extract .. | .iface .. | .lenC _ | .cap _ | .max _ | .min _ | .fail => true
  | _ => false

/-- A region that draws its order: 'anc': what must go ahead of what. -/
structure DRel (P : Program) (fm : FM) (T : Tab) (N : Nat) (rs : List ROper) (chk : List (Nat × List Nat)) (ops : Array Oper) (anc : Nat → List Nat) : Prop where
  rel : OpsRel P fm N rs ops
  just : ∀ (j : Nat) (o : Oper), ops[j]? = some o → ∀ i ∈ anc j, i < j ∧ ∃ e ∈ o.after.toList, Region.binds .any e = true ∧ (e.on = i ∨ (e.on < j ∧ i ∈ anc e.on))
  edges : ∀ (j : Nat) (o : Oper), ops[j]? = some o → ∀ e ∈ o.after.toList, Region.binds .any e = true → e.on < j
  chkReads : ∀ (j : Nat) (vs : List Nat) (r : ROper), (j, vs) ∈ chk → rs[j]? = some r → ∀ (i t : Nat) (r' : ROper), rs[i]? = some r' → r'.dst = some t → t ∈ r.reads → i < j
  loud : ∀ (i j : Nat) (r r' : ROper), i < j → rs[i]? = some r → rs[j]? = some r' → loudD (isPure T) r.op = true → loudD (isPure T) r'.op = true → i ∈ anc j
  writers : ∀ (i j t : Nat) (r r' : ROper), i ≠ j → rs[i]? = some r → rs[j]? = some r' → r.dst = some t → r'.dst ≠ some t
  readers : ∀ (i j t : Nat) (r r' : ROper), rs[i]? = some r → rs[j]? = some r' → r.dst = some t → t ∈ r'.reads → i ≠ j ∧ (i < j → i ∈ anc j) ∧ (j < i → j ∈ anc i)
  cover : ∀ (j v : Nat) (r : ROper), rs[j]? = some r → loudD (isPure T) r.op = false → statelessD r.op = false →
    (∀ (i : Nat) (r' : ROper), rs[i]? = some r' → loudD (isPure T) r'.op = true → i ∈ anc j → loudBefore (isPure T) rs i < v) →
    (∀ (i : Nat) (r' : ROper), rs[i]? = some r' → loudD (isPure T) r'.op = true → j ∈ anc i → v ≤ loudBefore (isPure T) rs i) →
    v ≤ loudBefore (isPure T) rs rs.length → v = loudBefore (isPure T) rs j ∨ ∃ vs, (j, vs) ∈ chk ∧ v ∈ vs ∧ r.dst.isSome = true

def CRel (P : Program) (fm : FM) (T : Tab) (N : Nat) : RC → Code → Prop
  | .skip, c => c = .skip ∨ ∃ l, c = .label l
  | .region ops _, c => ∃ id oops, c = .region id oops false ∧ OpsRel P fm N ops oops
  | .dregion ops chk _, c => ∃ id oops anc, c = .region id oops true ∧ DRel P fm T N ops chk oops anc
  | .seq a b, c => ∃ x y, c = .seq x y ∧ CRel P fm T N a x ∧ CRel P fm T N b y
  | .cond x a b, c => ∃ o y z, c = .cond o y z ∧ XRel fm x o ∧ CRel P fm T N a y ∧ CRel P fm T N b z
  | .block id a, c => ∃ x, c = .block id x ∧ CRel P fm T N a x
  | .loop _ a, c => ∃ x, c = .loop x ∧ CRel P fm T N a x
  | .exit id, c => c = .exit id
  | .ret, c => c = .ret
  | .rfunc f ps as bo _, c => ∃ o qs x y, c = .rangeFunc o qs x y ∧ XRel fm f o ∧ qs.toList = ps ∧ (∀ p ∈ ps, p < N) ∧ CRel P fm T N as x ∧ CRel P fm T N bo y

/-- A type's values fill so many cells, as a struct or an array if 'ag' says so. -/
def TyCells (P : Program) (ty : TypeId) (n : Nat) (ag : Bool) : Prop :=
  (∃ d, P.underlying ty = some d ∧ (match d with | .struct _ | .array _ _ => true | _ => false) = ag) ∧ (∃ i, P.info? ty = some i ∧ i.size = n) ∧ (ag = false → n = 1)

def ResRel (P : Program) : RRes → ResultVar → Prop
  | .t n, .tmp m => n = m
  | .cell a n ag, .cell b ty => a = b ∧ TyCells P ty n ag
  | _, _ => False

def RelsA (fm : FM) (G : Gh) (vs : List DV) (cs : Array Value) : Prop :=
  cs.size = vs.length ∧ ∀ i (h : i < vs.length), Rel fm G (vs[i]) (cs.getD i undef)

/-- A call of function f ends so that R holds. -/
def EnterOk (P : Program) (f : FuncId) (args : Array Value) (w : World) (R : Value → World → Prop) : Prop :=
  ∃ f', (callFunc f args).run P w = .ok (.enter f' args) w ∧ CallsIn Fence.wide 0 P f' args w (fun e w' => ∃ x, e = .returned x ∧ R x w')

def FnOk (P : Program) (f : FuncId) (args : Array Value) (w : World) (R : Value → World → Prop) : Prop :=
  EnterOk P f args w R ∨ ∃ x w', (callFunc f args).run P w = .ok (.value x) w' ∧ R x w'

def InvOk (P : Program) (t : Target) (args : Array Value) (w : World) (R : Value → World → Prop) : Prop :=
  (∃ f' a', (invoke t args).run P w = .ok (.enter f' a') w ∧ CallsIn Fence.wide 0 P f' a' w (fun e w' => ∃ x, e = .returned x ∧ R x w')) ∨
  (∃ x w', (invoke t args).run P w = .ok (.value x) w' ∧ R x w') ∨
  ∃ l f tmps as bo w1, (invoke t args).run P w = .ok (.round l f tmps as bo) w1 ∧ RoundIn Fence.wide 0 P l f tmps as bo w1 (fun e w' => ∃ x, e = .returned x ∧ R x w')

section
variable (P : Program) (fm : FM) (T : Tab)

abbrev SimT (G : Gh) (w0 : World) (st : St) (w : World) : Prop := Sim fm (CRel P fm T) G w0 st w

def PrimSim (p : List DV → St → Option (DV × St)) (f : FuncId) : Prop :=
  ∀ (G : Gh) (w0 : World) (st : St) (w : World) (args : List DV) (args' : Array Value) (v : DV) (st' : St), SimT P fm T G w0 st w → RelsA fm G args args' → p args st = some (v, st') →
    FnOk P f args' w fun x w' => ∃ G', G.le G' ∧ SimT P fm T G' w0 st' w' ∧ Rel fm G' v x

def DefRel : Def → FuncId → Prop
  | .code F, f => ∃ fn c, (∀ (args : Array Value) (w : World), (callFunc f args).run P w = .ok (.enter f args) w) ∧ P.funcs[f]? = some fn ∧ fn.body = some c ∧ CRel P fm T fn.ntmps F.body c ∧
      fn.results.toList.length = F.results.length ∧ ∀ (i : Nat) (a : RRes) (b : ResultVar), F.results[i]? = some a → fn.results.toList[i]? = some b → ResRel P a b
  | .prim p, f => PrimSim P fm T p f

def TabRel : Prop := ∀ g d f, T g = some d → fm g = some f → DefRel P fm T d f

def fen : Option Nat → Fence
  | none => Fence.wide
  | some l => Fence.wide.inRound l

def RoOk (G : Gh) : Option Nat → Prop
  | none => True
  | some l => G.lps l

/-- The marks among an activation's deferred calls: each block is this activation's own. -/
def DfrOk (G : Gh) (D0 : Nat → Prop) (ds : List Deferred) : Prop :=
  ∃ rs : List Nat, ds = rs.map (fun r => { target := .collected r, args := #[] }) ∧ rs.Nodup ∧ ∀ r ∈ rs, G.dfr r ∧ ¬ D0 r ∧ G.floor ≤ r

def exRel : Ex → Exit → Prop
  | .normal, .normal => True
  | .exit a, .exit b => a = b
  | .ret, .ret => True
  | _, _ => False

def CPost (G : Gh) (w0 : World) (st : St) (fr : Fr) (ex : Ex) (N : Nat) (D0 : Nat → Prop) (e : Exit) (a : Act) (w : World) : Prop :=
  exRel ex e ∧ ∃ G', G.le G' ∧ SimT P fm T G' w0 st w ∧ FrRel fm G' fr a.tmps ∧ N ≤ a.tmps.size ∧ DfrOk G' D0 a.defers

structure Good (n : Nat) : Prop where
  code : ∀ {rc : RC} {c : Code} {N : Nat} {fr : Fr} {st : St} {ex : Ex} {fr' : Fr} {st' : St} {G : Gh} {w0 w : World} {a : Act} {ro : Option Nat} {D0 : Nat → Prop},
    CRel P fm T N rc c → runC T n rc fr st = some (ex, fr', st') → SimT P fm T G w0 st w → FrRel fm G fr a.tmps → N ≤ a.tmps.size → DfrOk G D0 a.defers → (∀ r, D0 r → G.dfr r) → RoOk G ro →
    c.wpIn (fen ro) 0 P (CPost P fm T G w0 st' fr' ex N D0) a w
  one : ∀ {N : Nat} {ops : Array Oper} {r : ROper} {o : Oper} {fr : Fr} {st : St} {v : DV} {st' : St} {G : Gh} {w0 w : World} {a : Act} {ro : Option Nat} {K : Act → World → Prop} {Q : Exit → Act → World → Prop},
    OperRel P fm N ops r o → runOne T n r fr st = some (v, st') → SimT P fm T G w0 st w → (∀ t ∈ r.reads, Rel fm G (fr.get t) (a.tmps.getD t undef)) →
    (∀ x G' w', G.le G' → SimT P fm T G' w0 st' w' → Rel fm G' v x → K (a.put o.dst x) w') →
    (if Region.wanted o (yielded ops a.tmps) then o.wpIn (fen ro) 0 P a w K Q else (∀ f, o.about P w a.eval = some f → (fen ro).fn f) ∧ K (a.put o.dst undef) w)
  fn : ∀ {g : Nat} {f : FuncId} {args : List DV} {st : St} {v : DV} {st' : St} {G : Gh} {w0 w : World} {args' : Array Value},
    fm g = some f → callF T n g args st = some (v, st') → SimT P fm T G w0 st w → RelsA fm G args args' →
    FnOk P f args' w (fun x w' => ∃ G', G.le G' ∧ SimT P fm T G' w0 st' w' ∧ Rel fm G' v x) ∧
    (isCode T g = true → EnterOk P f args' w (fun x w' => ∃ G', G.le G' ∧ SimT P fm T G' w0 st' w' ∧ Rel fm G' v x))
  val : ∀ {v0 : DV} {x0 : Value} {args : List DV} {st : St} {v : DV} {st' : St} {G : Gh} {w0 w : World} {args' : Array Value},
    Rel fm G v0 x0 → callV T n v0 args st = some (v, st') → SimT P fm T G w0 st w → RelsA fm G args args' →
    ∃ d, (Deferred.ofValue x0 args').run P w = .ok d w ∧ InvOk P d.target d.args w (fun x w' => ∃ G', G.le G' ∧ SimT P fm T G' w0 st' w' ∧ Rel fm G' v x)

end
end Go.D
