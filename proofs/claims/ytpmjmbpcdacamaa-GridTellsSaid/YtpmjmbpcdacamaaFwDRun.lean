/-
How the small language runs, with so many steps as are given; and without a count of steps.
-/
import Derived.Test.YtpmjmbpcdacamaaFwDSem
namespace Go.D

abbrev Tab := Nat → Option Def

def isCode (T : Tab) (g : Nat) : Bool := match T g with | some (.code _) => true | _ => false
def isPure (T : Tab) (g : Nat) : Bool := match T g with | some (.code f) => f.pureF | some (.pprim _) => true | _ => false

mutual
def runC (T : Tab) : Nat → RC → Fr → St → Option (Ex × Fr × St)
  | 0, _, _, _ => none
  | n + 1, c, fr, st =>
    match c with
    | .skip => some (.normal, fr, st)
    | .region ops live => match runOps T n ops fr st with | some (fr', st') => some (.normal, fr'.keep live, st') | none => none
    | .dregion ops hs chk live =>
      match prepH fr hs st ops with
      | some (st1, ops2) =>
        match runOpsS T n ops2 fr st1 [st1] with
        | some (fr', sts) => if chkAll T n fr' ops2 sts.reverse chk then (match sts with | st' :: _ => some (.normal, fr'.keep live, st') | [] => none) else none
        | none => none
      | none => none
    | .seq a b =>
      match runC T n a fr st with
      | some (.normal, fr', st') => runC T n b fr' st'
      | r => r
    | .cond x a b => match x.ev fr with | .bool true => runC T n a fr st | .bool false => runC T n b fr st | _ => none
    | .block id a =>
      match runC T n a fr st with
      | some (.exit id', fr', st') => if id' = id then some (.normal, fr', st') else some (.exit id', fr', st')
      | r => r
    | .loop live a =>
      match runC T n a (fr.keep live) st with
      | some (.normal, fr', st') => runC T n (.loop live a) fr' st'
      | r => r
    | .exit id => some (.exit id, fr, st)
    | .ret => some (.ret, fr, st)
    | .stuck => none
    | .rfunc f params assign body live =>
      let l := st.heap.length
      let fr0 := fr.keep live
      match f.ev fr0 with
      | .fn g first captured =>
        if isCode T g then
          match callF T n g (first ++ [.yield l] ++ captured) (st.push (.loop ⟨fr0, params, assign, body, 0, none⟩)) with
          | some (_, st') =>
            match st'.heap[l]? with
            | some (.loop lo) =>
              if lo.state = 1 then none else
              match lo.pending with
              | none => some (.normal, fr0, { st' with heap := st'.heap.set l (.loop { lo with state := 3 }) })
              | some e => some (e, fr0, { st' with heap := st'.heap.set l (.loop { lo with state := 3 }) })
            | _ => none
          | none => none
        else none
      | _ => none

def runOps (T : Tab) : Nat → List ROper → Fr → St → Option (Fr × St)
  | 0, _, _, _ => none
  | _ + 1, [], fr, st => some (fr, st)
  | n + 1, o :: r, fr, st =>
    match runOne T n o fr st with
    | some (v, st') => runOps T n r (fr.put o.dst v) st'
    | none => none

def runOpsS (T : Tab) : Nat → List ROper → Fr → St → List St → Option (Fr × List St)
  | 0, _, _, _, _ => none
  | _ + 1, [], fr, _, sts => some (fr, sts)
  | n + 1, o :: r, fr, st, sts =>
    match runOne T n o fr st with
    | some (v, st') => if loudD (isPure T) o.op then runOpsS T n r (fr.put o.dst v) st' (st' :: sts) else runOpsS T n r (fr.put o.dst v) st sts
    | none => none

/-- One operation (its guard asked). -/
def runOne (T : Tab) : Nat → ROper → Fr → St → Option (DV × St)
  | 0, _, _, _ => none
  | n + 1, o, fr, st =>
    match wantedD fr o.guard with
    | none => none
    | some false => some (.tuple [], st)
    | some true =>
      match o.op with
      | .call g args => callF T n g (args.map (X.ev fr)) st
      | .callv f args => callV T n (f.ev fr) (args.map (X.ev fr)) st
      | .callp f args =>
        match f.ev fr with
        | .fn g first captured => if isPure T g then callF T n g (first ++ args.map (X.ev fr) ++ captured) st else none
        | _ => none
      | op => stepD st fr op

/-- Each listed operation tells the same at each listed state. -/
def chkAll (T : Tab) : Nat → Fr → List ROper → List St → List (Nat × List Nat) → Bool
  | 0, _, _, _, _ => false
  | _ + 1, _, _, _, [] => true
  | n + 1, fr, ops, sts, (i, vs) :: r =>
    (match ops[i]? with
     | some o => chkOne T n fr o sts vs
     | none => false) && chkAll T n fr ops sts r

def chkOne (T : Tab) : Nat → Fr → ROper → List St → List Nat → Bool
  | 0, _, _, _, _ => false
  | _ + 1, _, _, _, [] => true
  | n + 1, fr, o, sts, j :: r =>
    (match sts[j]? with
     | some st => (match runOne T n o fr st, o.dst with | some (v, _), some d => DV.beq v (fr.get d) | _, _ => false)
     | none => false) && chkOne T n fr o sts r

def callF (T : Tab) : Nat → Nat → List DV → St → Option (DV × St)
  | 0, _, _, _ => none
  | n + 1, g, args, st =>
    match T g with
    | none => none
    | some (.prim p) => p args st
    | some (.pprim p) => (p args).map fun v => (v, st)
    | some (.code f) =>
      if f.pureF then
        match runC T n f.body (frame0 args 0) st.enter with
        | some (.exit _, _, _) => none
        | some (_, fr, st') =>
          match resD st' fr f.results with
          | some v => (exportT st st' v).map fun v' => (v', st)
          | none => none
        | none => none
      else
        match runC T n f.body (frame0 args 0) st with
        | some (.exit _, _, _) => none
        | some (_, fr, st') => (resD st' fr f.results).map fun v => (v, st')
        | none => none

def callV (T : Tab) : Nat → DV → List DV → St → Option (DV × St)
  | 0, _, _, _ => none
  | n + 1, f, args, st =>
    match f with
    | .fn g first captured => callF T n g (first ++ args ++ captured) st
    | .yield l =>
      match st.heap[l]? with
      | some (.loop lo) =>
        if st.base ≤ l ∧ args.length = lo.params.length then
          match runC T n lo.assign (setParams lo.fr lo.params args) st with
          | some (.normal, fr1, st1) =>
            match st1.heap[l]? with
            | some (.loop lo1) =>
              if lo1.state = 0 then
                match runC T n lo.body fr1 { st1 with heap := st1.heap.set l (.loop { lo1 with state := 1 }) } with
                | some (e, _, st2) =>
                  match st2.heap[l]? with
                  | some (.loop lo2) =>
                    match e with
                    | .normal => some (.bool true, { st2 with heap := st2.heap.set l (.loop { lo2 with state := 0, pending := none }) })
                    | e => some (.bool false, { st2 with heap := st2.heap.set l (.loop { lo2 with state := 2, pending := some e }) })
                  | _ => none
                | none => none
              else none
            | _ => none
          | _ => none
        else none
      | _ => none
    | _ => none
end

end Go.D
