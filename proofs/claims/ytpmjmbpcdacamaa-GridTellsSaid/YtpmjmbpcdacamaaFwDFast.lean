/-
The same runs, laid out so that a kernel unfolds no more than it needs.
-/
import Derived.Test.YtpmjmbpcdacamaaFwDRun
namespace Go.D

structure Rec where
  C : RC → Fr → St → Option (Ex × Fr × St)
  O : List ROper → Fr → St → Option (Fr × St)
  S : List ROper → Fr → St → List St → Option (Fr × List St)
  N : ROper → Fr → St → Option (DV × St)
  A : Fr → List ROper → List St → List (Nat × List Nat) → Bool
  K : Fr → ROper → List St → List Nat → Bool
  F : Nat → List DV → St → Option (DV × St)
  V : DV → List DV → St → Option (DV × St)

def runCR (T : Tab) (R : Rec) : RC → Fr → St → Option (Ex × Fr × St)
  | c, fr, st =>
    match c with
    | .skip => some (.normal, fr, st)
    | .region ops live => match R.O ops fr st with | some (fr', st') => some (.normal, fr'.keep live, st') | none => none
    | .dregion ops hs chk live =>
      match prepH fr hs st ops with
      | some (st1, ops2) =>
        match R.S ops2 fr st1 [st1] with
        | some (fr', sts) => if R.A fr' ops2 sts.reverse chk then (match sts with | st' :: _ => some (.normal, fr'.keep live, st') | [] => none) else none
        | none => none
      | none => none
    | .seq a b =>
      match R.C a fr st with
      | some (.normal, fr', st') => R.C b fr' st'
      | r => r
    | .cond x a b => match x.ev fr with | .bool true => R.C a fr st | .bool false => R.C b fr st | _ => none
    | .block id a =>
      match R.C a fr st with
      | some (.exit id', fr', st') => if id' = id then some (.normal, fr', st') else some (.exit id', fr', st')
      | r => r
    | .loop live a =>
      match R.C a (fr.keep live) st with
      | some (.normal, fr', st') => R.C (.loop live a) fr' st'
      | r => r
    | .exit id => some (.exit id, fr, st)
    | .ret => some (.ret, fr, st)
    | .stuck => none
    | .rfunc f params assign body live =>
      let l := st.heap.length
      let fr0 := fr.keep live
      match f.ev fr0 with
      | .fn g first captured =>
        if isCode T g then
          match R.F g (first ++ [.yield l] ++ captured) (st.push (.loop ⟨fr0, params, assign, body, 0, none⟩)) with
          | some (_, st') =>
            match st'.heap[l]? with
            | some (.loop lo) =>
              if lo.state = 1 then none else
              match lo.pending with
              | none => some (.normal, fr0, { st' with heap := st'.heap.set l (.loop { lo with state := 3 }) })
              | some e => some (e, fr0, { st' with heap := st'.heap.set l (.loop { lo with state := 3 }) })
            | _ => none
          | none => none
        else none
      | _ => none

def runOpsR (_T : Tab) (R : Rec) : List ROper → Fr → St → Option (Fr × St)
  | [], fr, st => some (fr, st)
  | o :: r, fr, st =>
    match R.N o fr st with
    | some (v, st') => R.O r (fr.put o.dst v) st'
    | none => none

def runOpsSR (T : Tab) (R : Rec) : List ROper → Fr → St → List St → Option (Fr × List St)
  | [], fr, _, sts => some (fr, sts)
  | o :: r, fr, st, sts =>
    match R.N o fr st with
    | some (v, st') => if loudD (isPure T) o.op then R.S r (fr.put o.dst v) st' (st' :: sts) else R.S r (fr.put o.dst v) st sts
    | none => none

def runOneR (T : Tab) (R : Rec) : ROper → Fr → St → Option (DV × St)
  | o, fr, st =>
    match wantedD fr o.guard with
    | none => none
    | some false => some (.tuple [], st)
    | some true =>
      match o.op with
      | .call g args => R.F g (args.map (X.ev fr)) st
      | .callv f args => R.V (f.ev fr) (args.map (X.ev fr)) st
      | .callp f args =>
        match f.ev fr with
        | .fn g first captured => if isPure T g then R.F g (first ++ args.map (X.ev fr) ++ captured) st else none
        | _ => none
      | op => stepD st fr op

def chkAllR (_T : Tab) (R : Rec) : Fr → List ROper → List St → List (Nat × List Nat) → Bool
  | _, _, _, [] => true
  | fr, ops, sts, (i, vs) :: r =>
    (match ops[i]? with
     | some o => R.K fr o sts vs
     | none => false) && R.A fr ops sts r

def chkOneR (_T : Tab) (R : Rec) : Fr → ROper → List St → List Nat → Bool
  | _, _, _, [] => true
  | fr, o, sts, j :: r =>
    (match sts[j]? with
     | some st => (match R.N o fr st, o.dst with | some (v, _), some d => DV.beq v (fr.get d) | _, _ => false)
     | none => false) && R.K fr o sts r

def callFR (T : Tab) (R : Rec) : Nat → List DV → St → Option (DV × St)
  | g, args, st =>
    match T g with
    | none => none
    | some (.prim p) => p args st
    | some (.pprim p) => (p args).map fun v => (v, st)
    | some (.code f) =>
      if f.pureF then
        match R.C f.body (frame0 args 0) st.enter with
        | some (.exit _, _, _) => none
        | some (_, fr, st') =>
          match resD st' fr f.results with
          | some v => (exportT st st' v).map fun v' => (v', st)
          | none => none
        | none => none
      else
        match R.C f.body (frame0 args 0) st with
        | some (.exit _, _, _) => none
        | some (_, fr, st') => (resD st' fr f.results).map fun v => (v, st')
        | none => none

def callVR (_T : Tab) (R : Rec) : DV → List DV → St → Option (DV × St)
  | f, args, st =>
    match f with
    | .fn g first captured => R.F g (first ++ args ++ captured) st
    | .yield l =>
      match st.heap[l]? with
      | some (.loop lo) =>
        if st.base ≤ l ∧ args.length = lo.params.length then
          match R.C lo.assign (setParams lo.fr lo.params args) st with
          | some (.normal, fr1, st1) =>
            match st1.heap[l]? with
            | some (.loop lo1) =>
              if lo1.state = 0 then
                match R.C lo.body fr1 { st1 with heap := st1.heap.set l (.loop { lo1 with state := 1 }) } with
                | some (e, _, st2) =>
                  match st2.heap[l]? with
                  | some (.loop lo2) =>
                    match e with
                    | .normal => some (.bool true, { st2 with heap := st2.heap.set l (.loop { lo2 with state := 0, pending := none }) })
                    | e => some (.bool false, { st2 with heap := st2.heap.set l (.loop { lo2 with state := 2, pending := some e }) })
                  | _ => none
                | none => none
              else none
            | _ => none
          | _ => none
        else none
      | _ => none
    | _ => none

def failR : Rec := ⟨fun _ _ _ => none, fun _ _ _ => none, fun _ _ _ _ => none, fun _ _ _ => none, fun _ _ _ _ => false, fun _ _ _ _ => false, fun _ _ _ => none, fun _ _ _ => none⟩

def stepR (T : Tab) (R : Rec) : Rec := ⟨runCR T R, runOpsR T R, runOpsSR T R, runOneR T R, chkAllR T R, chkOneR T R, callFR T R, callVR T R⟩

def fastR (T : Tab) : Nat → Rec
  | 0 => failR
  | n + 1 => stepR T (fastR T n)

def recOf (T : Tab) (n : Nat) : Rec := ⟨runC T n, runOps T n, runOpsS T n, runOne T n, chkAll T n, chkOne T n, callF T n, callV T n⟩

theorem rec_zero (T : Tab) : recOf T 0 = failR := by
  unfold recOf failR
  rw [Rec.mk.injEq]
  refine ⟨?_, ?_, ?_, ?_, ?_, ?_, ?_, ?_⟩
  · funext c fr st; cases c <;> simp [runC]
  · funext a b c; simp [runOps]
  · funext a b c d; simp [runOpsS]
  · funext a b c; simp [runOne]
  · funext a b c d; simp [chkAll]
  · funext a b c d; simp [chkOne]
  · funext a b c; simp [callF]
  · funext a b c; simp [callV]

theorem rec_succ (T : Tab) (n : Nat) : recOf T (n + 1) = stepR T (recOf T n) := by
  unfold recOf stepR
  rw [Rec.mk.injEq]
  refine ⟨?_, ?_, ?_, ?_, ?_, ?_, ?_, ?_⟩
  · funext c fr st; cases c <;> first | rfl | (simp only [runC, runCR]; done) | (simp only [runC, runCR]; rfl)
  · funext a b c; cases a <;> first | rfl | (simp only [runOps, runOpsR]; done) | (simp only [runOps, runOpsR]; rfl)
  · funext a b c d; cases a <;> first | rfl | (simp only [runOpsS, runOpsSR]; done) | (simp only [runOpsS, runOpsSR]; rfl)
  · funext a b c; first | rfl | (simp only [runOne, runOneR]; done) | (simp only [runOne, runOneR]; rfl)
  · funext a b c d; cases d <;> first | rfl | (simp only [chkAll, chkAllR]; done) | (simp only [chkAll, chkAllR]; rfl)
  · funext a b c d; cases d <;> first | rfl | (simp only [chkOne, chkOneR]; done) | (simp only [chkOne, chkOneR]; rfl)
  · funext a b c; first | rfl | (simp only [callF, callFR]; done) | (simp only [callF, callFR]; rfl)
  · funext a b c; first | rfl | (simp only [callV, callVR]; done) | (simp only [callV, callVR]; rfl)

theorem fast_eq (T : Tab) : ∀ n, fastR T n = recOf T n
  | 0 => (rec_zero T).symm
  | n + 1 => by rw [rec_succ, ← fast_eq T n]; rfl

theorem callF_fast {T : Tab} {n g : Nat} {args : List DV} {st : St} {r : Option (DV × St)} (h : (fastR T n).F g args st = r) : callF T n g args st = r := by
  rw [fast_eq] at h
  exact h

end Go.D
