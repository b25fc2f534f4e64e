/-
One operation, and a row of them.
-/
import Derived.Test.YtpmjmbpcdacamaaFwDCtl
namespace Go.D
open Go.RowKit

variable {P : Program} {fm : FM} {T : Tab}

theorem fen_fn (ro : Option Nat) (f : FuncId) : (fen ro).fn f := by cases ro <;> trivial
theorem fen_round (ro : Option Nat) : (fen ro).round = ro := by cases ro <;> rfl
theorem fen_depth (ro : Option Nat) : ((fen ro).depth.isSome = true → 1 ≤ 0) := by cases ro <;> (intro h; cases h)
theorem CallsIn.fen {f : FuncId} {args : Array Value} {w : World} {R : Ending → World → Prop} (ro : Option Nat) (h : CallsIn Fence.wide 0 P f args w R) : CallsIn (fen ro) 0 P f args w R := by
  cases ro with
  | none => exact h
  | some l => exact Go.CallsIn.inRound l h
theorem RoundIn.fen {l : Nat} {f : FuncId} {tmps : Array Value} {as bo : Code} {w : World} {R : Ending → World → Prop} (ro : Option Nat) (h : RoundIn Fence.wide 0 P l f tmps as bo w R) : RoundIn (fen ro) 0 P l f tmps as bo w R := by
  cases ro with
  | none => exact h
  | some l => exact h

theorem guard_rel {ops : Array Oper} {G : Gh} {fr : Fr} {a : Act} {r : ROper} {o : Oper} {b : Bool} (hg : GuardRel ops r.guard o.guard)
    (hr : ∀ t ∈ r.reads, Rel fm G (fr.get t) (a.tmps.getD t undef)) (hw : wantedD fr r.guard = some b) : Region.wanted o (yielded ops a.tmps) = b := by
  unfold GuardRel at hg
  unfold Region.wanted
  cases hr1 : r.guard with
  | none =>
    rw [hr1] at hg hw
    cases ho : o.guard with
    | none => simp only [wantedD, Option.some.injEq] at hw; simp [hw]
    | some x => rw [ho] at hg; exact hg.elim
  | some x =>
    obtain ⟨t, want⟩ := x
    rw [hr1] at hg hw
    cases ho : o.guard with
    | none => rw [ho] at hg; exact hg.elim
    | some y =>
      obtain ⟨j, want'⟩ := y
      rw [ho] at hg
      obtain ⟨rfl, hd⟩ := hg
      have hrel := hr t (by simp [ROper.reads, hr1])
      simp only [yielded, hd, Option.bind_some]
      simp only [wantedD] at hw
      rw [Array.getD_eq_getD_getElem?] at hrel
      generalize fr.get t = v at hw hrel
      cases hx : a.tmps[t]? with
      | none =>
        rw [hx] at hrel
        simp only [Option.getD_none] at hrel
        cases v <;> try (simp only [reduceCtorEq] at hw; done)
        · cases hrel
        · rename_i vs
          cases vs with
          | nil => cases hw; try rfl
          | cons _ _ => cases hw
      | some x =>
        rw [hx] at hrel
        simp only [Option.getD_some] at hrel
        cases v <;> try (simp only [reduceCtorEq] at hw; done)
        · cases hrel
          have hw : some (_ == want) = some b := hw
          rw [← Option.some.inj hw]
          rfl
        · rename_i vs
          cases vs with
          | nil => cases hrel; cases hw; rfl
          | cons _ _ => cases hw

theorem run_args {a : Act} {G : Gh} {fr : Fr} : ∀ {xs : List X} {os : List Operand}, XsRel fm xs os → (∀ t ∈ xs.flatMap X.reads, Rel fm G (fr.get t) (a.tmps.getD t undef)) →
    RelsA fm G (xs.map (X.ev fr)) (os.map a.eval).toArray := by
  intro xs os h hr
  refine ⟨by simp [h.1], fun i hi => ?_⟩
  have hi' : i < xs.length := by simpa using hi
  have ho : i < os.length := by rw [h.1]; exact hi'
  have hx := h.2 i xs[i] os[i] (by simp [hi']) (by simp [ho])
  have : Rel fm G (xs[i].ev fr) (a.eval os[i]) := by
    have hk : ∀ t ∈ xs[i].reads, Rel fm G (fr.get t) (a.tmps.getD t undef) := fun t ht => hr t (List.mem_flatMap.2 ⟨xs[i], by simp, ht⟩)
    generalize xs[i] = x at hx hk
    generalize os[i] = o at hx
    cases x with
    | t n => cases o <;> simp [XRel] at hx; subst hx; exact hk _ (by simp [X.reads])
    | c v => cases o <;> simp [XRel] at hx <;> exact hx G
    | f g =>
      cases o <;> simp [XRel] at hx
      exact .fn g [] [] _ #[] #[] hx rfl rfl (fun i hi => absurd hi (by simp)) (fun i hi => absurd hi (by simp))
  simpa [Array.getD, hi', ho] using this

theorem ev_rel {a : Act} {G : Gh} {fr : Fr} {x : X} {o : Operand} (hx : XRel fm x o) (hk : ∀ t ∈ x.reads, Rel fm G (fr.get t) (a.tmps.getD t undef)) : Rel fm G (x.ev fr) (a.eval o) := by
  cases x with
  | t n => cases o <;> simp [XRel] at hx; subst hx; exact hk _ (by simp [X.reads])
  | c v => cases o <;> simp [XRel] at hx <;> exact hx G
  | f g =>
    cases o <;> simp [XRel] at hx
    exact .fn g [] [] _ #[] #[] hx rfl rfl (fun i hi => absurd hi (by simp)) (fun i hi => absurd hi (by simp))

/-- From what an invocation comes to, to the walk behind it. -/
theorem wpIn_of_inv {o : Oper} {a : Act} {w : World} {ro : Option Nat} {K : Act → World → Prop} {Q : Exit → Act → World → Prop} {c : Call} (ho : o.op = .call c)
    {d : Deferred} {R : Value → World → Prop} (hd : (resolve a.eval c o.type).run P w = .ok d w) (h : InvOk P d.target d.args w R) (hK : ∀ x w', R x w' → K (a.put o.dst x) w') :
    o.wpIn (fen ro) 0 P a w K Q := by
  refine ⟨fun f _ => fen_fn ro f, ?_⟩
  rw [Oper.semAt_eq _ _ _ (by intro c' hc; rw [ho] at hc; cases hc)]
  unfold execOp
  simp only [ho, Sem.run_bind, hd, Result.andThen_ok]
  rcases h with ⟨f', a', h1, h2⟩ | ⟨x, w', h1, h2⟩ | ⟨l, f, tmps, as, bo, w1, h1, h2⟩
  · rw [h1]
    simp only [Oper.uponIn]
    refine ⟨fen_depth ro, (Go.CallsIn.mono (CallsIn.fen ro h2) ?_)⟩
    rintro e w'' ⟨x, rfl, hx⟩
    exact hK _ _ hx
  · rw [h1]
    exact hK _ _ h2
  · rw [h1]
    simp only [Oper.uponIn]
    refine ⟨fen_depth ro, (Go.RoundIn.mono (RoundIn.fen ro h2) ?_)⟩
    rintro e w'' ⟨x, rfl, hx⟩
    exact hK _ _ hx

theorem inv_of_fn {f : FuncId} {args : Array Value} {w : World} {R : Value → World → Prop} (h : FnOk P f args w R) : InvOk P (.fn (.func f) #[]) args w R := by
  have e : invoke (.fn (.func f) #[]) args = callFunc f args := by simp [invoke]
  rcases h with ⟨f', h1, h2⟩ | ⟨x, w', h1, h2⟩
  · exact .inl ⟨f', args, by rw [e]; exact h1, h2⟩
  · exact .inr (.inl ⟨x, w', by rw [e]; exact h1, h2⟩)

theorem mapL (as : Array Operand) (f : Operand → Value) : (as.toList.map f).toArray = as.map f := by rw [← Array.toList_map]

theorem RelsA.append {G : Gh} {vs us : List DV} {cs ds : Array Value} (h : RelsA fm G vs cs) (k : RelsA fm G us ds) : RelsA fm G (vs ++ us) (cs ++ ds) := by
  refine ⟨by simp [h.1, k.1], fun i hi => ?_⟩
  by_cases e : i < vs.length
  · have := h.2 i e
    rw [List.getElem_append_left e]
    rw [Array.getD_eq_getD_getElem?] at this ⊢
    rw [Array.getElem?_append_left (by rw [h.1]; exact e)]
    exact this
  · have hi2 : i - vs.length < us.length := by simp at hi; omega
    have := k.2 (i - vs.length) hi2
    rw [List.getElem_append_right (by omega)]
    rw [Array.getD_eq_getD_getElem?] at this ⊢
    rw [Array.getElem?_append_right (by rw [h.1]; omega), h.1]
    exact this

/-- A function value: what it comes to is what its function comes to. -/
theorem inv_of_fnval {G : Gh} {g : Nat} {first captured : List DV} {x0 : Value} {args : List DV} {args' : Array Value} {w : World} {R : Value → World → Prop} (hv : Rel fm G (.fn g first captured) x0)
    (hargs : RelsA fm G args args') (h : ∀ f as, fm g = some f → RelsA fm G (first ++ args ++ captured) as → FnOk P f as w R) :
    ∃ d, (Deferred.ofValue x0 args').run P w = .ok d w ∧ InvOk P d.target d.args w R := by
  cases hv with
  | fn _ _ _ f fs cs hf h1 h2 hfs hcs =>
    refine ⟨{ target := .fn (.func f) cs, args := fs ++ args' }, by simp [Deferred.ofValue], ?_⟩
    have hall : RelsA fm G (first ++ args ++ captured) (fs ++ args' ++ cs) := (RelsA.append (RelsA.append ⟨h1, hfs⟩ hargs) ⟨h2, hcs⟩)
    have e : invoke (.fn (.func f) cs) (fs ++ args') = callFunc f (fs ++ args' ++ cs) := by simp [invoke]
    rcases h f _ hf hall with ⟨f', h1, h2⟩ | ⟨x, w', h1, h2⟩
    · exact .inl ⟨f', _, by rw [e]; exact h1, h2⟩
    · exact .inr (.inl ⟨x, w', by rw [e]; exact h1, h2⟩)

theorem callIsPure_state {n : Nat} {g : Nat} {args : List DV} {st st' : St} {v : DV} (hp : isPure T g = true) (h : callF T n g args st = some (v, st')) : st' = st := by
  cases n with
  | zero => simp [callF] at h
  | succ n =>
    simp only [callF] at h
    unfold isPure at hp
    cases hT : T g with
    | none => rw [hT] at hp; cases hp
    | some d =>
      rw [hT] at hp h
      cases d with
      | prim p => cases hp
      | pprim p =>
        simp only [Option.map_eq_some_iff] at h
        obtain ⟨_, _, h⟩ := h
        cases h; rfl
      | code F =>
        simp only at hp h
        simp only [hp, if_true] at h
        split at h
        · cases h
        · split at h
          · simp only [Option.map_eq_some_iff] at h
            obtain ⟨_, _, h⟩ := h
            cases h; rfl
          · cases h
        · cases h

/-- An operation that runs no code, walked. -/
theorem plain_op {op : ROp} {o : Oper} {fr : Fr} {st : St} {v : DV} {st' : St} {G : Gh} {w0 w : World} {a : Act} {ro : Option Nat}
    {K : Act → World → Prop} {Q : Exit → Act → World → Prop} (hop : OpSimAll P fm op o) (hrun : stepD st fr op = some (v, st')) (hs : SimT P fm T G w0 st w)
    (hro : ∀ t ∈ op.reads, Rel fm G (fr.get t) (a.tmps.getD t undef)) (hnd : ∀ c, o.op ≠ .defer c)
    (hK : ∀ x G' w', G.le G' → SimT P fm T G' w0 st' w' → Rel fm G' v x → K (a.put o.dst x) w') : o.wpIn (fen ro) 0 P a w K Q := by
  have hk : FrRel fm G (fr.keep op.reads) a.tmps := by
    intro t
    rw [Fr.get_keep_if]
    split
    · exact hro t (by assumption)
    · exact .undef _
  have hrun' : stepD st (fr.keep op.reads) op = some (v, st') := by
    rw [← hrun]
    exact stepD_congr op fun t ht => by rw [Fr.get_keep_if, if_pos ht]
  obtain ⟨G', w', x, nx, h1, h2, h3, h4, h5⟩ := hop _ G w0 st w _ a v st' hs hk hrun'
  refine ⟨fun f _ => fen_fn ro f, ?_⟩
  rw [Oper.semAt_eq _ _ _ hnd, h1]
  rcases h2 with rfl | ⟨rfl, rfl⟩
  · exact hK _ _ _ h3 h4 h5
  · exact hK _ _ _ h3 h4 h5

/-- One operation, out of what is known at fewer steps. -/
theorem one_succ (n : Nat) (hn : Good P fm T n) {N : Nat} {ops : Array Oper} {r : ROper} {o : Oper} {fr : Fr} {st : St} {v : DV} {st' : St} {G : Gh} {w0 w : World} {a : Act} {ro : Option Nat}
    {K : Act → World → Prop} {Q : Exit → Act → World → Prop} (hrel : OperRel P fm N ops r o) (hrun : runOne T (n + 1) r fr st = some (v, st')) (hs : SimT P fm T G w0 st w)
    (hr : ∀ t ∈ r.reads, Rel fm G (fr.get t) (a.tmps.getD t undef)) (hK : ∀ x G' w', G.le G' → SimT P fm T G' w0 st' w' → Rel fm G' v x → K (a.put o.dst x) w') :
    (if Region.wanted o (yielded ops a.tmps) then o.wpIn (fen ro) 0 P a w K Q else (∀ f, o.about P w a.eval = some f → (fen ro).fn f) ∧ K (a.put o.dst undef) w) := by
  obtain ⟨hdst, hlt, hguard, hnd, hop⟩ := hrel
  simp only [runOne] at hrun
  have hro : ∀ t ∈ r.op.reads, Rel fm G (fr.get t) (a.tmps.getD t undef) := fun t ht => hr t (by simp [ROper.reads, ht])
  split at hrun
  · cases hrun
  · rename_i hw
    rw [guard_rel hguard hr hw]
    injection hrun with hrun
    injection hrun with h1 h2
    subst h1; subst h2
    simp only [if_false, Bool.false_eq_true]
    exact ⟨fun f _ => fen_fn ro f, hK _ G w (.refl G) hs (.tuple [] #[] rfl (fun i hi => absurd hi (by simp)))⟩
  · rename_i hw
    rw [guard_rel hguard hr hw]
    simp only [if_true]
    cases hop' : r.op
    case call g args =>
      rw [hop'] at hrun hop hro
      obtain ⟨c, f, ho, hc, hf, hx⟩ := hop
      have hargs := run_args (a := a) hx hro
      obtain ⟨hfn, _⟩ := hn.fn hf hrun hs hargs
      have hd : (resolve a.eval c o.type).run P w = .ok { target := .fn (.func f) #[], args := (c.args.toList.map a.eval).toArray } w := by
        unfold resolve
        rw [mapL]
        simp [hc, Act.eval, Deferred.ofValue, Sem.run_pure]
      exact wpIn_of_inv ho hd (inv_of_fn hfn) fun x w' ⟨G', h1, h2, h3⟩ => hK x G' w' h1 h2 h3
    case callv f args =>
      rw [hop'] at hrun hop hro
      obtain ⟨c, fo, ho, hc, hf, hx⟩ := hop
      have hargs := run_args (a := a) hx fun t ht => hro t (by simp only [ROp.reads, List.mem_append]; exact .inr ht)
      have hfv := ev_rel (a := a) hf fun t ht => hro t (by simp only [ROp.reads, List.mem_append]; exact .inl ht)
      obtain ⟨d, hd, hinv⟩ := hn.val hfv hrun hs hargs
      have hd' : (resolve a.eval c o.type).run P w = .ok d w := by
        have e : (resolve a.eval c o.type) = Deferred.ofValue (a.eval fo) (c.args.map a.eval) := by unfold resolve; simp only [hc]
        rw [e, ← mapL]; exact hd
      exact wpIn_of_inv ho hd' hinv fun x w' ⟨G', h1, h2, h3⟩ => hK x G' w' h1 h2 h3
    case callp f args =>
      rw [hop'] at hrun hop hro
      obtain ⟨c, fo, ho, hc, hf, hx⟩ := hop
      have hargs := run_args (a := a) hx fun t ht => hro t (by simp only [ROp.reads, List.mem_append]; exact .inr ht)
      have hfv := ev_rel (a := a) hf fun t ht => hro t (by simp only [ROp.reads, List.mem_append]; exact .inl ht)
      simp only at hrun
      generalize f.ev fr = v0 at hrun hfv
      cases v0 <;> simp only [reduceCtorEq] at hrun
      rename_i g first captured
      split at hrun
      · obtain ⟨d, hd, hinv⟩ := inv_of_fnval hfv hargs fun f' as hf' has => (hn.fn hf' hrun hs has).1
        have hd' : (resolve a.eval c o.type).run P w = .ok d w := by
          have e : (resolve a.eval c o.type) = Deferred.ofValue (a.eval fo) (c.args.map a.eval) := by unfold resolve; simp only [hc]
          rw [e, ← mapL]; exact hd
        exact wpIn_of_inv ho hd' hinv fun x w' ⟨G', h1, h2, h3⟩ => hK x G' w' h1 h2 h3
      · cases hrun
    all_goals
      rw [hop'] at hrun hop hro
      simp only at hrun
      exact plain_op hop hrun hs hro hnd hK

end Go.D
