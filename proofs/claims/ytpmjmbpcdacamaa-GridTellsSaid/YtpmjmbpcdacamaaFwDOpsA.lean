/-
Operations on values.
-/
import Derived.Test.YtpmjmbpcdacamaaFwDGood
namespace Go.D
open Go.RowKit

variable {P : Program} {fm : FM}

theorem andThen_value {w w' : World} {s : Sem Value} {x : Value} (h : s.run P w = .ok x w') : (do pure (Next.value (← s)) : Sem Next).run P w = .ok (.value x) w' := by
  simp [h]

theorem andThen_skip {w w' : World} {s : Sem Unit} (h : s.run P w = .ok () w') : (do s; pure Next.skip : Sem Next).run P w = .ok .skip w' := by
  simp [h]

/-- An operation that reads alone. -/
theorem opsim_read {ro : ROp} {o : Oper} (h : ∀ (CR : Nat → RC → Code → Prop) (G : Gh) (w0 : World) (st : St) (w : World) (fr : Fr) (a : Act) (v : DV) (st' : St), Sim fm CR G w0 st w → FrRel fm G fr a.tmps → stepD st fr ro = some (v, st') →
    st' = st ∧ ∃ x, (execOp a.eval o).run P w = .ok (.value x) w ∧ Rel fm G v x) : OpSimAll P fm ro o := by
  intro CR G w0 st w fr a v st' hs hf hrun
  obtain ⟨rfl, x, h1, h2⟩ := h CR G w0 st w fr a v st' hs hf hrun
  exact ⟨G, w, x, _, h1, .inl rfl, .refl G, hs, h2⟩

theorem opsim_mv {x : X} {xo : Operand} {o : Oper} (ho : o.op = .move xo ∨ o.op = .assign xo) (hx : XRel fm x xo) : OpSimAll P fm (.mv x) o := by
  refine opsim_read fun CR G w0 st w fr a v st' hs hf hrun => ?_
  simp only [stepD, Option.some.injEq, Prod.mk.injEq] at hrun
  obtain ⟨rfl, rfl⟩ := hrun
  refine ⟨rfl, a.eval xo, ?_, hx.ev hf⟩
  rcases ho with ho | ho <;> (unfold execOp; simp only [ho]; rfl)

theorem opsim_pick {c x y : X} {co xo yo : Operand} {o : Oper} (ho : o.op = .pick co xo yo) (hc : XRel fm c co) (hx : XRel fm x xo) (hy : XRel fm y yo) : OpSimAll P fm (.pick c x y) o := by
  refine opsim_read fun CR G w0 st w fr a v st' hs hf hrun => ?_
  simp only [stepD] at hrun
  have hcv := hc.ev (a := a) hf
  split at hrun
  · rename_i t ht
    rw [ht] at hcv
    simp only [Option.some.injEq, Prod.mk.injEq] at hrun
    obtain ⟨rfl, rfl⟩ := hrun
    refine ⟨rfl, if t then a.eval xo else a.eval yo, ?_, ?_⟩
    · unfold execOp
      simp only [ho]
      generalize a.eval co = cv at hcv
      cases hcv
      cases t <;> simp [asBool]
    · cases t
      · exact hy.ev hf
      · exact hx.ev hf
  · cases hrun

theorem opsim_nilchk {x : X} {xo : Operand} {o : Oper} (ho : o.op = .nilCheck xo) (hx : XRel fm x xo) : OpSimAll P fm (.nilchk x) o := by
  refine opsim_read fun CR G w0 st w fr a v st' hs hf hrun => ?_
  simp only [stepD] at hrun
  have hxv := hx.ev (a := a) hf
  generalize x.ev fr = v0 at hrun hxv
  have key : v0 = v ∧ st' = st ∧ v0 ≠ .nilp ∧ v0 ≠ .niliface ∧ v0 ≠ .nilfn ∧ v0 ≠ .undef ∧ (∀ t u, v0 ≠ .iface t u) ∧ (∀ g a b, v0 ≠ .fn g a b) ∧ (∀ l, v0 ≠ .yield l) := by
    cases v0 <;> simp only [reduceCtorEq, Option.some.injEq, Prod.mk.injEq] at hrun <;> (obtain ⟨h1, h2⟩ := hrun; subst h1; subst h2; simp)
  obtain ⟨rfl, rfl, k1, k2, k3, k4, k5, k6, k7⟩ := key
  refine ⟨rfl, a.eval xo, ?_, hxv⟩
  unfold execOp
  simp only [ho]
  generalize a.eval xo = y at hxv
  cases hxv <;> first | rfl | exact absurd rfl k1 | exact absurd rfl k2 | exact absurd rfl k3 | exact absurd rfl k4 | exact absurd rfl (k5 _ _) | exact absurd rfl (k6 _ _ _) | exact absurd rfl (k7 _)

theorem opsim_i2i {k : IntKind} {x : X} {xo : Operand} {o : Oper} {s d : TypeId} {e : TypeDesc} (ho : o.op = .convert s d xo) (hs0 : P.underlying s = some e) (hd : P.underlying d = some (.int k)) (hx : XRel fm x xo) : OpSimAll P fm (.i2i k x) o := by
  refine opsim_read fun CR G w0 st w fr a v st' hs hf hrun => ?_
  simp only [stepD] at hrun
  have hxv := hx.ev (a := a) hf
  split at hrun
  · rename_i k0 n hn
    rw [hn] at hxv
    simp only [Option.some.injEq, Prod.mk.injEq] at hrun
    obtain ⟨rfl, rfl⟩ := hrun
    refine ⟨rfl, .int k (k.wrap n), ?_, .int _ _⟩
    unfold execOp
    simp only [ho]
    generalize a.eval xo = y at hxv
    cases hxv
    exact andThen_value (by unfold convert; simp [run_underlying hs0, run_underlying hd, Conv.intToInt])
  · cases hrun

theorem opsim_same {x : X} {xo : Operand} {o : Oper} {s d : TypeId} {e : TypeDesc} (ho : o.op = .convert s d xo) (hs0 : P.underlying s = some e) (hd : P.underlying d = some .string) (hx : XRel fm x xo) : OpSimAll P fm (.same x) o := by
  refine opsim_read fun CR G w0 st w fr a v st' hs hf hrun => ?_
  simp only [stepD] at hrun
  have hxv := hx.ev (a := a) hf
  split at hrun
  · rename_i l hl
    rw [hl] at hxv
    simp only [Option.some.injEq, Prod.mk.injEq] at hrun
    obtain ⟨rfl, rfl⟩ := hrun
    generalize hy : a.eval xo = y at hxv
    refine ⟨rfl, y, ?_, hxv⟩
    unfold execOp
    simp only [ho, hy]
    cases hxv
    refine andThen_value ?_
    unfold convert
    simp [run_underlying hs0, run_underlying hd]
  · cases hrun

theorem opsim_mkfn {g : Nat} {f : FuncId} {fs cs : List X} {fo co : Array Operand} {o : Oper} (ho : o.op = .makeFunc (.func f) fo co) (hg : fm g = some f) (h1 : XsRel fm fs fo.toList) (h2 : XsRel fm cs co.toList) : OpSimAll P fm (.mkfn g fs cs) o := by
  refine opsim_read fun CR G w0 st w fr a v st' hs hf hrun => ?_
  simp only [stepD, Option.some.injEq, Prod.mk.injEq] at hrun
  obtain ⟨rfl, rfl⟩ := hrun
  have r1 := run_args (a := a) h1 (fun t _ => hf t)
  have r2 := run_args (a := a) h2 (fun t _ => hf t)
  rw [mapL] at r1 r2
  refine ⟨rfl, .func (.func f) (fo.map a.eval) (co.map a.eval), ?_, .fn g _ _ f _ _ hg r1.1 r2.1 r1.2 r2.2⟩
  unfold execOp
  simp only [ho]
  exact andThen_value rfl

theorem opsim_extract {x : X} {xo : Operand} {o : Oper} {i : Nat} (ho : o.op = .extract xo i) (hx : XRel fm x xo) : OpSimAll P fm (.extract x i) o := by
  refine opsim_read fun CR G w0 st w fr a v st' hs hf hrun => ?_
  simp only [stepD] at hrun
  have hxv := hx.ev (a := a) hf
  split at hrun
  · rename_i vs hvs
    rw [hvs] at hxv
    simp only [Option.map_eq_some_iff] at hrun
    obtain ⟨u, hu, hrun⟩ := hrun
    cases hrun
    obtain ⟨hlt, rfl⟩ := List.getElem?_eq_some_iff.1 hu
    generalize hy : a.eval xo = y at hxv
    cases hxv with
    | tuple _ cs hl hc =>
      refine ⟨rfl, cs.getD i undef, ?_, hc i hlt⟩
      unfold execOp
      simp only [ho]
      refine andThen_value ?_
      rw [hy]
      unfold Instr.extract
      have : i < cs.size := by omega
      simp [this]
  · cases hrun

theorem opsim_iface {x : X} {xo : Operand} {o : Oper} {t : TypeId} {d : TypeDesc} (ho : o.op = .makeInterface t xo) (hx : XRel fm x xo) (hd : P.underlying t = some d) (hni : (match d with | .interface _ => false | _ => true) = true) : OpSimAll P fm (.iface t x) o := by
  refine opsim_read fun CR G w0 st w fr a v st' hs hf hrun => ?_
  simp only [stepD, Option.some.injEq, Prod.mk.injEq] at hrun
  obtain ⟨rfl, rfl⟩ := hrun
  refine ⟨rfl, .iface t (a.eval xo), ?_, .iface _ _ _ (hx.ev hf)⟩
  unfold execOp
  simp only [ho]
  refine andThen_value ?_
  unfold Instr.makeInterface
  simp only [Sem.run_bind, run_underlying hd, Result.andThen_ok]
  cases d <;> first | rfl | simp at hni

/-- Two values at which '==' has no guard. -/
def eqPlain (x y : Value) : Bool := match x, y with | .nilIface, .nilIface => false | .agg _, .agg _ => false | _, _ => true

theorem run_eqGuard_plain {op : BinOp} {t : TypeId} {xo yo : Operand} {x y : Value} {w : World} (h : eqPlain x y = true) : (eqGuard op t xo yo x y).run P w = .ok () w := by
  unfold eqGuard
  have key : (match x, y with
      | .nilIface, .nilIface =>
        if (xo matches .const _) || (yo matches .const _) then (pure () : Sem Unit) else do
          if ← Op.eqGuardIn Op.maxDepth t x y then unsupported (.noEntry "binop/eql: two nil values of an interface type with methods, neither of them the literal nil")
      | .agg _, .agg _ => do
        if !(← program).eqGuardType (← program).depth t then pure () else
          if ← Op.eqGuardIn Op.maxDepth t x y then unsupported (.noEntry "binop/eql: two nil values of an interface type with methods, in a part of a struct or an array")
      | _, _ => pure ()).run P w = .ok () w := by
    unfold eqPlain at h
    split
    · simp at h
    · simp at h
    · rfl
  cases op <;> first | rfl | exact key

theorem run_bits {op : BinOp} {k : IntKind} {a b n : Int} {w : World} (h : bitsD op k a b = some n) : (Op.intBits op k a b).run P w = .ok (.int k n) w := by
  unfold bitsD at h
  unfold Op.intBits
  cases op <;> simp only [reduceCtorEq, Option.some.injEq] at h <;> (subst h; rfl)

theorem run_intBin {op : BinOp} {k : IntKind} {a b : Int} {v : DV} {w : World} {t : TypeId} (h : intBinD op k a b = some v) : ∃ x, (binOp op t (.int k a) (.int k b)).run P w = .ok x w ∧ ∀ G, Rel fm G v x := by
  cases op <;> simp only [intBinD, Option.some.injEq, reduceCtorEq] at h
  case add => subst h; exact ⟨_, by simp [binOp, Op.intArith], fun G => .int _ _⟩
  case sub => subst h; exact ⟨_, by simp [binOp, Op.intArith], fun G => .int _ _⟩
  case mul => subst h; exact ⟨_, by simp [binOp, Op.intArith], fun G => .int _ _⟩
  case quo =>
    split at h
    · cases h
    · rename_i hb
      injection h with h; subst h
      exact ⟨_, by simp [binOp, Op.intDiv, hb], fun G => .int _ _⟩
  case rem =>
    split at h
    · cases h
    · rename_i hb
      injection h with h; subst h
      exact ⟨_, by simp [binOp, Op.intDiv, hb], fun G => .int _ _⟩
  case and => simp only [Option.map_eq_some_iff] at h; obtain ⟨n, h, rfl⟩ := h; exact ⟨_, by simp only [binOp, ne_eq, not_true_eq_false, if_false]; exact run_bits h, fun G => .int _ _⟩
  case or => simp only [Option.map_eq_some_iff] at h; obtain ⟨n, h, rfl⟩ := h; exact ⟨_, by simp only [binOp, ne_eq, not_true_eq_false, if_false]; exact run_bits h, fun G => .int _ _⟩
  case xor => simp only [Option.map_eq_some_iff] at h; obtain ⟨n, h, rfl⟩ := h; exact ⟨_, by simp only [binOp, ne_eq, not_true_eq_false, if_false]; exact run_bits h, fun G => .int _ _⟩
  case andNot => simp only [Option.map_eq_some_iff] at h; obtain ⟨n, h, rfl⟩ := h; exact ⟨_, by simp only [binOp, ne_eq, not_true_eq_false, if_false]; exact run_bits h, fun G => .int _ _⟩
  all_goals (subst h; exact ⟨_, by simp only [binOp, ne_eq, not_true_eq_false, if_false, Op.intCmp]; rfl, fun G => .bool _⟩)

theorem run_shift {op : BinOp} {k yk : IntKind} {a b : Int} {v : DV} {w : World} {t : TypeId} (h : shiftD op k a b = some v) : ∃ x, (binOp op t (.int k a) (.int yk b)).run P w = .ok x w ∧ ∀ G, Rel fm G v x := by
  unfold shiftD at h
  split at h
  · cases h
  · rename_i hb
    cases op <;> simp only [Option.some.injEq, reduceCtorEq] at h
    · subst h; exact ⟨_, by simp only [binOp, Op.shift, if_neg hb]; rfl, fun G => .int _ _⟩
    · subst h; exact ⟨_, by simp only [binOp, Op.shift, if_neg hb]; rfl, fun G => .int _ _⟩

theorem toList_eq (s : ByteArray) : s.toList = s.data.toList := ByteArray.toList_eq s

theorem run_strBin {op : BinOp} {x y : ByteArray} {v : DV} {w : World} {t : TypeId} (h : strBinD op x.data.toList y.data.toList = some v) : ∃ z, (binOp op t (.string x) (.string y)).run P w = .ok z w ∧ ∀ G, Rel fm G v z := by
  cases op <;> simp only [strBinD, Option.some.injEq, reduceCtorEq] at h
  case add =>
    split at h
    · rename_i hl
      injection h with h; subst h
      refine ⟨.string (x ++ y), ?_, fun G => .str _ _ (by simp)⟩
      have : ¬ (((x.size + y.size : Nat) : Int) > IntKind.i64.max) := by
        have h1 : x.size = x.data.toList.length := by rw [Array.length_toList]; rfl
        have h2 : y.size = y.data.toList.length := by rw [Array.length_toList]; rfl
        have : IntKind.i64.max = 9223372036854775807 := by decide
        omega
      simp only [binOp, Op.stringOp, if_neg this]
      rfl
    · cases h
  all_goals
    subst h
    refine ⟨_, by simp only [binOp, Op.stringOp]; rfl, fun G => ?_⟩
    rw [toList_eq, toList_eq]
    exact .bool _


theorem opsim_bin {op : BinOp} {x y : X} {xo yo : Operand} {t t' : TypeId} {o : Oper} (ho : o.op = .binOp op t xo yo t') (hx : XRel fm x xo) (hy : XRel fm y yo) : OpSimAll P fm (.bin op x y) o := by
  refine opsim_read fun CR G w0 st w fr a v st' hs hf hrun => ?_
  simp only [stepD, Option.map_eq_some_iff] at hrun
  obtain ⟨v1, hb, hrun⟩ := hrun
  cases hrun
  have hxv := hx.ev (a := a) hf
  have hyv := hy.ev (a := a) hf
  unfold execOp
  simp only [ho]
  generalize x.ev fr = vx at hb hxv
  generalize y.ev fr = vy at hb hyv
  generalize hx0 : a.eval xo = x0 at hxv
  generalize hy0 : a.eval yo = y0 at hyv
  have wrap : ∀ {z : Value}, (eqGuard op t xo yo x0 y0).run P w = .ok () w → (binOp op t x0 y0).run P w = .ok z w → (do eqGuard op t xo yo x0 y0; binOp op t x0 y0 : Sem Value).run P w = .ok z w := by
    intro z h1 h2
    simp only [Sem.run_bind, h1, Result.andThen_ok, h2]
  cases vx <;> cases vy <;> simp only [binD, reduceCtorEq] at hb
  · cases hxv; cases hyv
    rename_i k a1 k' b1
    split at hb
    · obtain ⟨z, h1, h2⟩ := run_shift (P := P) (fm := fm) (w := w) (t := t) (yk := k') hb
      exact ⟨trivial, z, andThen_value (wrap (run_eqGuard_plain rfl) h1), h2 G⟩
    · obtain ⟨z, h1, h2⟩ := run_shift (P := P) (fm := fm) (w := w) (t := t) (yk := k') hb
      exact ⟨trivial, z, andThen_value (wrap (run_eqGuard_plain rfl) h1), h2 G⟩
    · split at hb
      · rename_i hk
        subst hk
        obtain ⟨z, h1, h2⟩ := run_intBin (P := P) (fm := fm) (w := w) (t := t) hb
        exact ⟨trivial, z, andThen_value (wrap (run_eqGuard_plain rfl) h1), h2 G⟩
      · cases hb
  · cases hxv with
    | str _ s1 e1 =>
    cases hyv with
    | str _ s2 e2 =>
    subst e1; subst e2
    obtain ⟨z, h1, h2⟩ := run_strBin (P := P) (fm := fm) (w := w) (t := t) hb
    exact ⟨trivial, z, andThen_value (wrap (run_eqGuard_plain rfl) h1), h2 G⟩

theorem opsim_un {op : UnOp} {x : X} {xo : Operand} {t : TypeId} {o : Oper} (ho : o.op = .unOp op t xo) (hx : XRel fm x xo) : OpSimAll P fm (.un op x) o := by
  refine opsim_read fun CR G w0 st w fr a v st' hs hf hrun => ?_
  simp only [stepD, Option.map_eq_some_iff] at hrun
  obtain ⟨v1, hb, hrun⟩ := hrun
  cases hrun
  have hxv := hx.ev (a := a) hf
  unfold execOp
  simp only [ho]
  generalize x.ev fr = vx at hb hxv
  generalize hx0 : a.eval xo = x0 at hxv
  cases op <;> cases vx <;> simp only [unD, reduceCtorEq, Option.some.injEq] at hb
  · subst hb; cases hxv
    exact ⟨trivial, _, andThen_value (by simp only [Op.unary, Op.intArith]; rfl), .int _ _⟩
  · simp only [Option.map_eq_some_iff] at hb
    obtain ⟨n, hb, rfl⟩ := hb
    cases hxv
    exact ⟨trivial, _, andThen_value (by simp only [Op.unary]; exact run_bits hb), .int _ _⟩
  · subst hb; cases hxv
    exact ⟨trivial, _, andThen_value (by simp only [Op.unary]; rfl), .bool _⟩

end Go.D
