/-
The greater and the lesser; strings and bytes; literals; what is made.
-/
import Derived.Test.YtpmjmbpcdacamaaFwDOpsE
import Derived.Lib.ConvBytes
namespace Go.D
open Go.RowKit

variable {P : Program} {fm : FM}

theorem run_max2 {G : Gh} {x y v : DV} {a b : Value} {w : World} (hx : Rel fm G x a) (hy : Rel fm G y b) (h : max2D x y = some v) : ∃ z, (Builtin.max2 a b).run P w = .ok z w ∧ Rel fm G v z := by
  cases x <;> cases y <;> simp only [max2D, reduceCtorEq] at h
  split at h
  · rename_i hk
    injection h with h; subst h; subst hk
    cases hx; cases hy
    exact ⟨_, rfl, .int _ _⟩
  · cases h

theorem run_min2 {G : Gh} {x y v : DV} {a b : Value} {w : World} (hx : Rel fm G x a) (hy : Rel fm G y b) (h : min2D x y = some v) : ∃ z, (Builtin.min2 a b).run P w = .ok z w ∧ Rel fm G v z := by
  cases x <;> cases y <;> simp only [min2D, reduceCtorEq] at h
  split at h
  · rename_i hk
    injection h with h; subst h; subst hk
    cases hx; cases hy
    exact ⟨_, rfl, .int _ _⟩
  · cases h

theorem run_foldD {f : DV → DV → Option DV} {g : Value → Value → Sem Value} {G : Gh} {w : World} (hfg : ∀ {x y v : DV} {a b : Value}, Rel fm G x a → Rel fm G y b → f x y = some v → ∃ z, (g a b).run P w = .ok z w ∧ Rel fm G v z) :
    ∀ (vs : List DV) (xs : List Value) (x : DV) (a : Value) (v : DV), xs.length = vs.length → (∀ i (h : i < vs.length), Rel fm G (vs[i]) (xs.getD i undef)) → Rel fm G x a → vs.foldlM f x = some v → ∃ z, (xs.foldlM g a).run P w = .ok z w ∧ Rel fm G v z
  | [], [], x, a, v, _, _, hx, h => by
    simp only [List.foldlM_nil] at h
    cases h
    exact ⟨a, rfl, hx⟩
  | [], _ :: _, _, _, _, hl, _, _, _ => by simp at hl
  | _ :: _, [], _, _, _, hl, _, _, _ => by simp at hl
  | u :: vs, y :: ys, x, a, v, hl, hr, hx, h => by
    simp only [List.foldlM_cons] at h
    cases hf : f x u with
    | none => rw [hf] at h; cases h
    | some x1 =>
      rw [hf] at h
      obtain ⟨z1, h1, h2⟩ := hfg hx (hr 0 (by simp)) hf
      obtain ⟨z, h3, h4⟩ := run_foldD hfg vs ys x1 z1 v (by simpa using hl) (fun i hi => hr (i + 1) (by simpa using hi)) h2 h
      refine ⟨z, ?_, h4⟩
      simp only [List.foldlM_cons, Sem.run_bind]
      have e : (y :: ys).getD 0 undef = y := rfl
      rw [e] at h1
      rw [h1]
      exact h3

theorem opsim_max {args : List X} {as : List Operand} {ts : List TypeId} {o : Oper} (ho : builtinCall .max as ts o.op) (hx : XsRel fm args as) : OpSimAll P fm (.max args) o := by
  refine opsim_read fun CR G w0 st w fr a v st' hs hf hrun => ?_
  simp only [stepD, Option.map_eq_some_iff] at hrun
  obtain ⟨u, hu, hrun⟩ := hrun
  cases hrun
  have hr := run_args (a := a) hx (fun t _ => hf t)
  obtain ⟨consts, hex⟩ := exec_builtin ho a.eval
  rw [hex]
  cases args with
  | nil => simp [foldD] at hu
  | cons x xs =>
    cases as with
    | nil => simp [XsRel] at hx
    | cons y ys =>
      simp only [List.map_cons, foldD] at hu hr
      obtain ⟨z, h1, h2⟩ := run_foldD (P := P) (w := w) (G := G) (fun hx hy h => run_max2 hx hy h) (xs.map (X.ev fr)) (ys.map a.eval) (x.ev fr) (a.eval y) v (by have := hx.1; simp at this ⊢; exact this)
        (fun i hi => by
          have := hr.2 (i + 1) (by simpa using hi)
          rw [← getD_toList] at this
          simpa using this) (by have := hr.2 0 (by simp); rw [← getD_toList] at this; simpa using this) hu
      refine ⟨rfl, z, andThen_value ?_, h2⟩
      show (Builtin.max_ _ _ (List.map a.eval (y :: ys)).toArray).run P w = _
      unfold Builtin.max_
      exact h1

theorem opsim_min {args : List X} {as : List Operand} {ts : List TypeId} {o : Oper} (ho : builtinCall .min as ts o.op) (hx : XsRel fm args as) : OpSimAll P fm (.min args) o := by
  refine opsim_read fun CR G w0 st w fr a v st' hs hf hrun => ?_
  simp only [stepD, Option.map_eq_some_iff] at hrun
  obtain ⟨u, hu, hrun⟩ := hrun
  cases hrun
  have hr := run_args (a := a) hx (fun t _ => hf t)
  obtain ⟨consts, hex⟩ := exec_builtin ho a.eval
  rw [hex]
  cases args with
  | nil => simp [foldD] at hu
  | cons x xs =>
    cases as with
    | nil => simp [XsRel] at hx
    | cons y ys =>
      simp only [List.map_cons, foldD] at hu hr
      obtain ⟨z, h1, h2⟩ := run_foldD (P := P) (w := w) (G := G) (fun hx hy h => run_min2 hx hy h) (xs.map (X.ev fr)) (ys.map a.eval) (x.ev fr) (a.eval y) v (by have := hx.1; simp at this ⊢; exact this)
        (fun i hi => by
          have := hr.2 (i + 1) (by simpa using hi)
          rw [← getD_toList] at this
          simpa using this) (by have := hr.2 0 (by simp); rw [← getD_toList] at this; simpa using this) hu
      refine ⟨rfl, z, andThen_value ?_, h2⟩
      show (Builtin.min_ _ _ (List.map a.eval (y :: ys)).toArray).run P w = _
      unfold Builtin.min_
      exact h1

theorem opsim_i2s {s d : TypeId} {e : TypeDesc} {x : X} {xo : Operand} {o : Oper} (ho : o.op = .convert s d xo) (hs0 : P.underlying s = some e) (hd : P.underlying d = some .string) (hx : XRel fm x xo) : OpSimAll P fm (.i2s x) o := by
  refine opsim_read fun CR G w0 st w fr a v st' hs hf hrun => ?_
  simp only [stepD] at hrun
  have hxv := hx.ev (a := a) hf
  split at hrun
  · rename_i k n hn
    rw [hn] at hxv
    split at hrun
    · rename_i hc
      simp only [Option.some.injEq, Prod.mk.injEq] at hrun
      obtain ⟨rfl, rfl⟩ := hrun
      generalize hx0 : a.eval xo = x0 at hxv
      cases hxv
      refine ⟨rfl, .string (Utf8.encode n), ?_, .str _ _ ?_⟩
      · unfold execOp
        simp only [ho, hx0]
        refine andThen_value ?_
        unfold convert
        simp [run_underlying hs0, run_underlying hd, Conv.intToString]
      · have hv : Utf8.valid n = true := by
          unfold Utf8.valid
          have h1 : decide (0 ≤ n) = true := by simpa using hc.1
          have h2 : decide (n < 0xD800) = true := by simp; omega
          simp [h1, h2]
        have hlt : n.toNat < 0x80 := by omega
        unfold Utf8.encode
        simp [hv, hlt]
    · cases hrun
  · cases hrun

theorem opsim_mkmap {t : TypeId} {o : Oper} (ho : o.op = .makeMap t none) : OpSimAll P fm .mkmap o := by
  intro CR G w0 st w fr a v st' hs hf hrun
  simp only [stepD, Option.some.injEq, Prod.mk.injEq] at hrun
  obtain ⟨rfl, rfl⟩ := hrun
  have hs' := hs.push (o := .map []) (ob := .map #[] 0) 0 ⟨#[], 0, rfl, rfl, fun i k v hi => by simp at hi⟩ rfl
  refine ⟨_, _, .map (some w.heap.size), _, ?_, .inl rfl, Gh.le_push hs.muNone, hs', .map _ _ (by simp [Gh.push])⟩
  unfold execOp
  simp only [ho, Option.map_none]
  exact andThen_value (by simp [Instr.makeMap])

end Go.D
