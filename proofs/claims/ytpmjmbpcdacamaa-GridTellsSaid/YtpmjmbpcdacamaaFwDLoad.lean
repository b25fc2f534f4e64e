/-
Reading a variable; a function's results; leaving a function.
-/
import Derived.Test.YtpmjmbpcdacamaaFwDMain
namespace Go.D
open Go.RowKit

variable {P : Program} {fm : FM} {T : Tab}

theorem getD_map_range (f : Nat → Value) (n i : Nat) (h : i < n) : (((List.range n).map f).toArray).getD i undef = f i := by
  rw [Array.getD_eq_getD_getElem?]
  simp [h]

/-- A variable of n cells, read. -/
theorem run_loadVar_cells {w : World} {ty : TypeId} {n : Nat} {ag : Bool} (ht : TyCells P ty n ag) (r off : Nat) (f : Nat → Value) (h : ∀ j, j < n → w.cell? ⟨r, off + j, none⟩ = some (f j)) :
    (loadVar ty ⟨r, off, none⟩).run P w = .ok (if ag then .agg ((List.range n).map f).toArray else f 0) w := by
  obtain ⟨⟨d, hd, hag⟩, ⟨i, hi, hsz⟩, h1⟩ := ht
  have hcells := run_loadCells (P := P) w ⟨r, off, none⟩ n f (fun j hj => by rw [Addr.add_lit]; exact h j hj)
  have hisagg : (isAgg ty).run P w = .ok ag w := by
    unfold isAgg
    simp only [Sem.run_bind, run_underlying hd, Result.andThen_ok]
    cases d <;> simp only at hag <;> subst hag <;> rfl
  have hsize : (sizeOf ty).run P w = .ok n w := by
    unfold sizeOf typeInfo
    simp [hi, hsz]
  unfold loadVar
  simp only [Sem.run_bind, hisagg, Result.andThen_ok]
  cases ag with
  | true => simp [hsize, hcells]
  | false =>
    obtain rfl := h1 rfl
    have := h 0 (by omega)
    simp only [Nat.add_zero] at this
    simp [run_load, this]

theorem cell?_cells {w : World} {r i : Nat} {cs : Array Value} {t : TypeId} {fz : Nat × Nat} (h : w.heap[r]? = some (.cells cs t fz)) : w.cell? ⟨r, i, none⟩ = cs[i]? := by
  simp [World.cell?, h]

theorem takeN_rel {G : Gh} {vs : List DV} {off n : Nat} {ag : Bool} {v : DV} (h : takeN vs off n ag = some v) (hn : ag = false → n = 1) (f : Nat → Value)
    (hr : ∀ i (hi : off + i < vs.length), i < n → Rel fm G (vs[off + i]) (f i)) : off + n ≤ vs.length ∧ Rel fm G v (if ag then .agg ((List.range n).map f).toArray else f 0) := by
  unfold takeN at h
  cases ag with
  | true =>
    simp only [if_true] at h
    split at h
    · rename_i hle
      injection h with h; subst h
      refine ⟨hle, .agg _ _ (by simp; omega) fun i hi => ?_⟩
      have hin : i < n := by simp at hi; omega
      rw [getD_map_range _ _ _ hin]
      simpa using hr i (by omega) hin
    · cases h
  | false =>
    obtain rfl := hn rfl
    simp only [if_false, Bool.false_eq_true] at h
    obtain ⟨hlt, he⟩ := List.getElem?_eq_some_iff.1 h
    subst he
    exact ⟨by omega, hr 0 (by simpa using hlt) (by omega)⟩

/-- Reading through a pointer. -/
theorem run_loadD {CR : Nat → RC → Code → Prop} {G : Gh} {w0 w : World} {st : St} (hs : Sim fm CR G w0 st w) {ty : TypeId} {n : Nat} {ag : Bool} (ht : TyCells P ty n ag) {p v : DV} {x : Value} (hp : Rel fm G p x) (hl : loadD st n ag p = some v) :
    ∃ a y, x = .pointer (some a) ∧ (loadVar ty a).run P w = .ok y w ∧ Rel fm G v y := by
  have hn := ht.2.2
  cases p <;> try (simp only [loadD, reduceCtorEq] at hl; done)
  · rename_i b off
    simp only [loadD] at hl
    split at hl
    · rename_i gr vs hcs
      unfold St.cells at hcs
      split at hcs
      · rename_i g' vs' hb
        simp only [Option.some.injEq, Prod.mk.injEq] at hcs
        obtain ⟨rfl, rfl⟩ := hcs
        cases hp with
        | ptr _ _ r hm =>
          obtain ⟨r', ob, h1, h2, h3, _⟩ := hs.obj b _ hb rfl (hs.np hm)
          rw [hm] at h1; cases h1
          have key : ∃ cs t fz, ob = .cells cs t fz ∧ vs'.length ≤ cs.size ∧ ∀ i (h : i < vs'.length), Rel fm G (vs'[i]) (cs.getD i undef) := by
            cases g' with
            | plain => obtain ⟨cs, t, fz, e, e2, e3, _⟩ := h3; exact ⟨cs, t, fz, e, by omega, e3⟩
            | typed ty => obtain ⟨cs, t, fz, e, _, e2, e3, _⟩ := h3; exact ⟨cs, t, fz, e, by omega, e3⟩
            | frz ty => obtain ⟨cs, t, fz, e, _, e2, _, e3, _⟩ := h3; exact ⟨cs, t, fz, e, e2, e3⟩
            | grown => obtain ⟨cs, t, fz, e, e2, _, e3, _⟩ := h3; exact ⟨cs, t, fz, e, e2, e3⟩
          obtain ⟨cs, t, fz, rfl, hsz, hrel⟩ := key
          obtain ⟨hle, hv⟩ := takeN_rel (fm := fm) (G := G) hl hn (fun j => cs.getD (off + j) undef) fun i hi _ => hrel _ hi
          refine ⟨_, _, rfl, run_loadVar_cells ht r off (fun j => cs.getD (off + j) undef) ?_, hv⟩
          intro j hj
          rw [cell?_cells h2, Array.getD_eq_getD_getElem?]
          have : off + j < cs.size := by omega
          simp [this]
      · cases hcs
    · cases hl
  · rename_i cs
    simp only [loadD] at hl
    cases hp with
    | cptr _ r off f hr hc _ =>
      obtain ⟨hle, hv⟩ := takeN_rel (fm := fm) (G := G) hl hn f fun i hi _ => by simpa using hc i (by simpa using hi)
      refine ⟨_, _, rfl, run_loadVar_cells ht r off f ?_, hv⟩
      intro j hj
      have := hs.rok (hr j (by omega))
      obtain ⟨arr, t, fz, e1, e2⟩ := this
      rw [cell?_cells e1, e2]

/-- One result, as the model reads it. -/
def resSem (tmps : Array Value) : ResultVar → Sem Value
  | .tmp t => pure (tmps.getD t undef)
  | .cell a t => do loadVar t (← asAddr (tmps.getD a undef))

/-- A function's results. -/
theorem run_results {CR : Nat → RC → Code → Prop} {G : Gh} {w0 w : World} {st : St} (hs : Sim fm CR G w0 st w) {fr : Fr} {tmps : Array Value} (hf : FrRel fm G fr tmps) {rs : List RRes} {fn : Func} {v : DV}
    (hl : fn.results.toList.length = rs.length) (hr : ∀ (i : Nat) (a : RRes) (b : ResultVar), rs[i]? = some a → fn.results.toList[i]? = some b → ResRel P a b) (h : resD st fr rs = some v) :
    ∃ x, (results fn tmps).run P w = .ok x w ∧ Rel fm G v x := by
  have key : ∀ (rs : List RRes) (bs : List ResultVar) (vs : List DV), bs.length = rs.length → (∀ (i : Nat) (a : RRes) (b : ResultVar), rs[i]? = some a → bs[i]? = some b → ResRel P a b) → resAll st fr rs = some vs →
      ∃ xs : List Value, (bs.mapM (resSem tmps)).run P w = .ok xs w ∧ xs.length = vs.length ∧ ∀ i (h : i < vs.length), Rel fm G (vs[i]) (xs.getD i undef) := by
    intro rs
    induction rs with
    | nil =>
      intro bs vs hl _ h
      cases bs with
      | nil => simp only [resAll, Option.some.injEq] at h; subst h; exact ⟨[], by simp, rfl, fun i hi => absurd hi (by simp)⟩
      | cons _ _ => simp at hl
    | cons a rs ih =>
      intro bs vs hl hr h
      cases bs with
      | nil => simp at hl
      | cons b bs =>
        simp only [resAll] at h
        split at h
        · rename_i v1 vs1 h1 h2
          injection h with h; subst h
          obtain ⟨xs, hx, hxl, hxr⟩ := ih bs vs1 (by simpa using hl) (fun i a b ha hb => hr (i + 1) a b (by simpa using ha) (by simpa using hb)) h2
          have hab := hr 0 a b rfl rfl
          have one : ∃ x, (resSem tmps b).run P w = .ok x w ∧ Rel fm G v1 x := by
            cases a with
            | t n =>
              cases b <;> simp only [ResRel] at hab
              subst hab
              simp only [resOne, Option.some.injEq] at h1
              subst h1
              exact ⟨_, rfl, hf n⟩
            | cell p n ag =>
              cases b <;> simp only [ResRel] at hab
              obtain ⟨rfl, ht⟩ := hab
              simp only [resOne] at h1
              obtain ⟨ad, y, e1, e2, e3⟩ := run_loadD hs ht (hf p) h1
              refine ⟨y, ?_, e3⟩
              simp only [resSem, Sem.run_bind, e1, asAddr, Sem.run_pure, Result.andThen_ok, e2]
          obtain ⟨x, hx1, hx2⟩ := one
          refine ⟨x :: xs, ?_, by simp [hxl], ?_⟩
          · rw [List.mapM_cons]
            simp only [Sem.run_bind, hx1, Result.andThen_ok, hx, Sem.run_pure]
          · intro i hi
            cases i with
            | zero => exact hx2
            | succ i => simpa using hxr i (by simpa using hi)
        · cases h
  unfold resD at h
  cases hra : resAll st fr rs with
  | none => rw [hra] at h; cases h
  | some vs =>
    obtain ⟨xs, hx, hxl, hxr⟩ := key rs fn.results.toList vs hl hr hra
    rw [hra] at h
    have run : (results fn tmps).run P w = .ok (if h : xs.toArray.size = 1 then xs.toArray[0] else .tuple xs.toArray) w := by
      have e : results fn tmps = (do let vs ← fn.results.mapM (resSem tmps); pure (if h : vs.size = 1 then vs[0] else .tuple vs)) := by
        unfold results
        congr 1
      rw [e, Array.mapM_eq_mapM_toList]
      simp [hx]
    refine ⟨_, run, ?_⟩
    cases vs with
    | nil =>
      simp only [Option.some.injEq] at h; subst h
      cases xs with
      | nil => exact .tuple [] #[] rfl (fun i hi => absurd hi (by simp))
      | cons _ _ => simp at hxl
    | cons v1 vs =>
      cases vs with
      | nil =>
        simp only [Option.some.injEq] at h; subst h
        cases xs with
        | nil => simp at hxl
        | cons x xs =>
          cases xs with
          | nil => simpa using hxr 0 (by simp)
          | cons _ _ => simp at hxl
      | cons v2 vs =>
        simp only [Option.some.injEq] at h; subst h
        have hne : ¬ xs.toArray.size = 1 := by simp only [List.size_toArray, hxl, List.length_cons]; omega
        rw [dif_neg hne]
        refine .tuple _ _ (by simpa using hxl) fun i hi => ?_
        have := hxr i hi
        rw [Array.getD_eq_getD_getElem?]
        simpa [List.getD] using this

end Go.D
