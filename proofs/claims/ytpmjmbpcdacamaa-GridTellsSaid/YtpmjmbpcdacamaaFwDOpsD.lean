/-
Operations on addresses, elements, pieces of lists and strings.
-/
import Derived.Test.YtpmjmbpcdacamaaFwDOpsC
namespace Go.D
open Go.RowKit

variable {P : Program} {fm : FM}

theorem opsim_faddr {s : TypeId} {k off : Nat} {fs : Array Field} {f : Field} {i : TypeInfo} {x : X} {xo : Operand} {o : Oper} (ho : o.op = .fieldAddr s xo k) (hs0 : P.underlying s = some (.struct fs)) (hf0 : fs[k]? = some f) (hi : P.info? f.type = some i) (hne : i.size ≠ 0) (hoff : f.offset = off)
    (hx : XRel fm x xo) : OpSimAll P fm (.faddr off x) o := by
  refine opsim_read fun CR G w0 st w fr a v st' hs hf hrun => ?_
  simp only [stepD] at hrun
  have hxv := hx.ev (a := a) hf
  generalize hx0 : a.eval xo = x0 at hxv
  have run : ∀ r o', x0 = .pointer (some ⟨r, o', none⟩) → (Instr.fieldAt s x0 k).run P w = .ok (.pointer (some ⟨r, o' + off, none⟩)) w := by
    intro r o' e
    subst e
    have hsz : (sizeOf f.type).run P w = .ok i.size w := by unfold sizeOf typeInfo; simp [hi]
    unfold Instr.fieldAt
    simp only [Sem.run_bind, run_underlying hs0, Result.andThen_ok, hf0, Instr.sureAddr, Sem.run_pure]
    unfold fieldPlace
    simp only [Sem.run_bind, hsz, Result.andThen_ok, if_neg hne, Sem.run_pure, Addr.add_lit, hoff]
  split at hrun
  · rename_i b o' hb
    rw [hb] at hxv
    simp only [Option.some.injEq, Prod.mk.injEq] at hrun
    obtain ⟨rfl, rfl⟩ := hrun
    cases hxv with
    | ptr _ _ r hm =>
      refine ⟨rfl, _, ?_, .ptr b (o' + off) r hm⟩
      unfold execOp
      simp only [ho, hx0]
      exact andThen_value (run _ _ rfl)
  · rename_i cs hb
    rw [hb] at hxv
    split at hrun
    · rename_i hle
      simp only [Option.some.injEq, Prod.mk.injEq] at hrun
      obtain ⟨rfl, rfl⟩ := hrun
      cases hxv with
      | cptr _ r o' g hr hc hp =>
        refine ⟨rfl, .pointer (some ⟨r, o' + off, none⟩), ?_, .cptr _ r (o' + off) (fun j => g (off + j)) (fun j hj => ?_) (fun j hj => ?_) ?_⟩
        · unfold execOp
          simp only [ho, hx0]
          exact andThen_value (run _ _ rfl)
        · rw [Nat.add_assoc]; exact hr _ (by simp at hj; omega)
        · have := hc (off + j) (by simp at hj; omega)
          simpa using this
        · rw [List.all_eq_true] at hp ⊢
          exact fun y hy => hp y (List.mem_of_mem_drop hy)
    · cases hrun
  · cases hrun

theorem takeN_cells {G : Gh} {vs : List DV} {cs : Array Value} (hl : cs.size = vs.length) (hc : ∀ i (h : i < vs.length), Rel fm G (vs[i]) (cs.getD i undef)) {off n : Nat} {ag : Bool} {v : DV} (h : takeN vs off n ag = some v) {w : World} {t : TypeId} (ht : TyCells P t n ag) :
    ∃ y, (part t cs off).run P w = .ok y w ∧ Rel fm G v y := by
  obtain ⟨⟨d, hd, hag⟩, ⟨i, hi, hsz⟩, h1⟩ := ht
  obtain ⟨hle, hv⟩ := takeN_rel (fm := fm) (G := G) h h1 (fun j => cs.getD (off + j) undef) (fun j hj _ => hc _ hj)
  cases ag with
  | true =>
    refine ⟨_, run_part hd hi cs off (by cases d <;> simp at hag ⊢), ?_⟩
    simp only [if_true] at hv
    have e : ((List.range n).map fun j => cs.getD (off + j) undef).toArray = cs.extract off (off + i.size) := by
      apply Array.ext_getElem?
      intro j
      rw [hsz, Array.getElem?_extract]
      by_cases hj : j < n
      · rw [if_pos (by omega)]
        have : off + j < cs.size := by omega
        simp [hj, Array.getD, this]
      · rw [if_neg (by omega)]
        simp; omega
    rw [e] at hv
    exact hv
  | false =>
    obtain rfl := h1 rfl
    refine ⟨_, run_part_one hd cs off (by omega) (by cases d <;> simp at hag ⊢), ?_⟩
    simpa using hv

theorem opsim_field {s : TypeId} {k off n : Nat} {ag : Bool} {fs : Array Field} {f : Field} {x : X} {xo : Operand} {o : Oper} (ho : o.op = .field s xo k) (hs0 : P.underlying s = some (.struct fs)) (hf0 : fs[k]? = some f) (ht : TyCells P f.type n ag) (hoff : f.offset = off)
    (hx : XRel fm x xo) : OpSimAll P fm (.field n ag off x) o := by
  refine opsim_read fun CR G w0 st w fr a v st' hs hf hrun => ?_
  simp only [stepD] at hrun
  have hxv := hx.ev (a := a) hf
  generalize hx0 : a.eval xo = x0 at hxv
  split at hrun
  · rename_i vs hvs
    rw [hvs] at hxv
    simp only [Option.map_eq_some_iff] at hrun
    obtain ⟨u, hu, hrun⟩ := hrun
    cases hrun
    cases hxv with
    | agg _ cs hl hc =>
      obtain ⟨y, h1, h2⟩ := takeN_cells (w := w) hl hc hu ht
      refine ⟨rfl, y, ?_, h2⟩
      unfold execOp
      simp only [ho, hx0]
      refine andThen_value ?_
      unfold Instr.field
      simp only [Sem.run_bind, run_underlying hs0, Result.andThen_ok, hf0, asAgg, Sem.run_pure, hoff, h1]
  · cases hrun

/-- Where an element's leaves stand among all. -/
theorem flat_at : ∀ (xs : List DV) (n j : Nat) (v : DV), (∀ x ∈ xs, x.leaves.length = n) → xs[j]? = some v → ∀ i (_ : i < v.leaves.length), ∃ h : j * n + i < (flat xs).length, (flat xs)[j * n + i] = v.leaves[i]
  | [], n, j, v, _, hv, _, _ => by simp at hv
  | x :: xs, n, 0, v, hn, hv, i, hi => by
    simp only [List.getElem?_cons_zero, Option.some.injEq] at hv
    subst hv
    refine ⟨by unfold flat; simp only [List.flatMap_cons, List.length_append]; omega, ?_⟩
    unfold flat
    simp only [List.flatMap_cons, Nat.zero_mul, Nat.zero_add]
    rw [List.getElem_append_left hi]
  | x :: xs, n, j + 1, v, hn, hv, i, hi => by
    simp only [List.getElem?_cons_succ] at hv
    obtain ⟨h1, h2⟩ := flat_at xs n j v (fun y hy => hn y (by simp [hy])) hv i hi
    have hx := hn x (by simp)
    have e : (j + 1) * n + i = x.leaves.length + (j * n + i) := by rw [hx, Nat.add_mul, Nat.one_mul]; omega
    have hfl : flat (x :: xs) = x.leaves ++ flat xs := by simp [flat]
    refine ⟨by rw [hfl, List.length_append, e]; omega, ?_⟩
    rw [← h2]
    simp only [hfl, e]
    rw [List.getElem_append_right (by omega)]
    simp

theorem opsim_iaddr {t e : TypeId} {n : Nat} {i : TypeInfo} {x j : X} {xo jo : Operand} {o : Oper} (ho : o.op = .indexAddr t xo jo) (ht : P.underlying t = some (.slice e)) (hi : P.info? e = some i) (hn : i.size = n) (hx : XRel fm x xo) (hj : XRel fm j jo) : OpSimAll P fm (.iaddr n x j) o := by
  refine opsim_read fun CR G w0 st w fr a v st' hs hf hrun => ?_
  simp only [stepD] at hrun
  have hxv := hx.ev (a := a) hf
  have hjv := hj.ev (a := a) hf
  generalize hx0 : a.eval xo = x0 at hxv
  generalize hj0 : a.eval jo = j0 at hjv
  have hsz : (sizeOf e).run P w = .ok n w := by unfold sizeOf typeInfo; simp [hi, hn]
  have run : ∀ r o' len cap k q, x0 = .slice (some ⟨r, o', none⟩) len cap → j0 = .int k q → 0 ≤ q → q < len → (Instr.indexAt t x0 j0).run P w = .ok (.pointer (some ⟨r, o' + q.toNat * n, none⟩)) w := by
    intro r o' len cap k q e1 e2 h1 h2
    subst e1; subst e2
    unfold Instr.indexAt
    simp [asIntOf, run_underlying ht, h1, h2, hsz, Addr.add_lit]
  split at hrun
  · rename_i tag n' tk nn xs k q hb hq
    rw [hb] at hxv
    rw [hq] at hjv
    split at hrun
    · rename_i hc
      obtain ⟨hc1, rfl⟩ := hc
      split at hrun
      · rename_i u hu
        simp only [Option.some.injEq, Prod.mk.injEq] at hrun
        obtain ⟨rfl, rfl⟩ := hrun
        cases hjv
        have hlt : q.toNat < xs.length := (List.getElem?_eq_some_iff.1 hu).1
        cases hxv with
        | nils => simp at hlt
        | list _ _ _ _ r off cap g hr hcc hp hk hl hnn =>
          refine ⟨rfl, _, ?_, .cptr u.leaves r (off + q.toNat * n') (fun i => g (q.toNat * n' + i)) (fun i hi => ?_) (fun i hi => ?_) ?_⟩
          · unfold execOp
            simp only [ho, hx0, hj0]
            exact andThen_value (run _ _ _ _ _ _ rfl rfl hc1 (by omega))
          · obtain ⟨g1, g2⟩ := flat_at xs n' q.toNat u hnn hu i hi
            rw [Nat.add_assoc]; exact .inl (hr _ g1)
          · obtain ⟨g1, g2⟩ := flat_at xs n' q.toNat u hnn hu i hi
            rw [← g2]; exact hcc _ g1
          · rw [List.all_eq_true] at hp ⊢
            intro y hy
            exact hp y (List.mem_flatMap.2 ⟨u, List.mem_of_getElem? hu, hy⟩)
      · cases hrun
    · cases hrun
  · rename_i n' ag b off len cap k q hb hq
    rw [hb] at hxv
    rw [hq] at hjv
    split at hrun
    · rename_i hc
      obtain ⟨rfl, hc1, hc2⟩ := hc
      simp only [Option.some.injEq, Prod.mk.injEq] at hrun
      obtain ⟨rfl, rfl⟩ := hrun
      cases hjv
      cases hxv with
      | hsl _ _ _ _ _ _ r c hm hcap =>
        refine ⟨rfl, _, ?_, .ptr b (off + q.toNat * n') r hm⟩
        unfold execOp
        simp only [ho, hx0, hj0]
        exact andThen_value (run _ _ _ _ _ _ rfl rfl hc1 hc2)
    · cases hrun
  · cases hrun

theorem opsim_index {t : TypeId} {x j : X} {xo jo : Operand} {o : Oper} (ho : o.op = .index t xo jo) (ht : P.underlying t = some .string) (hx : XRel fm x xo) (hj : XRel fm j jo) : OpSimAll P fm (.index x j) o := by
  refine opsim_read fun CR G w0 st w fr a v st' hs hf hrun => ?_
  simp only [stepD] at hrun
  have hxv := hx.ev (a := a) hf
  have hjv := hj.ev (a := a) hf
  generalize hx0 : a.eval xo = x0 at hxv
  generalize hj0 : a.eval jo = j0 at hjv
  split at hrun
  · rename_i s k q hb hq
    rw [hb] at hxv
    rw [hq] at hjv
    split at hrun
    · rename_i hc
      simp only [Option.map_eq_some_iff] at hrun
      obtain ⟨u, hu, hrun⟩ := hrun
      cases hrun
      cases hjv
      cases hxv with
      | str _ ba hba =>
        refine ⟨rfl, .int .u8 u.toNat, ?_, .int _ _⟩
        unfold execOp
        simp only [ho, hx0, hj0]
        refine andThen_value ?_
        have hget : ba[q.toNat]? = some u := by
          subst hba
          obtain ⟨h1, h2⟩ := List.getElem?_eq_some_iff.1 hu
          have hlt : q.toNat < ba.size := by rw [Array.length_toList] at h1; exact h1
          rw [getElem?_pos ba q.toNat hlt]
          congr 1
        unfold Instr.index
        simp [asIntOf, run_underlying ht, hc, hget]
    · cases hrun
  · cases hrun

/-- A call of a builtin function. -/
def builtinCall (b : Builtin) (args : List Operand) (ts : List TypeId) (op : Op) : Prop := ∃ c : Call, op = .call c ∧ c.callee = .builtin b ∧ c.args.toList = args ∧ c.argTypes.toList = ts

theorem exec_builtin {b : Builtin} {args : List Operand} {ts : List TypeId} {o : Oper} (h : builtinCall b args ts o.op) (ρ : Operand → Value) : ∃ consts, execOp ρ o = builtin b ts.toArray o.type consts (args.map ρ).toArray := by
  obtain ⟨c, ho, h1, h2, h3⟩ := h
  refine ⟨c.args.map fun | .const _ => true | _ => false, ?_⟩
  unfold execOp
  simp only [ho, resolve, h1, invoke]
  have e1 : c.argTypes = ts.toArray := by rw [← h3]
  have e2 : c.args.map ρ = (args.map ρ).toArray := by rw [← h2, ← Array.toList_map]
  rw [e1, e2]
  rfl

def lenTyOk (P : Program) (t : TypeId) : LenK → Bool
  | .str => match P.underlying t with | some .string => true | _ => false
  | .slice => match P.underlying t with | some (.slice _) => true | _ => false
  | .map => match P.underlying t with | some (.map _ _) => true | _ => false

theorem opsim_len {t : TypeId} {k : LenK} {x : X} {xo : Operand} {o : Oper} (ho : builtinCall .len [xo] [t] o.op) (ht : lenTyOk P t k = true) (hx : XRel fm x xo) : OpSimAll P fm (.len k x) o := by
  refine opsim_read fun CR G w0 st w fr a v st' hs hf hrun => ?_
  simp only [stepD] at hrun
  have hxv := hx.ev (a := a) hf
  obtain ⟨consts, hex⟩ := exec_builtin ho a.eval
  rw [hex]
  generalize hx0 : a.eval xo = x0 at hxv
  simp only [List.map_cons, List.map_nil, hx0]
  unfold lenTyOk at ht
  split at hrun
  · rename_i s hb
    rw [hb] at hxv
    simp only at ht
    split at ht
    · rename_i htd
      simp only [Option.some.injEq, Prod.mk.injEq] at hrun
      obtain ⟨rfl, rfl⟩ := hrun
      cases hxv with
      | str _ ba hba =>
        refine ⟨rfl, .int .i64 ba.size, andThen_value ?_, ?_⟩
        · simp [Builtin.len_, run_underlying htd, goInt]
        · subst hba
          rw [Array.length_toList]
          exact .int _ _
    · cases ht
  · rename_i tag n tk nn xs hb
    rw [hb] at hxv
    simp only at ht
    split at ht
    · rename_i htd
      simp only [Option.some.injEq, Prod.mk.injEq] at hrun
      obtain ⟨rfl, rfl⟩ := hrun
      refine ⟨rfl, .int .i64 xs.length, andThen_value ?_, .int _ _⟩
      cases hxv <;> simp [Builtin.len_, run_underlying htd, goInt]
    · cases ht
  · rename_i n ag b off len cap hb
    rw [hb] at hxv
    simp only at ht
    split at ht
    · rename_i htd
      simp only [Option.some.injEq, Prod.mk.injEq] at hrun
      obtain ⟨rfl, rfl⟩ := hrun
      refine ⟨rfl, .int .i64 len, andThen_value ?_, .int _ _⟩
      cases hxv; simp [Builtin.len_, run_underlying htd, goInt]
    · cases ht
  · rename_i hb
    rw [hb] at hxv
    simp only at ht
    split at ht
    · rename_i htd
      simp only [Option.some.injEq, Prod.mk.injEq] at hrun
      obtain ⟨rfl, rfl⟩ := hrun
      refine ⟨rfl, .int .i64 0, andThen_value ?_, .int _ _⟩
      cases hxv; simp [Builtin.len_, run_underlying htd, goInt]
    · cases ht
  · rename_i b hb
    rw [hb] at hxv
    simp only at ht
    split at ht
    · rename_i htd
      split at hrun
      · rename_i es hes
        simp only [Option.some.injEq, Prod.mk.injEq] at hrun
        obtain ⟨rfl, rfl⟩ := hrun
        cases hxv with
        | map _ r hm =>
          obtain ⟨r', ob, h1, h2, h3, _⟩ := hs.obj b _ hes rfl (hs.np hm)
          rw [hm] at h1; cases h1
          obtain ⟨en, ck, rfl, h4, _⟩ := h3
          refine ⟨rfl, .int .i64 en.size, andThen_value ?_, ?_⟩
          · simp [Builtin.len_, run_underlying htd, goInt, getObj, Sem.run, h2]
          · rw [h4]; exact .int _ _
      · cases hrun
    · cases ht
  · cases hrun

theorem opsim_lenC {t e : TypeId} {n : Nat} {xo : Operand} {o : Oper} (ho : builtinCall .len [xo] [t] o.op ∨ builtinCall .cap [xo] [t] o.op) (ht : P.underlying t = some (.array n e)) : OpSimAll P fm (.lenC n) o := by
  refine opsim_read fun CR G w0 st w fr a v st' hs hf hrun => ?_
  simp only [stepD, Option.some.injEq, Prod.mk.injEq] at hrun
  obtain ⟨rfl, rfl⟩ := hrun
  refine ⟨rfl, .int .i64 n, ?_, .int _ _⟩
  rcases ho with ho | ho
  · obtain ⟨consts, hex⟩ := exec_builtin ho a.eval
    rw [hex]
    exact andThen_value (by simp [Builtin.len_, run_underlying ht, goInt])
  · obtain ⟨consts, hex⟩ := exec_builtin ho a.eval
    rw [hex]
    exact andThen_value (by simp [Builtin.cap_, run_underlying ht, goInt])

theorem opsim_cap {t e : TypeId} {x : X} {xo : Operand} {o : Oper} (ho : builtinCall .cap [xo] [t] o.op) (ht : P.underlying t = some (.slice e)) (hx : XRel fm x xo) : OpSimAll P fm (.cap x) o := by
  refine opsim_read fun CR G w0 st w fr a v st' hs hf hrun => ?_
  simp only [stepD] at hrun
  have hxv := hx.ev (a := a) hf
  obtain ⟨consts, hex⟩ := exec_builtin ho a.eval
  rw [hex]
  generalize hx0 : a.eval xo = x0 at hxv
  simp only [List.map_cons, List.map_nil, hx0]
  split at hrun
  · rename_i tag n xs hb
    rw [hb] at hxv
    simp only [Option.some.injEq, Prod.mk.injEq] at hrun
    obtain ⟨rfl, rfl⟩ := hrun
    cases hxv with
    | list _ _ _ _ r off cap f hr hc hp hk hl hn =>
      refine ⟨rfl, .int .i64 cap, andThen_value (by simp [Builtin.cap_, run_underlying ht, goInt]), ?_⟩
      have : cap = xs.length := hk
      rw [this]; exact .int _ _
  · rename_i tag n tk xs _ hb
    rw [hb] at hxv
    simp only [Option.some.injEq, Prod.mk.injEq] at hrun
    obtain ⟨rfl, rfl⟩ := hrun
    cases hxv
    exact ⟨rfl, .int .i64 0, andThen_value (by simp [Builtin.cap_, run_underlying ht, goInt]), .int _ _⟩
  · rename_i n ag b off len c hb
    rw [hb] at hxv
    simp only [Option.some.injEq, Prod.mk.injEq] at hrun
    obtain ⟨rfl, rfl⟩ := hrun
    cases hxv with
    | hsl _ _ _ _ _ _ r c' hm hcap =>
      refine ⟨rfl, .int .i64 c', andThen_value (by simp [Builtin.cap_, run_underlying ht, goInt]), ?_⟩
      rw [hcap.1]; exact .int _ _
  · cases hrun

end Go.D
