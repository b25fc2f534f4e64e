/-
Literals: structs, arrays, slices.
-/
import Derived.Test.YtpmjmbpcdacamaaFwDOpsF
import Derived.Laws.Tables
namespace Go.D
open Go.RowKit

variable {P : Program} {fm : FM}

theorem foldl_set (off : Nat) : ∀ (xs : List Value) (k : Nat) (cells : Array Value), off + k + xs.length ≤ cells.size →
    ((xs.zipIdx k).foldl (fun (cs : Array Value) (x : Value × Nat) => cs.setIfInBounds (off + x.2) x.1) cells) = spliceA cells (off + k) xs
  | [], k, cells, _ => by
    simp [spliceA]
  | x :: xs, k, cells, h => by
    simp only [List.length_cons] at h
    rw [List.zipIdx_cons, List.foldl_cons, foldl_set off xs (k + 1) _ (by simp; omega)]
    unfold spliceA
    congr 1
    have e := list_seg_step cells.toList (off + k) x xs (by simp; omega)
    simpa [Array.toList_setIfInBounds, Nat.add_assoc] using e

/-- Parts laid over a row, here and in the model. -/
theorem fill_rel {G : Gh} {place : Nat → Option (Nat × Nat)} : ∀ (parts : List (Nat × Nat × DV)) (parts' : List (Nat × Value)) (cells : List DV) (arr : Array Value) (cells' : List DV), parts'.length = parts.length →
    (∀ (k : Nat) (off n : Nat) (v : DV) (i : Nat) (x : Value), parts[k]? = some (off, n, v) → parts'[k]? = some (i, x) → place i = some (off, n) ∧ Rel fm G v x) →
    arr.size = cells.length → (∀ i (h : i < cells.length), Rel fm G (cells[i]) (arr.getD i undef)) → cells.all DV.scal = true → fillD cells parts = some cells' →
    ∃ arr', Instr.fill place arr parts' = some arr' ∧ arr'.size = cells'.length ∧ cells'.length = cells.length ∧ (∀ i (h : i < cells'.length), Rel fm G (cells'[i]) (arr'.getD i undef)) ∧ cells'.all DV.scal = true
  | [], [], cells, arr, cells', _, _, hl, hr, hsc, h => by
    simp only [fillD, Option.some.injEq] at h; subst h
    exact ⟨arr, rfl, hl, rfl, hr, hsc⟩
  | [], _ :: _, _, _, _, hl, _, _, _, _, _ => by simp at hl
  | _ :: _, [], _, _, _, hl, _, _, _, _, _ => by simp at hl
  | (off, n, v) :: parts, (i, x) :: parts', cells, arr, cells', hpl, hp, hl, hr, hsc, h => by
    simp only [fillD] at h
    split at h
    · rename_i hc
      obtain ⟨c1, c2, c3⟩ := hc
      obtain ⟨hpi, hvx⟩ := hp 0 off n v i x rfl rfl
      obtain ⟨l1, r1⟩ := cells_rel hvx c3
      have hsz : x.cells.size = n := by rw [l1, c1]
      have hlen : (splice cells off v.leaves).length = cells.length := length_splice (by omega)
      have hspl := splice_rel (fm := fm) (G := G) (vs := cells) (ns := v.leaves) (cur := arr) (k := off) (xs := x.cells.toList) hr (by omega) (by omega) (by simpa using l1) (fun j hj => by rw [getD_toList]; exact r1 j hj)
      obtain ⟨arr', g1, g2, g3, g4, g5⟩ := fill_rel parts parts' (splice cells off v.leaves) (spliceA arr off x.cells.toList) cells' (by simpa using hpl)
        (fun k off n v i x h1 h2 => hp (k + 1) off n v i x h1 h2) (by rw [size_spliceA (by simp; omega), hlen, hl]) hspl (splice_scal hsc c3) h
      refine ⟨arr', ?_, g2, g3.trans hlen, g4, g5⟩
      unfold Instr.fill
      simp only [hpi]
      have hcond : ¬ ((x.cells.size ≠ n || decide (off + x.cells.size > arr.size)) = true) := by
        simp [hsz]; omega
      rw [if_neg hcond]
      have hfold : (x.cells.zipIdx.foldl (fun (cs : Array Value) (x : Value × Nat) => cs.setIfInBounds (off + x.2) x.1) arr) = spliceA arr off x.cells.toList := by
        rw [← Array.foldl_toList, Array.toList_zipIdx, foldl_set off _ 0 arr (by simp; omega), Nat.add_zero]
      rw [hfold]
      exact g1
    · cases h

/-- Which parts a literal of a struct or an array has, and where they lie. -/
def partsRel (fm : FM) (place : Nat → Option (Nat × Nat)) (parts : List (Nat × Nat × X)) (ps : List (Nat × Operand)) : Prop :=
  ps.length = parts.length ∧ ∀ (k off n : Nat) (x : X) (i : Nat) (o : Operand), parts[k]? = some (off, n, x) → ps[k]? = some (i, o) → place i = some (off, n) ∧ XRel fm x o

/-- Where a type's parts lie. -/
def placeOf (P : Program) (t : TypeId) (i : Nat) : Option (Nat × Nat) :=
  match P.underlying t with
  | some (.struct fs) => (match fs[i]? with | some f => (P.info? f.type).map fun j => (f.offset, j.size) | none => none)
  | some (.array _ e) => (P.info? e).map fun j => (i * j.size, j.size)
  | _ => none

def fieldsOk (P : Program) (fs : List Field) : Bool := fs.all fun f => (P.info? f.type).isSome

theorem mapM_places : ∀ (fs : List Field), fieldsOk P fs = true → ∃ places, fs.mapM (fun f => (P.info? f.type).map fun i => (f.offset, i.size)) = some places ∧ ∀ (i : Nat) (f : Field), fs[i]? = some f → places[i]? = (P.info? f.type).map fun j => (f.offset, j.size)
  | [], _ => ⟨[], rfl, fun i f h => by simp at h⟩
  | f :: fs, h => by
    simp only [fieldsOk, List.all_cons, Bool.and_eq_true] at h
    obtain ⟨places, h1, h2⟩ := mapM_places fs h.2
    obtain ⟨i, hi⟩ := Option.isSome_iff_exists.1 h.1
    refine ⟨(f.offset, i.size) :: places, ?_, ?_⟩
    · rw [List.mapM_cons, hi, h1]; rfl
    · intro k g hk
      cases k with
      | zero => simp only [List.getElem?_cons_zero, Option.some.injEq] at hk; subst hk; simp [hi]
      | succ k => simpa using h2 k g (by simpa using hk)

def buildTyOk (P : Program) (t : TypeId) : Bool :=
  match P.underlying t with
  | some (.struct fs) => fieldsOk P fs.toList
  | some (.array _ e) => (P.info? e).isSome
  | _ => false

theorem opsim_build {t : TypeId} {zs : List DV} {parts : List (Nat × Nat × X)} {ps : Array (Nat × Operand)} {o : Oper} (ho : o.op = .build t ps) (hz : zeroCellsD P t = some zs) (ht : buildTyOk P t = true) (hp : partsRel fm (placeOf P t) parts ps.toList) : OpSimAll P fm (.build zs parts) o := by
  refine opsim_read fun CR G w0 st w fr a v st' hs hf hrun => ?_
  simp only [stepD, Option.map_eq_some_iff] at hrun
  obtain ⟨cs, hcs, hrun⟩ := hrun
  cases hrun
  obtain ⟨i, z, hi, hzz, hc⟩ := zeroCellsD_get hz
  obtain ⟨zl, zr⟩ := cvalLs_rel (fm := fm) hc
  have key : ∀ (place : Nat → Option (Nat × Nat)), (∀ (k i off n : Nat) (x : X) (y : Operand), parts[k]? = some (off, n, x) → ps.toList[k]? = some (i, y) → place i = some (off, n)) → ∃ arr', Instr.fill place z.cells (ps.toList.map fun (i, x) => (i, a.eval x)) = some arr' ∧ Rel fm G (.agg cs) (.agg arr') := by
    intro place hpl
    obtain ⟨arr', g1, g2, g3, g4, g5⟩ := fill_rel (fm := fm) (G := G) (place := place) (parts.map fun (o, n, x) => (o, n, x.ev fr)) (ps.toList.map fun (i, x) => (i, a.eval x)) zs z.cells cs (by simp [hp.1])
      (fun k off n v i x h1 h2 => by
        rw [List.getElem?_map] at h1 h2
        cases e1 : parts[k]? with
        | none => rw [e1] at h1; cases h1
        | some q =>
          cases e2 : ps.toList[k]? with
          | none => rw [e2] at h2; cases h2
          | some q' =>
            obtain ⟨qo, qn, qx⟩ := q
            obtain ⟨qi, qv⟩ := q'
            rw [e1] at h1; rw [e2] at h2
            simp only [Option.map_some, Option.some.injEq, Prod.mk.injEq] at h1 h2
            obtain ⟨rfl, rfl, rfl⟩ := h1
            obtain ⟨rfl, rfl⟩ := h2
            exact ⟨hpl k _ _ _ _ _ e1 e2, (hp.2 k _ _ _ _ _ e1 e2).2.ev hf⟩)
      (by simpa using zl) (fun i hi => by rw [← getD_toList]; exact zr G i hi) (all_pure_scal (cvalLs_pure hc)) hcs
    exact ⟨arr', g1, .agg _ _ g2 g4⟩
  have fin : ∀ arr', P.built t (ps.map fun (i, x) => (i, a.eval x)).toList = some arr' → (execOp a.eval o).run P w = .ok (.value (.agg arr')) w := by
    intro arr' hb
    unfold execOp
    simp only [ho]
    exact andThen_value (run_build w t _ arr' hb)
  have e0 : (ps.map fun (i, x) => (i, a.eval x)).toList = ps.toList.map fun (i, x) => (i, a.eval x) := by rw [Array.toList_map]
  unfold buildTyOk at ht
  split at ht
  · rename_i fs htd
    obtain ⟨places, h1, h2⟩ := mapM_places fs.toList ht
    obtain ⟨arr', g1, g2⟩ := key (places.toArray[·]?) (fun k i off n x y e1 e2 => by
      have := (hp.2 k off n x i y e1 e2).1
      unfold placeOf at this
      rw [htd] at this
      simp only at this
      split at this
      · rename_i f hfk
        rw [← this]
        simpa using h2 i f (by simpa using hfk)
      · cases this)
    refine ⟨rfl, .agg arr', fin arr' ?_, g2⟩
    unfold Program.built
    simp only [hi, htd, hzz, h1, e0]
    exact g1
  · rename_i n e htd
    obtain ⟨j, hj⟩ := Option.isSome_iff_exists.1 ht
    obtain ⟨arr', g1, g2⟩ := key (fun i => some (i * j.size, j.size)) (fun k i off n x y e1 e2 => by
      have := (hp.2 k off n x i y e1 e2).1
      unfold placeOf at this
      rw [htd] at this
      simpa [hj] using this)
    refine ⟨rfl, .agg arr', fin arr' ?_, g2⟩
    unfold Program.built
    simp only [hi, htd, hzz, hj, e0]
    exact g1
  · cases ht


theorem length_repl (zs : List DV) : ∀ k, (repl zs k).length = k * zs.length
  | 0 => by simp [repl]
  | k + 1 => by simp [repl, length_repl zs k, Nat.add_mul]; omega

theorem getElem?_repl (zs : List DV) : ∀ (k i : Nat), i < k * zs.length → (repl zs k)[i]? = zs[i % zs.length]?
  | 0, i, h => by simp at h
  | k + 1, i, h => by
    show (zs ++ repl zs k)[i]? = _
    by_cases e : i < zs.length
    · rw [List.getElem?_append_left e, Nat.mod_eq_of_lt e]
    · rw [List.getElem?_append_right (by omega), getElem?_repl zs k _ (by rw [Nat.add_mul] at h; omega)]
      congr 1
      rw [← Nat.mod_eq_sub_mod (by omega)]

/-- A row of zeros, here and in the model. -/
theorem zeros_rel {G : Gh} {zs : List DV} {z : Array Value} (hl : z.toList.length = zs.length) (hr : ∀ i (h : i < zs.length), Rel fm G (zs[i]) (z.toList.getD i undef)) (k : Nat) :
    ((Array.range (k * zs.length)).map (z[· % z.size]!)).size = (repl zs k).length ∧ ∀ i (h : i < (repl zs k).length), Rel fm G ((repl zs k)[i]) (((Array.range (k * zs.length)).map (z[· % z.size]!)).getD i undef) := by
  refine ⟨by rw [length_repl]; simp, fun i h => ?_⟩
  have hi : i < k * zs.length := by rw [length_repl] at h; exact h
  have hpos : 0 < zs.length := by
    rcases Nat.eq_zero_or_pos zs.length with e | e
    · rw [e] at hi; simp at hi
    · exact e
  have hm : i % zs.length < zs.length := Nat.mod_lt _ hpos
  have e1 : (repl zs k)[i] = zs[i % zs.length] := by
    apply Option.some.inj
    rw [← List.getElem?_eq_getElem h, ← List.getElem?_eq_getElem hm]
    exact getElem?_repl zs k i hi
  rw [e1]
  have hsz : z.size = zs.length := by simpa using hl
  have e2 : ((Array.range (k * zs.length)).map (z[· % z.size]!)).getD i undef = z.toList.getD (i % zs.length) undef := by
    rw [getD_toList, Array.getD_eq_getD_getElem?]
    simp only [Array.getElem?_map, Array.getElem?_range, hi, if_true, Option.map_some, Option.getD_some, hsz]
    have : i % zs.length < z.size := by omega
    simp [this, Array.getD]
  rw [e2]
  exact hr _ hm

/-- A slice's literal, as the model lays it. -/
theorem lit_cells {G : Gh} {t e : TypeId} {n len : Nat} {zs cs : List DV} {i : TypeInfo} {parts : List (Nat × X)} {ps : Array (Nat × Operand)} {fr : Fr} {a : Act} {w : World} (ht : P.underlying t = some (.slice e)) (hi : P.info? e = some i) (hn : i.size = n) (hz : zeroCellsD P e = some zs) (hzl : zs.length = n)
    (hsz : len * n ≤ 16777216) (hp : ps.toList.length = parts.length ∧ ∀ (k j j' : Nat) (x : X) (o : Operand), parts[k]? = some (j, x) → ps.toList[k]? = some (j', o) → j = j' ∧ XRel fm x o) (hf : FrRel fm G fr a.tmps)
    (h : fillD (repl zs len) (parts.map fun (i, x) => (i * n, n, x.ev fr)) = some cs) :
    ∃ arr, (Instr.buildSlice t len (ps.map fun (i, x) => (i, a.eval x))).run P w = .ok (.slice (some ⟨w.heap.size, 0, none⟩) len len) (w.alloc (.cells arr e)) ∧ arr.size = cs.length ∧ cs.length = len * n ∧ (∀ i (h : i < cs.length), Rel fm G (cs[i]) (arr.getD i undef)) ∧ cs.all DV.scal = true := by
  obtain ⟨i', z, hi', hzz, hc⟩ := zeroCellsD_get hz
  rw [hi] at hi'; cases hi'
  obtain ⟨zl, zr⟩ := cvalLs_rel (fm := fm) hc
  obtain ⟨s1, s2⟩ := zeros_rel (fm := fm) (G := G) (zs := zs) (z := z.cells) (by simpa using zl) (fun i hi => zr G i hi) len
  have hscal : (repl zs len).all DV.scal = true := by
    rw [List.all_eq_true]
    intro x hx
    obtain ⟨j, hj, rfl⟩ := List.getElem_of_mem hx
    have hj' := hj
    rw [length_repl] at hj'
    have := getElem?_repl zs len j hj'
    rw [List.getElem?_eq_getElem hj] at this
    exact List.all_eq_true.1 (all_pure_scal (cvalLs_pure hc)) _ (List.mem_of_getElem? this.symm)
  obtain ⟨arr, g1, g2, g3, g4, g5⟩ := fill_rel (fm := fm) (G := G) (place := fun i => some (i * n, n)) (parts.map fun (i, x) => (i * n, n, x.ev fr)) (ps.toList.map fun (i, x) => (i, a.eval x)) (repl zs len) _ cs (by simp [hp.1])
    (fun k off n' v i x h1 h2 => by
      rw [List.getElem?_map] at h1 h2
      cases e1 : parts[k]? with
      | none => rw [e1] at h1; cases h1
      | some q =>
        cases e2 : ps.toList[k]? with
        | none => rw [e2] at h2; cases h2
        | some q' =>
          obtain ⟨qo, qx⟩ := q
          obtain ⟨qi, qv⟩ := q'
          rw [e1] at h1; rw [e2] at h2
          simp only [Option.map_some, Option.some.injEq, Prod.mk.injEq] at h1 h2
          obtain ⟨rfl, rfl, rfl⟩ := h1
          obtain ⟨rfl, rfl⟩ := h2
          obtain ⟨e3, e4⟩ := hp.2 k _ _ _ _ e1 e2
          exact ⟨by rw [e3], e4.ev hf⟩)
    s1 s2 hscal h
  refine ⟨arr, ?_, g2, by rw [g3, length_repl, hzl], g4, g5⟩
  have hsize : (sizeOf e).run P w = .ok n w := by unfold sizeOf typeInfo; simp [hi, hn]
  have hbig : ¬ (len * n > 2 ^ 24) := by omega
  have e0 : (ps.map fun (i, x) => (i, a.eval x)).toList = ps.toList.map fun (i, x) => (i, a.eval x) := by rw [Array.toList_map]
  rw [hzl] at g1
  unfold Instr.buildSlice
  simp only [Sem.run_bind, run_underlying ht, Result.andThen_ok, hsize, if_neg hbig, e0]
  by_cases e : len * n = 0
  · rw [e] at g1 ⊢
    simp only [if_true, Sem.run_bind, Sem.run_pure, Result.andThen_ok]
    have g1' : Instr.fill (fun i => some (i * n, n)) ((Array.range 0).map fun x => (#[] : Array Value)[x % (#[] : Array Value).size]!) (ps.toList.map fun (i, x) => (i, a.eval x)) = some arr := by
      rw [← g1]; congr 1; simp [Array.range]
    rw [g1']
    rfl
  · simp only [if_neg e, Sem.run_bind, run_zero hi hzz, Sem.run_pure, Result.andThen_ok]
    rw [g1]
    rfl

theorem opsim_hlit {t e : TypeId} {n len : Nat} {ag : Bool} {zs : List DV} {i : TypeInfo} {parts : List (Nat × X)} {ps : Array (Nat × Operand)} {o : Oper} (ho : o.op = .buildSlice t len ps) (ht : P.underlying t = some (.slice e)) (hi : P.info? e = some i) (hn : i.size = n) (hz : zeroCellsD P e = some zs) (hzl : zs.length = n)
    (hsz : len * n ≤ 16777216) (hp : ps.toList.length = parts.length ∧ ∀ (k j j' : Nat) (x : X) (o : Operand), parts[k]? = some (j, x) → ps.toList[k]? = some (j', o) → j = j' ∧ XRel fm x o) : OpSimAll P fm (.hlit n ag zs len parts) o := by
  intro CR G w0 st w fr a v st' hs hf hrun
  simp only [stepD] at hrun
  split at hrun
  · rename_i cs hcs
    simp only [Option.some.injEq, Prod.mk.injEq] at hrun
    obtain ⟨rfl, rfl⟩ := hrun
    obtain ⟨arr, h1, h2, h3, h4, h5⟩ := lit_cells (P := P) (w := w) ht hi hn hz hzl hsz hp hf hcs
    have hle := Gh.le_push (r := w.heap.size) (size := 0) hs.muNone
    have hs' := hs.push (o := .cells .plain cs) (ob := .cells arr e) 0 ⟨arr, e, (0, 0), rfl, h2, fun i hi => (h4 i hi).le hle, fun i hi => by simp, h5⟩ rfl
    refine ⟨_, _, .slice (some ⟨w.heap.size, 0, none⟩) len len, _, ?_, .inl rfl, hle, hs', .hsl _ _ _ _ _ _ _ _ (by simp [Gh.push]) ⟨rfl, Nat.le_refl _⟩⟩
    unfold execOp
    simp only [ho]
    exact andThen_value h1
  · cases hrun

/-- What is read alone from now on: a row that has just been laid. -/
def Gh.addRo (G : Gh) (r : Nat) (arr : Array Value) (k : Nat) : Gh := { G with ro := fun r' i => if r' = r then (if i < k then arr[i]? else none) else G.ro r' i }

theorem Gh.le_addRo {CR : Nat → RC → Code → Prop} {G : Gh} {w0 w : World} {st : St} (hs : Sim fm CR G w0 st w) (arr : Array Value) (k : Nat) : G.le (G.addRo w.heap.size arr k) := by
  refine ⟨⟨fun r i v hr => ?_, fun _ _ x => x, fun _ _ _ x => x, fun _ _ _ => rfl⟩, fun _ x => x, fun _ x => x, rfl, fun r i hr => ?_, rfl, rfl, rfl⟩
  · have : r ≠ w.heap.size := Nat.ne_of_lt (hs.ro_lt hr)
    simp only [Gh.addRo, if_neg this]; exact hr
  · have : r ≠ w.heap.size := Nat.ne_of_lt (Nat.lt_of_lt_of_le hr hs.floorLe)
    simp only [Gh.addRo, if_neg this]

theorem Sim.addRo {CR : Nat → RC → Code → Prop} {G : Gh} {w0 w w' : World} {st : St} (hs : Sim fm CR G w0 st w) (hb : Below w.heap.size w w') {arr : Array Value} {e : TypeId} {fz : Nat × Nat} (hnew : w'.heap[w.heap.size]? = some (.cells arr e fz)) (k : Nat) : Sim fm CR (G.addRo w.heap.size arr k) w0 st w' := by
  have h := hs.grow hb
  have hle := (Gh.le_addRo hs arr k).toSub
  refine { muDom := h.muDom, muInj := h.muInj, obj := ?_, ro := ?_, roMu := ?_, tok := ?_, tokInj := h.tokInj, hist := h.hist, dfr := h.dfr, lps := h.lps, floorLe := h.floorLe, below := h.below, base := h.base, tbase := h.tbase, baseLe := h.baseLe, pend := h.pend, env := h.env }
  · intro b o ho hg hpd
    obtain ⟨r, ob, h1, h2, h3, h4⟩ := h.obj b o ho hg hpd
    exact ⟨r, ob, h1, h2, h3.sub hle h1, h4⟩
  · intro r i v hr
    simp only [Gh.addRo] at hr
    split at hr
    · rename_i e1
      subst e1
      split at hr
      · exact ⟨arr, e, fz, hnew, hr⟩
      · cases hr
    · exact h.ro r i v hr
  · intro r i v b o hr ho hg hm
    simp only [Gh.addRo] at hr
    split at hr
    · rename_i e1
      subst e1
      obtain ⟨r', ob, h1, h2, _⟩ := hs.obj b o ho hg (hs.np hm)
      have hm' : G.mu b = some w.heap.size := hm
      rw [hm'] at h1; cases h1
      exact absurd (get?_lt h2) (Nat.lt_irrefl _)
    · exact h.roMu r i v b o hr ho hg hm
  · intro t s ht
    obtain ⟨r, len, cap, n, cs, ty, h1, h2, h3, h4, h5, h6, h7, h8⟩ := hs.tok t s ht
    have hlt := get?_lt h4
    refine ⟨r, len, cap, n, cs, ty, h1, h2, h3, (hb.block r hlt).trans h4, h5, fun i hi => ?_, h7, h8⟩
    simp only [Gh.addRo, if_neg (Nat.ne_of_lt hlt)]
    exact h6 i hi

theorem opsim_lit {t e : TypeId} {n len : Nat} {ag : Bool} {zs : List DV} {i : TypeInfo} {parts : List (Nat × X)} {ps : Array (Nat × Operand)} {o : Oper} (ho : o.op = .buildSlice t len ps) (ht : P.underlying t = some (.slice e)) (hi : P.info? e = some i) (hn : i.size = n) (hz : zeroCellsD P e = some zs) (hzl : zs.length = n) (hag : ag = true ∨ n = 1)
    (hsz : len * n ≤ 16777216) (hp : ps.toList.length = parts.length ∧ ∀ (k j j' : Nat) (x : X) (o : Operand), parts[k]? = some (j, x) → ps.toList[k]? = some (j', o) → j = j' ∧ XRel fm x o) : OpSimAll P fm (.lit n ag zs len parts) o := by
  intro CR G w0 st w fr a v st' hs hf hrun
  simp only [stepD] at hrun
  split at hrun
  · rename_i cs hcs
    split at hrun
    · rename_i hpure
      simp only [Option.some.injEq, Prod.mk.injEq] at hrun
      obtain ⟨rfl, rfl⟩ := hrun
      obtain ⟨arr, h1, h2, h3, h4, h5⟩ := lit_cells (P := P) (w := w) ht hi hn hz hzl hsz hp hf hcs
      have hnew : (w.alloc (.cells arr e)).heap[w.heap.size]? = some (.cells arr e (0, 0)) := World.alloc_heap_new w _
      have hs' := hs.addRo ((Below.refl _ w).alloc (Nat.le_refl _) (.cells arr e)) hnew cs.length
      have hle := Gh.le_addRo hs arr cs.length
      have hml : (cs.map DV.demote).length = len * n := by simp [h3]
      have hfl := flat_chunk n ag hag len (cs.map DV.demote) hml hpure
      have hlc := length_chunk n ag len (cs.map DV.demote)
      have hlist := Rel.list (fm := fm) (G := G.addRo w.heap.size arr cs.length) st.cur n .tight (chunk n ag len (cs.map DV.demote)) w.heap.size 0 len (fun i => arr.getD i undef) ?_ ?_ ?_ ?_ ?_ ?_
      · rw [hlc] at hlist
        refine ⟨_, _, .slice (some ⟨w.heap.size, 0, none⟩) len len, _, ?_, .inl rfl, hle, hs', hlist⟩
        unfold execOp
        simp only [ho]
        exact andThen_value h1
      · intro j hj
        rw [hfl] at hj
        have hj' : j < cs.length := by simpa using hj
        have hj2 : j < arr.size := by omega
        simp [Gh.addRo, hj', hj2]
      · intro j hj
        have hj0 := hj
        rw [hfl] at hj
        have hj' : j < cs.length := by simpa using hj
        have e1 : (flat (chunk n ag len (cs.map DV.demote)))[j] = (cs[j]).demote := by
          apply Option.some.inj
          rw [← List.getElem?_eq_getElem hj0, hfl]
          simp [hj']
        rw [e1]
        exact ((h4 j hj').le hle).demote
      · rw [hfl]; exact hpure
      · rw [hlc]; rfl
      · rw [hlc]; exact Nat.le_refl _
      · exact leaves_chunk n ag hag len _ hml hpure
    · cases hrun
  · cases hrun

end Go.D
