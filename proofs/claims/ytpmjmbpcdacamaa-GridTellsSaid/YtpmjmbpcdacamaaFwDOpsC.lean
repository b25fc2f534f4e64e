/-
Operations on memory: variables, fields, elements.
-/
import Derived.Test.YtpmjmbpcdacamaaFwDOpsB
namespace Go.D
open Go.RowKit

variable {P : Program} {fm : FM}

/-- A constant of one cell. -/
def cvalL : Value → Option DV
  | .bool b => some (.bool b)
  | .int k n => some (.int k n)
  | .string s => some (.str s.data.toList)
  | .pointer none => some .nilp
  | .slice none 0 0 => some nilList
  | .map none => some .nilmap
  | .nilFunc => some .nilfn
  | .nilIface => some .niliface
  | _ => none

def cvalLs : List Value → Option (List DV)
  | [] => some []
  | v :: r => match cvalL v, cvalLs r with | some a, some b => some (a :: b) | _, _ => none

def cval : Value → Option DV
  | .agg cs => (cvalLs cs.toList).map .agg
  | .tuple cs => (cvalLs cs.toList).map .tuple
  | v => cvalL v

theorem cvalL_rel {x : Value} {v : DV} (h : cvalL x = some v) (G : Gh) : Rel fm G v x := by
  unfold cvalL at h
  split at h <;> first
    | (injection h with h; subst h; first | exact .bool _ | exact .int _ _ | exact .str _ _ rfl | exact .nilp | exact .nils _ _ _ | exact .nilmap | exact .nilfn | exact .niliface)
    | cases h

theorem cvalLs_rel : ∀ {xs : List Value} {vs : List DV}, cvalLs xs = some vs → xs.length = vs.length ∧ ∀ (G : Gh) i (h : i < vs.length), Rel fm G (vs[i]) (xs.getD i undef)
  | [], vs, h => by simp only [cvalLs, Option.some.injEq] at h; subst h; exact ⟨rfl, fun G i hi => absurd hi (by simp)⟩
  | x :: xs, vs, h => by
    simp only [cvalLs] at h
    split at h
    · rename_i a b h1 h2
      injection h with h; subst h
      obtain ⟨l, r⟩ := cvalLs_rel h2
      refine ⟨by simp [l], fun G i hi => ?_⟩
      cases i with
      | zero => exact cvalL_rel h1 G
      | succ i => exact r G i (by simpa using hi)
    · cases h

theorem getD_toList (cs : Array Value) (i : Nat) : cs.toList.getD i undef = cs.getD i undef := by
  rw [List.getD_eq_getElem?_getD, Array.getD_eq_getD_getElem?, Array.getElem?_toList]

theorem cval_rel {x : Value} {v : DV} (h : cval x = some v) (G : Gh) : Rel fm G v x := by
  unfold cval at h
  split at h
  · simp only [Option.map_eq_some_iff] at h
    obtain ⟨vs, h, rfl⟩ := h
    obtain ⟨l, r⟩ := cvalLs_rel (fm := fm) h
    exact .agg _ _ (by simpa using l) fun i hi => by rw [← getD_toList]; exact r G i hi
  · simp only [Option.map_eq_some_iff] at h
    obtain ⟨vs, h, rfl⟩ := h
    obtain ⟨l, r⟩ := cvalLs_rel (fm := fm) h
    exact .tuple _ _ (by simpa using l) fun i hi => by rw [← getD_toList]; exact r G i hi
  · exact cvalL_rel h G

theorem cvalL_pure {x : Value} {v : DV} (h : cvalL x = some v) : v.pure = true := by
  unfold cvalL at h
  split at h <;> first | (injection h with h; subst h; rfl) | cases h

theorem pure_scal {v : DV} (h : v.pure = true) : v.scal = true := by cases v <;> first | rfl | simp [DV.pure] at h

theorem cvalLs_pure : ∀ {xs : List Value} {vs : List DV}, cvalLs xs = some vs → vs.all DV.pure = true
  | [], vs, h => by simp only [cvalLs, Option.some.injEq] at h; subst h; rfl
  | x :: xs, vs, h => by
    simp only [cvalLs] at h
    split at h
    · rename_i a b h1 h2
      injection h with h; subst h
      simp [cvalL_pure h1, cvalLs_pure h2]
    · cases h

theorem all_pure_scal {vs : List DV} (h : vs.all DV.pure = true) : vs.all DV.scal = true := by
  rw [List.all_eq_true] at h ⊢
  exact fun v hv => pure_scal (h v hv)

/-- A type's zero, in cells. -/
def zeroCellsD (P : Program) (t : TypeId) : Option (List DV) :=
  match P.info? t with
  | some i => match i.zero with | some z => cvalLs z.cells.toList | none => none
  | none => none

theorem zeroCellsD_get {t : TypeId} {zs : List DV} (h : zeroCellsD P t = some zs) : ∃ i z, P.info? t = some i ∧ i.zero = some z ∧ cvalLs z.cells.toList = some zs := by
  unfold zeroCellsD at h
  split at h
  · rename_i i hi
    split at h
    · rename_i z hz; exact ⟨i, z, hi, hz, h⟩
    · cases h
  · cases h

theorem run_zero {w : World} {t : TypeId} {i : TypeInfo} {z : Value} (hi : P.info? t = some i) (hz : i.zero = some z) : (zeroValue t).run P w = .ok z w := by
  unfold zeroValue typeInfo
  simp [hi, hz]

theorem opsim_alloc {e : TypeId} {zs : List DV} {o : Oper} (ho : o.op = .alloc e) (hz : zeroCellsD P e = some zs) : OpSimAll P fm (.alloc zs) o := by
  obtain ⟨i, z, hi, hzz, hc⟩ := zeroCellsD_get hz
  intro CR G w0 st w fr a v st' hs hf hrun
  simp only [stepD, Option.some.injEq, Prod.mk.injEq] at hrun
  obtain ⟨rfl, rfl⟩ := hrun
  obtain ⟨hl, hr⟩ := cvalLs_rel (fm := fm) hc
  have hs' := hs.push (o := .cells .plain zs) (ob := .cells z.cells e) 0 ⟨z.cells, e, (0, 0), rfl, by simpa using hl, fun i hi => by rw [← getD_toList]; exact hr _ i hi, fun i hi => by simp, all_pure_scal (cvalLs_pure hc)⟩ rfl
  refine ⟨_, _, .pointer (some ⟨w.heap.size, 0, none⟩), _, ?_, .inl rfl, Gh.le_push hs.muNone, hs', .ptr _ _ _ (by simp [Gh.push])⟩
  unfold execOp
  simp only [ho]
  refine andThen_value ?_
  unfold Instr.alloc
  simp only [Sem.run_bind, run_zero hi hzz, Result.andThen_ok]
  rfl

theorem one_rel {G : Gh} {v : DV} {x : Value} (hv : v.leaves = [v]) (hx : x.cells = #[x]) (h : Rel fm G v x) : x.cells.size = v.leaves.length ∧ (∀ i (h : i < v.leaves.length), Rel fm G (v.leaves[i]) (x.cells.getD i undef)) := by
  refine ⟨by rw [hv, hx]; rfl, fun i hi => ?_⟩
  have h0 : i = 0 := by rw [hv] at hi; simpa using hi
  subst h0
  have e1 : v.leaves[0] = v := by simp [hv]
  have e2 : x.cells.getD 0 undef = x := by rw [hx]; rfl
  rw [e1, e2]
  exact h

/-- A value's cells. -/
theorem cells_rel {G : Gh} {v : DV} {x : Value} (h : Rel fm G v x) (hsc : v.leaves.all DV.scal = true) : x.cells.size = v.leaves.length ∧ (∀ i (h : i < v.leaves.length), Rel fm G (v.leaves[i]) (x.cells.getD i undef)) := by
  cases h with
  | agg vs cs hl hc => exact ⟨hl, hc⟩
  | tuple vs cs hl hc => simp [DV.leaves, DV.scal] at hsc
  | undef x => simp [DV.leaves, DV.scal] at hsc
  | bool b => exact one_rel rfl rfl (.bool b)
  | int k n => exact one_rel rfl rfl (.int k n)
  | str l s h => exact one_rel rfl rfl (.str l s h)
  | ptr b off r h => exact one_rel rfl rfl (.ptr b off r h)
  | nilp => exact one_rel rfl rfl .nilp
  | cptr cs r off f hr hc hp => exact one_rel rfl rfl (.cptr cs r off f hr hc hp)
  | nils tag n tk => exact one_rel rfl rfl (.nils tag n tk)
  | list tag n tk xs r off cap f hr hc hp hk hl hn => exact one_rel rfl rfl (.list tag n tk xs r off cap f hr hc hp hk hl hn)
  | hsl n ag b off len cap r c h hc => exact one_rel rfl rfl (.hsl n ag b off len cap r c h hc)
  | map b r h => exact one_rel rfl rfl (.map b r h)
  | nilmap => exact one_rel rfl rfl .nilmap
  | fn g a b f fs cs h h1 h2 hf hc => exact one_rel rfl rfl (.fn g a b f fs cs h h1 h2 hf hc)
  | yield l r h => exact one_rel rfl rfl (.yield l r h)
  | nilfn => exact one_rel rfl rfl .nilfn
  | iface t v x h => exact one_rel rfl rfl (.iface t v x h)
  | niliface => exact one_rel rfl rfl .niliface

theorem scal_one {G : Gh} {v : DV} {x : Value} (h : Rel fm G v x) (hsc : v.scal = true) : x.oneCell' = true := by
  cases h <;> first | rfl | simp [DV.scal] at hsc

theorem cells_one {G : Gh} {v : DV} {x : Value} (h : Rel fm G v x) (hsc : v.leaves.all DV.scal = true) : ∀ u ∈ x.cells.toList, u.oneCell' = true := by
  intro u hu
  obtain ⟨hl, hr⟩ := cells_rel h hsc
  obtain ⟨i, hi, rfl⟩ := List.getElem_of_mem hu
  have hi' : i < v.leaves.length := by rw [← hl]; simpa using hi
  have := hr i hi'
  rw [← getD_toList, List.getD_eq_getElem?_getD, List.getElem?_eq_getElem hi] at this
  exact scal_one this (List.all_eq_true.1 hsc _ (List.getElem_mem hi'))

theorem opsim_box {e : TypeId} {n : Nat} {x : X} {xo : Operand} {o : Oper} (ho : o.op = .box e xo) (hx : XRel fm x xo) : OpSimAll P fm (.box n x) o := by
  intro CR G w0 st w fr a v st' hs hf hrun
  simp only [stepD] at hrun
  have hxv := hx.ev (a := a) hf
  split at hrun
  · rename_i hc
    obtain ⟨hln, hsc⟩ := hc
    simp only [Option.some.injEq, Prod.mk.injEq] at hrun
    obtain ⟨rfl, rfl⟩ := hrun
    obtain ⟨hl, hr⟩ := cells_rel hxv hsc
    have hle := Gh.le_push (r := w.heap.size) (size := 0) hs.muNone
    have hs' := hs.push (o := .cells .plain (x.ev fr).leaves) (ob := .cells (a.eval xo).cells e) 0 ⟨_, e, (0, 0), rfl, hl, fun i hi => (hr i hi).le hle, fun i hi => by simp, hsc⟩ rfl
    refine ⟨_, _, .pointer (some ⟨w.heap.size, 0, none⟩), _, ?_, .inl rfl, hle, hs', .ptr _ _ _ (by simp [Gh.push])⟩
    unfold execOp
    simp only [ho]
    exact andThen_value rfl
  · cases hrun

theorem opsim_load {t : TypeId} {n : Nat} {ag : Bool} {x : X} {xo : Operand} {o : Oper} (ho : o.op = .load t xo) (ht : TyCells P t n ag) (hx : XRel fm x xo) : OpSimAll P fm (.load n ag x) o := by
  refine opsim_read fun CR G w0 st w fr a v st' hs hf hrun => ?_
  simp only [stepD, Option.map_eq_some_iff] at hrun
  obtain ⟨u, hl, hrun⟩ := hrun
  cases hrun
  obtain ⟨ad, y, h1, h2, h3⟩ := run_loadD hs ht (hx.ev (a := a) hf) hl
  refine ⟨rfl, y, ?_, h3⟩
  unfold execOp
  simp only [ho]
  refine andThen_value ?_
  unfold Instr.loadAt
  rw [h1]
  simp only [Instr.sureAddr, Sem.run_bind, Sem.run_pure, Result.andThen_ok, h2]


/-! ### Stores -/
def spliceA (cur : Array Value) (k : Nat) (vs : List Value) : Array Value := (cur.toList.take k ++ vs ++ cur.toList.drop (k + vs.length)).toArray

theorem setRow_putObj {w : World} {g : Nat} {cur cs : Array Value} {t : TypeId} {fz : Nat × Nat} (hg : w.heap[g]? = some (.cells cur t fz)) : w.setRow g cs = w.putObj g (.cells cs t fz) := by
  unfold World.setRow World.putObj
  congr 1
  apply Array.ext_getElem?
  intro k
  rw [Array.getElem?_modify, Array.getElem?_setIfInBounds]
  by_cases e : g = k
  · subst e
    have hlt := get?_lt hg
    have hv : w.heap[g] = .cells cur t fz := (Array.getElem?_eq_some_iff.1 hg).2
    simp [hlt, hv]
  · simp [e]

theorem run_storeCells_row {g off : Nat} {t : TypeId} {fz : Nat × Nat} : ∀ (vs : List Value) (i : Nat) (cur : Array Value) (w : World), w.heap[g]? = some (.cells cur t fz) → off + i + vs.length ≤ cur.size → (∀ j, j < cur.size → ¬ (fz.1 ≤ j ∧ j < fz.2)) → (∀ v ∈ vs, v.oneCell' = true) →
    (storeCells ⟨g, off, none⟩ vs i).run P w = .ok () (w.setRow g (spliceA cur (off + i) vs))
  | [], i, cur, w, hg, _, _, _ => by
    simp only [storeCells, spliceA, List.append_nil, List.length_nil, Nat.add_zero, List.take_append_drop, Array.toArray_toList]
    rw [setRow_self w g cur t fz hg]
    rfl
  | v :: rest, i, cur, w, hg, hl, hfz, h1 => by
    have hi : off + i < cur.size := by simp at hl; omega
    have hadd : (⟨g, off, none⟩ : Addr).add i = ⟨g, off + i, none⟩ := Addr.add_lit _ _ _
    have hcell : w.cell? ⟨g, off + i, none⟩ = some cur[off + i] := by simp [World.cell?, hg, hi]
    have hfro : w.frozen? ⟨g, off + i, none⟩ = false := by
      have := hfz _ hi
      simp [World.frozen?, hg]
      omega
    have hst : (store ((⟨g, off, none⟩ : Addr).add i) v).run P w = .ok () (w.setRow g (cur.setIfInBounds (off + i) v)) := by
      rw [hadd, run_store P w _ v _ (h1 v (by simp)), hcell]
      simp [hfro, setCell_eq_setRow w g (off + i) cur t fz v hg]
    have ih := run_storeCells_row (off := off) rest (i + 1) (cur.setIfInBounds (off + i) v) (w.setRow g (cur.setIfInBounds (off + i) v)) (setRow_heap w g cur _ t _ hg) (by simp at hl ⊢; omega) (by simpa using hfz) (fun x hx => h1 x (by simp [hx]))
    simp only [storeCells, Sem.run_bind, hst, Result.andThen_ok, ih, setRow_setRow]
    unfold spliceA
    congr 3
    have e := list_seg_step cur.toList (off + i) v rest (by simp at hl ⊢; omega)
    simpa [Array.toList_setIfInBounds, Nat.add_assoc] using e

theorem size_spliceA {cur : Array Value} {k : Nat} {vs : List Value} (h : k + vs.length ≤ cur.size) : (spliceA cur k vs).size = cur.size := by
  unfold spliceA
  simp
  omega

theorem length_splice {vs : List DV} {k : Nat} {ns : List DV} (h : k + ns.length ≤ vs.length) : (splice vs k ns).length = vs.length := by
  unfold splice
  simp
  omega

/-- A row of cells, part of it written anew. -/
theorem splice_rel {G : Gh} {vs ns : List DV} {cur : Array Value} {k : Nat} {xs : List Value} (hv : ∀ i (h : i < vs.length), Rel fm G (vs[i]) (cur.getD i undef)) (hl : vs.length ≤ cur.size) (hk : k + ns.length ≤ vs.length) (hx : xs.length = ns.length)
    (hn : ∀ i (h : i < ns.length), Rel fm G (ns[i]) (xs.getD i undef)) : ∀ i (h : i < (splice vs k ns).length), Rel fm G ((splice vs k ns)[i]) ((spliceA cur k xs).getD i undef) := by
  intro i h
  have hi : i < vs.length := by rw [length_splice hk] at h; exact h
  have key : ((spliceA cur k xs).getD i undef) = if i < k then cur.getD i undef else if i < k + xs.length then xs.getD (i - k) undef else cur.getD i undef := by
    rw [← getD_toList]
    unfold spliceA
    simp only [List.getD_eq_getElem?_getD]
    by_cases e1 : i < k
    · rw [if_pos e1, List.append_assoc, List.getElem?_append_left (by simp; omega), List.getElem?_take_of_lt e1, Array.getElem?_toList, Array.getD_eq_getD_getElem?]
    · rw [if_neg e1]
      have hkl : (cur.toList.take k).length = k := by simp; omega
      by_cases e2 : i < k + xs.length
      · rw [if_pos e2, List.append_assoc, List.getElem?_append_right (by omega), hkl, List.getElem?_append_left (by omega)]
      · rw [if_neg e2, List.getElem?_append_right (by rw [List.length_append, hkl]; omega), List.length_append, hkl, List.getElem?_drop, show k + xs.length + (i - (k + xs.length)) = i by omega, Array.getElem?_toList, Array.getD_eq_getD_getElem?]
  rw [key]
  have key2 : (splice vs k ns)[i] = if h1 : i < k then vs[i] else if h2 : i < k + ns.length then ns[i - k]'(by omega) else vs[i] := by
    apply Option.some.inj
    rw [← List.getElem?_eq_getElem h]
    unfold splice
    have hkl : (vs.take k).length = k := by simp; omega
    by_cases e1 : i < k
    · rw [dif_pos e1, List.append_assoc, List.getElem?_append_left (by omega), List.getElem?_take_of_lt e1, List.getElem?_eq_getElem hi]
    · rw [dif_neg e1]
      by_cases e2 : i < k + ns.length
      · rw [dif_pos e2, List.append_assoc, List.getElem?_append_right (by omega), hkl, List.getElem?_append_left (by omega), List.getElem?_eq_getElem]
      · rw [dif_neg e2, List.getElem?_append_right (by rw [List.length_append, hkl]; omega), List.length_append, hkl, List.getElem?_drop, show k + ns.length + (i - (k + ns.length)) = i by omega, List.getElem?_eq_getElem hi]
  rw [key2]
  by_cases e1 : i < k
  · rw [dif_pos e1, if_pos e1]; exact hv i hi
  · rw [dif_neg e1, if_neg e1]
    by_cases e2 : i < k + ns.length
    · rw [dif_pos e2, if_pos (by omega)]; exact hn (i - k) (by omega)
    · rw [dif_neg e2, if_neg (by omega)]; exact hv i hi

theorem splice_scal {vs ns : List DV} {k : Nat} (h1 : vs.all DV.scal = true) (h2 : ns.all DV.scal = true) : (splice vs k ns).all DV.scal = true := by
  rw [List.all_eq_true] at h1 h2 ⊢
  unfold splice
  intro x hx
  simp only [List.mem_append] at hx
  rcases hx with (hx | hx) | hx
  · exact h1 x (List.mem_of_mem_take hx)
  · exact h2 x hx
  · exact h1 x (List.mem_of_mem_drop hx)

/-- Writing into a row of the small heap. -/
theorem sim_splice {CR : Nat → RC → Code → Prop} {G : Gh} {w0 w : World} {st : St} (hs : Sim fm CR G w0 st w) {b : Nat} {g : CK} {vs : List DV} (hw : g.wr = true) (hb : st.heap[b]? = some (.cells g vs)) (hbase : st.base ≤ b) {k : Nat} {ns : List DV} {xs : List Value}
    (hk : k + ns.length ≤ vs.length) (hx : xs.length = ns.length) (hn : ∀ i (h : i < ns.length), Rel fm G (ns[i]) (xs.getD i undef)) (hsc : ns.all DV.scal = true) (h1 : ∀ u ∈ xs, u.oneCell' = true) {r : Nat} (hm : G.mu b = some r) :
    ∃ cur t fz, w.heap[r]? = some (.cells cur t fz) ∧ vs.length ≤ cur.size ∧ (storeCells ⟨r, k, none⟩ xs 0).run P w = .ok () (w.setRow r (spliceA cur k xs)) ∧
      Sim fm CR G w0 { st with heap := st.heap.set b (.cells g (splice vs k ns)) } (w.setRow r (spliceA cur k xs)) := by
  obtain ⟨r', ob, e1, e2, e3, e4⟩ := hs.obj b _ hb rfl (hs.np hm)
  rw [hm] at e1; cases e1
  have key : ∃ cur t fz, ob = .cells cur t fz ∧ vs.length ≤ cur.size ∧ (∀ i (h : i < vs.length), Rel fm G (vs[i]) (cur.getD i undef)) ∧ (∀ i, i < cur.size → ¬ (fz.1 ≤ i ∧ i < fz.2)) ∧ vs.all DV.scal = true := by
    cases g with
    | plain => obtain ⟨cs, t, fz, e, f1, f2, f3, f4⟩ := e3; exact ⟨cs, t, fz, e, by omega, f2, f3, f4⟩
    | typed ty => obtain ⟨cs, t, fz, e, _, f1, f2, f3, f4⟩ := e3; exact ⟨cs, t, fz, e, by omega, f2, f3, f4⟩
    | frz ty => cases hw
    | grown => obtain ⟨cs, t, fz, e, f1, _, f2, f3, f4⟩ := e3; exact ⟨cs, t, fz, e, f1, f2, f3, f4⟩
  obtain ⟨cur, t, fz, rfl, k1, k2, k3, k4⟩ := key
  refine ⟨cur, t, fz, e2, k1, ?_, ?_⟩
  · have := run_storeCells_row (P := P) (off := k) xs 0 cur w e2 (by omega) k3 h1
    rwa [Nat.add_zero] at this
  · rw [setRow_putObj e2]
    refine hs.put hb rfl hm hbase ?_ rfl (fun h => by cases h)
    have hsp := splice_rel (fm := fm) k2 k1 hk hx hn
    have hsz := size_spliceA (cur := cur) (k := k) (vs := xs) (by omega)
    have hln := length_splice hk
    cases g with
    | plain => obtain ⟨cs, t', fz', e, f1, f2, f3, f4⟩ := e3; cases e; exact ⟨_, t, fz, rfl, by rw [hsz, hln]; exact f1, hsp, by rw [hsz]; exact k3, splice_scal k4 hsc⟩
    | typed ty => obtain ⟨cs, t', fz', e, f0, f1, f2, f3, f4⟩ := e3; cases e; exact ⟨_, t, fz, rfl, f0, by rw [hsz, hln]; exact f1, hsp, by rw [hsz]; exact k3, splice_scal k4 hsc⟩
    | frz ty => cases hw
    | grown => obtain ⟨cs, t', fz', e, f1, f5, f2, f3, f4⟩ := e3; cases e; exact ⟨_, t, fz, rfl, by rw [hsz, hln]; exact f1, by rw [hsz]; exact f5, hsp, by rw [hsz]; exact k3, splice_scal k4 hsc⟩

theorem opsim_store {t : TypeId} {n : Nat} {x v : X} {xo vo : Operand} {i : TypeInfo} {o : Oper} (ho : o.op = .store t xo vo) (hi : P.info? t = some i) (hn : i.size = n) (hx : XRel fm x xo) (hv : XRel fm v vo) : OpSimAll P fm (.store n x v) o := by
  intro CR G w0 st w fr a u st' hs hf hrun
  simp only [stepD, Option.map_eq_some_iff] at hrun
  obtain ⟨st1, hst, hrun⟩ := hrun
  cases hrun
  have hxv := hx.ev (a := a) hf
  have hvv := hv.ev (a := a) hf
  generalize x.ev fr = p at hst hxv
  generalize hx0 : a.eval xo = x0 at hxv
  cases p <;> simp only [storeD, reduceCtorEq] at hst
  rename_i b off
  cases hxv with
  | ptr _ _ r hm =>
  split at hst
  · rename_i g vs hcs
    obtain ⟨hcs, hw⟩ := cellsW_get hcs
    unfold St.cells at hcs
    split at hcs
    · rename_i g' vs' hb
      simp only [Option.some.injEq, Prod.mk.injEq] at hcs
      obtain ⟨rfl, rfl⟩ := hcs
      split at hst
      · rename_i hc
        obtain ⟨c1, c2, c3, c4⟩ := hc
        injection hst with hst; subst hst
        obtain ⟨l1, r1⟩ := cells_rel hvv c4
        obtain ⟨cur, ty, fz, h1, h2, h3, h4⟩ := sim_splice (P := P) hs hw hb c1 (k := off) (ns := (v.ev fr).leaves) (xs := (a.eval vo).cells.toList) (by omega) (by simpa using l1) (fun i hi => by rw [getD_toList]; exact r1 i hi) c4 (cells_one hvv c4) hm
        refine ⟨G, _, undef, .skip, ?_, .inr ⟨rfl, rfl⟩, .refl G, h4, .undef _⟩
        unfold execOp
        simp only [ho]
        refine andThen_skip ?_
        unfold Instr.storeAt storeVar
        have hsz : (sizeOf t).run P w = .ok n w := by unfold sizeOf typeInfo; simp [hi, hn]
        have hcsz : (a.eval vo).cells.size = n := by rw [l1, c2]
        simp only [hx0, Instr.sureAddr, Sem.run_bind, Sem.run_pure, Result.andThen_ok, hsz, hcsz, ne_eq, not_true_eq_false, if_false]
        exact h3
      · cases hst
    · cases hcs
  · cases hst

end Go.D
