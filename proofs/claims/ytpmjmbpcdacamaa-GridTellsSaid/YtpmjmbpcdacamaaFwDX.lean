/-
How a function is walked: what was there when it began, and what it laid since.
-/
import Derived.Test.YtpmjmbpcdacamaaFwDArg2
import Derived.IntWalk
import Derived.KernelRfl
namespace Go.D
variable {T : Tab}

/-- Within a call that keeps nothing: what was there, and what was laid since. -/
def pst (st : St) (H : List HO) (K : List Nat) : St := ⟨st.heap ++ H, st.toks ++ K, st.cur, st.heap.length, st.toks.length⟩

theorem enter_pst (st : St) : st.enter = pst st [] [] := by
  simp [St.enter, pst]

/-- What a function tells, out of how its body ended. -/
def fin (st : St) (rs : List RRes) : Option (Ex × Fr × St) → Option (DV × St)
  | some (.exit _, _, _) => none
  | some (.ret, fr, st') => match resD st' fr rs with | some v => (exportT st st' v).map fun v' => (v', st) | none => none
  | some (.normal, fr, st') => match resD st' fr rs with | some v => (exportT st st' v).map fun v' => (v', st) | none => none
  | none => none

def finS (rs : List RRes) : Option (Ex × Fr × St) → Option (DV × St)
  | some (.exit _, _, _) => none
  | some (.ret, fr, st') => (resD st' fr rs).map fun v => (v, st')
  | some (.normal, fr, st') => (resD st' fr rs).map fun v => (v, st')
  | none => none

theorem F_run {g : Nat} {f : RFunc} (h : T g = some (.code f)) (hp : f.pureF = true) (args : List DV) (st : St) :
    (E T).F g args st = fin st f.results ((E T).C f.body (frame0 args 0) (pst st [] [])) := by
  rw [EF]
  simp only [callFR, h, hp, if_true, enter_pst]
  rcases (E T).C f.body (frame0 args 0) (pst st [] []) with _ | ⟨e, fr, st'⟩
  · rfl
  · cases e <;> rfl

theorem F_go {g : Nat} {f : RFunc} (h : T g = some (.code f)) (hp : f.pureF = false) (args : List DV) (st : St) :
    (E T).F g args st = finS f.results ((E T).C f.body (frame0 args 0) st) := by
  rw [EF]
  simp only [callFR, h, hp]
  rcases (E T).C f.body (frame0 args 0) st with _ | ⟨e, fr, st'⟩
  · rfl
  · cases e <;> rfl

@[simp] theorem fin_ret (st : St) (rs : List RRes) (fr : Fr) (st' : St) : fin st rs (some (.ret, fr, st')) = match resD st' fr rs with | some v => (exportT st st' v).map fun v' => (v', st) | none => none := rfl
@[simp] theorem fin_normal (st : St) (rs : List RRes) (fr : Fr) (st' : St) : fin st rs (some (.normal, fr, st')) = match resD st' fr rs with | some v => (exportT st st' v).map fun v' => (v', st) | none => none := rfl
@[simp] theorem finS_ret (rs : List RRes) (fr : Fr) (st' : St) : finS rs (some (.ret, fr, st')) = (resD st' fr rs).map fun v => (v, st') := rfl
@[simp] theorem finS_normal (rs : List RRes) (fr : Fr) (st' : St) : finS rs (some (.normal, fr, st')) = (resD st' fr rs).map fun v => (v, st') := rfl

/-! Results -/
attribute [simp] resD resAll resOne
@[simp] theorem ex_int (st st' : St) (k : IntKind) (n : Int) : exportL st st' (.int k n) = some (.int k n) := rfl
@[simp] theorem ex_bool (st st' : St) (b : Bool) : exportL st st' (.bool b) = some (.bool b) := rfl
@[simp] theorem ex_str (st st' : St) (s : List UInt8) : exportL st st' (.str s) = some (.str s) := rfl
@[simp] theorem ex_nilp (st st' : St) : exportL st st' .nilp = some .nilp := rfl
@[simp] theorem ex_nilmap (st st' : St) : exportL st st' .nilmap = some .nilmap := rfl
@[simp] theorem ex_nilfn (st st' : St) : exportL st st' .nilfn = some .nilfn := rfl
@[simp] theorem ex_cptr (st st' : St) (cs : List DV) : exportL st st' (.cptr cs) = some (.cptr cs) := rfl
@[simp] theorem ex_list (st st' : St) (tag n : Nat) (tk : Tk) (nn : Bool) (xs : List DV) : exportL st st' (.list tag n tk nn xs) = some (.list tag n (match tk with | .own _ _ => .no | k => k) nn xs) := rfl
@[simp] theorem exLs_nil (st st' : St) : exportLs st st' [] = some [] := rfl
@[simp] theorem exLs_cons (st st' : St) (v : DV) (r : List DV) : exportLs st st' (v :: r) = match exportL st st' v, exportLs st st' r with | some a, some b => some (a :: b) | _, _ => none := rfl
@[simp] theorem exAs_nil (st st' : St) : exportAs st st' [] = some [] := rfl
@[simp] theorem exAs_cons (st st' : St) (v : DV) (r : List DV) : exportAs st st' (v :: r) = match exportA st st' v, exportAs st st' r with | some a, some b => some (a :: b) | _, _ => none := rfl
@[simp] theorem exT_tuple (st st' : St) (vs : List DV) : exportT st st' (.tuple vs) = (exportAs st st' vs).map .tuple := rfl
@[simp] theorem exA_agg (st st' : St) (vs : List DV) : exportA st st' (.agg vs) = (exportLs st st' vs).map .agg := rfl
theorem exA_of {st st' : St} {v : DV} (h : ∀ vs, v ≠ .agg vs) : exportA st st' v = exportL st st' v := by
  cases v <;> first | rfl | exact absurd rfl (h _)
@[simp] theorem exA_int (st st' : St) (k : IntKind) (n : Int) : exportA st st' (.int k n) = some (.int k n) := rfl
@[simp] theorem exA_bool (st st' : St) (b : Bool) : exportA st st' (.bool b) = some (.bool b) := rfl
@[simp] theorem exA_str (st st' : St) (s : List UInt8) : exportA st st' (.str s) = some (.str s) := rfl
@[simp] theorem exA_nilp (st st' : St) : exportA st st' .nilp = some .nilp := rfl
@[simp] theorem exA_list (st st' : St) (tag n : Nat) (tk : Tk) (nn : Bool) (xs : List DV) : exportA st st' (.list tag n tk nn xs) = exportL st st' (.list tag n tk nn xs) := rfl
@[simp] theorem exA_hsl (st st' : St) (n : Nat) (ag : Bool) (b off len : Nat) (cap : Option Nat) : exportA st st' (.hsl n ag b off len cap) = exportL st st' (.hsl n ag b off len cap) := rfl
@[simp] theorem exT_int (st st' : St) (k : IntKind) (n : Int) : exportT st st' (.int k n) = some (.int k n) := rfl
@[simp] theorem exT_bool (st st' : St) (b : Bool) : exportT st st' (.bool b) = some (.bool b) := rfl
@[simp] theorem exT_str (st st' : St) (s : List UInt8) : exportT st st' (.str s) = some (.str s) := rfl
@[simp] theorem exT_nilp (st st' : St) : exportT st st' .nilp = some .nilp := rfl
@[simp] theorem exT_agg (st st' : St) (vs : List DV) : exportT st st' (.agg vs) = (exportLs st st' vs).map .agg := rfl
@[simp] theorem exT_list (st st' : St) (tag n : Nat) (tk : Tk) (nn : Bool) (xs : List DV) : exportT st st' (.list tag n tk nn xs) = exportL st st' (.list tag n tk nn xs) := rfl
@[simp] theorem exT_hsl (st st' : St) (n : Nat) (ag : Bool) (b off len : Nat) (cap : Option Nat) : exportT st st' (.hsl n ag b off len cap) = exportL st st' (.hsl n ag b off len cap) := rfl

/-! What is laid -/
@[simp] theorem pst_push (st : St) (H : List HO) (K : List Nat) (o : HO) : (pst st H K).push o = pst st (H ++ [o]) K := by simp [pst, St.push]
@[simp] theorem pst_len (st : St) (H : List HO) (K : List Nat) : (pst st H K).heap.length = st.heap.length + H.length := by simp [pst]
@[simp] theorem pst_toks (st : St) (H : List HO) (K : List Nat) : (pst st H K).toks.length = st.toks.length + K.length := by simp [pst]
@[simp] theorem pst_cur (st : St) (H : List HO) (K : List Nat) : (pst st H K).cur = st.cur := rfl
@[simp] theorem pst_base (st : St) (H : List HO) (K : List Nat) : (pst st H K).base = st.heap.length := rfl
@[simp] theorem pst_tbase (st : St) (H : List HO) (K : List Nat) : (pst st H K).tbase = st.toks.length := rfl
theorem app_at {α : Type} (J H : List α) (k : Nat) : (J ++ H)[J.length + k]? = H[k]? := by
  rw [List.getElem?_append_right (Nat.le_add_right _ _), Nat.add_sub_cancel_left]
@[simp high] theorem pst_heap (st : St) (H : List HO) (K : List Nat) (k : Nat) : (pst st H K).heap[st.heap.length + k]? = H[k]? := app_at _ _ _
@[simp high] theorem pst_heap0 (st : St) (H : List HO) (K : List Nat) : (pst st H K).heap[st.heap.length]? = H[0]? := by simpa using pst_heap st H K 0
@[simp high] theorem pst_tok (st : St) (H : List HO) (K : List Nat) (k : Nat) : (pst st H K).toks[st.toks.length + k]? = K[k]? := app_at _ _ _
@[simp high] theorem pst_tok0 (st : St) (H : List HO) (K : List Nat) : (pst st H K).toks[st.toks.length]? = K[0]? := by simpa using pst_tok st H K 0

/-- A row among those that were laid. -/
def rowAt (H : List HO) (k : Nat) : Option (CK × List DV) := match H[k]? with | some (.cells g vs) => some (g, vs) | _ => none
@[simp] theorem rowAt_zero (g : CK) (vs : List DV) (H : List HO) : rowAt (.cells g vs :: H) 0 = some (g, vs) := rfl
@[simp] theorem rowAt_succ (o : HO) (H : List HO) (k : Nat) : rowAt (o :: H) (k + 1) = rowAt H k := rfl
@[simp] theorem rowAt_app (g : CK) (vs : List DV) (J H : List HO) : rowAt (J ++ .cells g vs :: H) J.length = some (g, vs) := by simp [rowAt]
@[simp] theorem rowAt_app2 (o : HO) (J H : List HO) (k : Nat) : rowAt (J ++ o :: H) (J.length + (k + 1)) = rowAt H k := by
  unfold rowAt
  rw [app_at]
  rfl

@[simp] theorem pst_cells (st : St) (H : List HO) (K : List Nat) (k : Nat) : (pst st H K).cells (st.heap.length + k) = rowAt H k := by
  unfold St.cells rowAt
  rw [pst_heap]
  rfl
@[simp] theorem pst_cells0 (st : St) (H : List HO) (K : List Nat) : (pst st H K).cells st.heap.length = rowAt H 0 := by simpa using pst_cells st H K 0

@[simp] theorem pst_store (st : St) (H : List HO) (K : List Nat) (k n off : Nat) (v : DV) : storeD (pst st H K) n (.ptr (st.heap.length + k) off) v =
    match rowAt H k with
    | some (g, vs) => if g.wr = true ∧ v.leaves.length = n ∧ off + n ≤ vs.length ∧ v.leaves.all DV.scal = true then some (pst st (H.set k (.cells g (splice vs off v.leaves))) K) else none
    | none => none := by
  unfold storeD St.cellsW
  simp only [pst_cells, pst_base]
  cases h : rowAt H k with
  | none => rfl
  | some p =>
    obtain ⟨g, vs⟩ := p
    have hk : k < H.length := by
      unfold rowAt at h
      split at h
      · rename_i e; exact (List.getElem?_eq_some_iff.1 e).1
      · cases h
    cases hw : g.wr
    · simp [hw]
    · simp only [hw, if_true, true_and, Nat.le_add_right]
      split
      · rename_i hc
        simp [pst, List.set_append_right]
      · rfl
@[simp] theorem pst_store0 (st : St) (H : List HO) (K : List Nat) (n off : Nat) (v : DV) : storeD (pst st H K) n (.ptr st.heap.length off) v =
    match rowAt H 0 with
    | some (g, vs) => if g.wr = true ∧ v.leaves.length = n ∧ off + n ≤ vs.length ∧ v.leaves.all DV.scal = true then some (pst st (H.set 0 (.cells g (splice vs off v.leaves))) K) else none
    | none => none := pst_store st H K 0 n off v

@[simp] theorem set_app (J H : List HO) (o x : HO) : (J ++ o :: H).set J.length x = J ++ x :: H := by simp [List.set_append_right]
@[simp] theorem set_app2 (J H : List HO) (o x : HO) (k : Nat) : (J ++ o :: H).set (J.length + (k + 1)) x = J ++ o :: H.set k x := by simp [List.set_append_right]

attribute [simp] splice CK.wr fillD
@[simp] theorem scal_int (k : IntKind) (n : Int) : (DV.int k n).scal = true := rfl
@[simp] theorem scal_bool (b : Bool) : (DV.bool b).scal = true := rfl
@[simp] theorem scal_str (s : List UInt8) : (DV.str s).scal = true := rfl
@[simp] theorem scal_ptr (b o : Nat) : (DV.ptr b o).scal = true := rfl
@[simp] theorem scal_nilp : DV.nilp.scal = true := rfl
@[simp] theorem scal_cptr (cs : List DV) : (DV.cptr cs).scal = true := rfl
@[simp] theorem scal_list (t n : Nat) (tk : Tk) (nn : Bool) (xs : List DV) : (DV.list t n tk nn xs).scal = true := rfl
@[simp] theorem scal_hsl (n : Nat) (ag : Bool) (b off len : Nat) (cap : Option Nat) : (DV.hsl n ag b off len cap).scal = true := rfl
@[simp] theorem scal_map (b : Nat) : (DV.map b).scal = true := rfl
@[simp] theorem scal_nilmap : DV.nilmap.scal = true := rfl
@[simp] theorem scal_fn (g : Nat) (a c : List DV) : (DV.fn g a c).scal = true := rfl
@[simp] theorem scal_nilfn : DV.nilfn.scal = true := rfl
@[simp] theorem scal_yield (l : Nat) : (DV.yield l).scal = true := rfl
@[simp] theorem leaves_ptr (b o : Nat) : (DV.ptr b o).leaves = [.ptr b o] := rfl
@[simp] theorem leaves_nilp : DV.nilp.leaves = [.nilp] := rfl
@[simp] theorem leaves_hsl (n : Nat) (ag : Bool) (b off len : Nat) (cap : Option Nat) : (DV.hsl n ag b off len cap).leaves = [.hsl n ag b off len cap] := rfl
@[simp] theorem leaves_map (b : Nat) : (DV.map b).leaves = [.map b] := rfl
@[simp] theorem leaves_nilmap : DV.nilmap.leaves = [.nilmap] := rfl
@[simp] theorem leaves_fn (g : Nat) (a c : List DV) : (DV.fn g a c).leaves = [.fn g a c] := rfl
@[simp] theorem leaves_nilfn : DV.nilfn.leaves = [.nilfn] := rfl

/-- A loop looks at what it keeps alone. -/
theorem keep_get (fr : Fr) (l : List Nat) (t : Nat) : (fr.keep l).get t = if t ∈ l then fr.get t else .undef := by
  induction l with
  | nil => rfl
  | cons a l ih =>
    rw [keep_cons]
    simp only [get_cons, List.mem_cons, ih]
    by_cases h : a = t
    · subst h; simp
    · have : t ≠ a := fun e => h e.symm
      simp [h, this]
theorem keep_keep (fr : Fr) (l : List Nat) : (fr.keep l).keep l = fr.keep l := by
  unfold Fr.keep
  apply List.map_congr_left
  intro t ht
  have := keep_get fr l t
  rw [if_pos ht] at this
  exact Prod.ext rfl this
theorem C_loop_keep (live : List Nat) (a : RC) (fr : Fr) (st : St) : (E T).C (.loop live a) fr st = (E T).C (.loop live a) (fr.keep live) st := by
  rw [C_loop, C_loop live a (fr.keep live), keep_keep]

/-- A named loop's turn. -/
theorem C_turn {L : RC} {live : List Nat} {a : RC} (h : L = .loop live a) (fr : Fr) (st : St) :
    (E T).C L fr st = match (E T).C a (fr.keep live) st with
      | some (.normal, fr', st') => (E T).C L fr' st'
      | some (.exit i, fr', st') => some (.exit i, fr', st')
      | some (.ret, fr', st') => some (.ret, fr', st')
      | none => none := by
  subst h
  exact C_loop live a fr st

/-- What is not loud leaves the state as it was. -/
theorem N_quiet {o : ROper} {fr : Fr} {st st' : St} {v : DV} (hq : loudD (isPure T) o.op = false) (h : (E T).N o fr st = some (v, st')) : st' = st := by
  have hF : ∀ (g : Nat) (as : List DV), isPure T g = true → (E T).F g as st = some (v, st') → st' = st := by
    intro g as hg h
    rw [EF] at h
    simp only [callFR] at h
    unfold isPure at hg
    split at h
    · cases h
    · rename_i e; rw [e] at hg; cases hg
    · simp only [Option.map_eq_some_iff, Prod.mk.injEq] at h
      obtain ⟨_, _, _, h⟩ := h
      exact h.symm
    · rename_i f e
      rw [e] at hg
      simp only at hg
      simp only [hg, if_true] at h
      split at h
      · cases h
      · split at h
        · simp only [Option.map_eq_some_iff, Prod.mk.injEq] at h
          obtain ⟨_, _, _, h⟩ := h
          exact h.symm
        · cases h
      · cases h
  rw [EN] at h
  simp only [runOneR] at h
  split at h
  · cases h
  · cases h; rfl
  · split at h
    · rename_i g args e
      rw [e] at hq
      exact hF g _ (by simpa [loudD] using hq) h
    · rename_i e; rw [e] at hq; cases hq
    · rename_i f args e
      split at h
      · split at h
        · rename_i hg; exact hF _ _ hg h
        · cases h
      · cases h
    · exact stepD_quiet hq h

@[simp] theorem S_nil (fr : Fr) (st : St) (sts : List St) : (E T).S [] fr st sts = some (fr, sts) := ES _ _ _ _ _
theorem S_cons (o : ROper) (r : List ROper) (fr : Fr) (st : St) (sts : List St) :
    (E T).S (o :: r) fr st sts = match (E T).N o fr st with
      | some (v, st') => if loudD (isPure T) o.op then (E T).S r (fr.put o.dst v) st' (st' :: sts) else (E T).S r (fr.put o.dst v) st sts
      | none => none := ES _ _ _ _ _

theorem S_O : ∀ (ops : List ROper) (fr : Fr) (st : St) (sts : List St), ((E T).S ops fr st (st :: sts)).bind (fun p => p.2.head?.map fun st' => (p.1, st')) = (E T).O ops fr st
  | [], fr, st, sts => by simp
  | o :: r, fr, st, sts => by
    rw [S_cons, O_cons]
    cases e : (E T).N o fr st with
    | none => rfl
    | some p =>
      obtain ⟨v, st'⟩ := p
      simp only
      cases hl : loudD (isPure T) o.op with
      | true => simp only [if_true]; exact S_O r _ st' (st :: sts)
      | false =>
        obtain rfl := N_quiet hl e
        simp only [Bool.false_eq_true, if_false]
        exact S_O r _ st' sts

/-- A region that draws its order, where nothing is asked of the order. -/
@[simp] theorem C_dregion0 (ops : List ROper) (live : List Nat) (fr : Fr) (st : St) : (E T).C (.dregion ops [] [] live) fr st = (E T).C (.region ops live) fr st := by
  rw [C_region, ← S_O ops fr st [], EC]
  simp only [runCR, prepH]
  cases e : (E T).S ops fr st [st] with
  | none => rfl
  | some p =>
    obtain ⟨fr', sts⟩ := p
    have hA : (E T).A fr' ops sts.reverse [] = true := EA _ _ _ _ _
    simp only [hA, if_true, Option.bind_some]
    cases sts <;> rfl

/-- A region that draws its order, where operations are asked at states. -/
theorem C_dregionN (ops : List ROper) (c : Nat × List Nat) (chk : List (Nat × List Nat)) (live : List Nat) (fr : Fr) (st : St) : (E T).C (.dregion ops [] (c :: chk) live) fr st =
    match (E T).S ops fr st [st] with
    | some (fr', sts) => if (E T).A fr' ops sts.reverse (c :: chk) = true then (match sts with | st' :: _ => some (.normal, fr'.keep live, st') | [] => none) else none
    | none => none := by
  rw [EC]
  simp only [runCR, prepH]
  all_goals cases (E T).S ops fr st [st] with
  | none => rfl
  | some p => obtain ⟨fr', sts⟩ := p; rfl
@[simp] theorem A_nil (fr : Fr) (ops : List ROper) (sts : List St) : (E T).A fr ops sts [] = true := EA _ _ _ _ _
theorem A_cons (fr : Fr) (ops : List ROper) (sts : List St) (i : Nat) (vs : List Nat) (r : List (Nat × List Nat)) :
    (E T).A fr ops sts ((i, vs) :: r) = ((match ops[i]? with | some o => (E T).K fr o sts vs | none => false) && (E T).A fr ops sts r) := EA _ _ _ _ _
@[simp] theorem K_nil (fr : Fr) (o : ROper) (sts : List St) : (E T).K fr o sts [] = true := EK _ _ _ _ _
theorem K_cons (fr : Fr) (o : ROper) (sts : List St) (j : Nat) (r : List Nat) :
    (E T).K fr o sts (j :: r) = ((match sts[j]? with
     | some st => (match (E T).N o fr st, o.dst with | some (v, _), some d => DV.beq v (fr.get d) | _, _ => false)
     | none => false) && (E T).K fr o sts r) := EK _ _ _ _ _
@[simp] theorem beq_self' (v : DV) : DV.beq v v = true := DV.beq_self v
theorem isPure_of {g : Nat} {f : RFunc} (h : T g = some (.code f)) : isPure T g = f.pureF := by unfold isPure; rw [h]

/-! Loops over functions -/
def St.putH (st : St) (l : Nat) (o : HO) : St := { st with heap := st.heap.set l o }
@[simp] theorem pst_putH (st : St) (H : List HO) (K : List Nat) (k : Nat) (o : HO) : (pst st H K).putH (st.heap.length + k) o = pst st (H.set k o) K := by
  simp [St.putH, pst, List.set_append_right]
@[simp] theorem pst_putH0 (st : St) (H : List HO) (K : List Nat) (o : HO) : (pst st H K).putH st.heap.length o = pst st (H.set 0 o) K := pst_putH st H K 0 o

theorem isCode_of {g : Nat} {f : RFunc} (h : T g = some (.code f)) : isCode T g = true := by unfold isCode; rw [h]

theorem C_rfunc {f : X} {params live : List Nat} {assign body : RC} {fr : Fr} {st : St} {g : Nat} {first captured : List DV} {F : RFunc} (hf : f.ev (fr.keep live) = .fn g first captured) (hg : T g = some (.code F)) :
    (E T).C (.rfunc f params assign body live) fr st =
      match (E T).F g (first ++ [.yield st.heap.length] ++ captured) (st.push (.loop ⟨fr.keep live, params, assign, body, 0, none⟩)) with
      | some (_, st') =>
        match st'.heap[st.heap.length]? with
        | some (.loop lo) => if lo.state = 1 then none else
            match lo.pending with
            | none => some (.normal, fr.keep live, st'.putH st.heap.length (.loop { lo with state := 3 }))
            | some e => some (e, fr.keep live, st'.putH st.heap.length (.loop { lo with state := 3 }))
        | _ => none
      | none => none := by
  rw [EC]
  simp only [runCR, hf, isCode_of hg, if_true]
  rfl

theorem V_fn (g : Nat) (first captured args : List DV) (st : St) : (E T).V (.fn g first captured) args st = (E T).F g (first ++ args ++ captured) st := EV _ _ _ _

/-- A turn of a loop over a function. -/
theorem V_yield {st : St} {H : List HO} {K : List Nat} {k : Nat} {lo : LoopObj} {args : List DV} (h : H[k]? = some (.loop lo)) (hl : args.length = lo.params.length) :
    (E T).V (.yield (st.heap.length + k)) args (pst st H K) =
      match (E T).C lo.assign (setParams lo.fr lo.params args) (pst st H K) with
      | some (.normal, fr1, st1) =>
        match st1.heap[st.heap.length + k]? with
        | some (.loop lo1) =>
          if lo1.state = 0 then
            match (E T).C lo.body fr1 (st1.putH (st.heap.length + k) (.loop { lo1 with state := 1 })) with
            | some (.normal, _, st2) =>
              match st2.heap[st.heap.length + k]? with
              | some (.loop lo2) => some (.bool true, st2.putH (st.heap.length + k) (.loop { lo2 with state := 0, pending := none }))
              | _ => none
            | some (.exit i, _, st2) =>
              match st2.heap[st.heap.length + k]? with
              | some (.loop lo2) => some (.bool false, st2.putH (st.heap.length + k) (.loop { lo2 with state := 2, pending := some (.exit i) }))
              | _ => none
            | some (.ret, _, st2) =>
              match st2.heap[st.heap.length + k]? with
              | some (.loop lo2) => some (.bool false, st2.putH (st.heap.length + k) (.loop { lo2 with state := 2, pending := some .ret }))
              | _ => none
            | none => none
          else none
        | _ => none
      | _ => none := by
  rw [EV]
  simp only [callVR, pst_heap, h, pst_base, Nat.le_add_right, hl, and_self, if_true]
  rcases (E T).C lo.assign (setParams lo.fr lo.params args) (pst st H K) with _ | ⟨e, fr1, st1⟩
  · rfl
  · cases e <;> try rfl
    simp only
    cases e1 : st1.heap[st.heap.length + k]? with
    | none => rfl
    | some o =>
      cases o <;> try rfl
      simp only
      split
      · rename_i lo1 h0
        show (match (E T).C lo.body fr1 (st1.putH (st.heap.length + k) (.loop { lo1 with state := 1 })) with | some (e, _, st2) => _ | none => none) = _
        rcases (E T).C lo.body fr1 (st1.putH (st.heap.length + k) (.loop { lo1 with state := 1 })) with _ | ⟨e, fr2, st2⟩
        · rfl
        · cases e <;> rfl
      · rfl

@[simp] theorem op_callv (f : X) (args : List X) (fr : Fr) (st : St) : opE T (.callv f args) fr st = (E T).V (f.ev fr) (args.map (X.ev fr)) st := rfl
theorem op_callp {f : X} {args : List X} {fr : Fr} {st : St} {g : Nat} {first captured : List DV} (h : f.ev fr = .fn g first captured) (hp : isPure T g = true) :
    opE T (.callp f args) fr st = (E T).F g (first ++ args.map (X.ev fr) ++ captured) st := by
  unfold opE
  simp only [h, hp, if_true]
attribute [simp] setParams

/-! Slices -/
def slTk (tk : Tk) (len lo hi : Nat) : Tk := if hi = len then (if lo = 0 then tk else if tk = .tight then .tight else .no) else .no

theorem bnd_int {k : IntKind} {i : Int} {m : Nat} (h0 : 0 ≤ i) (h1 : i ≤ m) : bnd (.int k i) m = some i.toNat := by
  simp [bnd, h0, h1]

theorem slice_ll {n en t : Nat} {tk : Tk} {nn : Bool} {xs : List DV} {k k' : IntKind} {lo hi : Int} (hn : nn = true → en = n) (h0 : 0 ≤ lo) (h1 : lo ≤ hi) (h2 : hi ≤ xs.length) :
    sliceD false n (.list t en tk nn xs) (some (.int k lo)) (some (.int k' hi)) none = some (.list t en (slTk tk xs.length lo.toNat hi.toNat) nn ((xs.drop lo.toNat).take (hi.toNat - lo.toNat))) := by
  have e1 : ¬ (nn = true ∧ en ≠ n) := fun h => h.2 (hn h.1)
  simp [sliceD, e1, bnd_int (k := k') (show 0 ≤ hi by omega) h2, bnd_int (k := k) (m := hi.toNat) h0 (by omega), slTk]

theorem slice_l {n en t : Nat} {tk : Tk} {nn : Bool} {xs : List DV} {k : IntKind} {lo : Int} (hn : nn = true → en = n) (h0 : 0 ≤ lo) (h2 : lo ≤ xs.length) :
    sliceD false n (.list t en tk nn xs) (some (.int k lo)) none none = some (.list t en (slTk tk xs.length lo.toNat xs.length) nn (xs.drop lo.toNat)) := by
  have e1 : ¬ (nn = true ∧ en ≠ n) := fun h => h.2 (hn h.1)
  have e : (xs.drop lo.toNat).take (xs.length - lo.toNat) = xs.drop lo.toNat := List.take_of_length_le (by simp)
  simp [sliceD, e1, bnd_int (k := k) (m := xs.length) h0 (by omega), slTk, e]

theorem slice_u {n en t : Nat} {tk : Tk} {nn : Bool} {xs : List DV} {k : IntKind} {hi : Int} (hn : nn = true → en = n) (h0 : 0 ≤ hi) (h2 : hi ≤ xs.length) :
    sliceD false n (.list t en tk nn xs) none (some (.int k hi)) none = some (.list t en (slTk tk xs.length 0 hi.toNat) nn (xs.take hi.toNat)) := by
  have e1 : ¬ (nn = true ∧ en ≠ n) := fun h => h.2 (hn h.1)
  simp [sliceD, e1, bnd_int (k := k) (m := xs.length) h0 (by omega), slTk]

theorem slice_ss {n : Nat} {s : List UInt8} {k k' : IntKind} {lo hi : Int} (h0 : 0 ≤ lo) (h1 : lo ≤ hi) (h2 : hi ≤ s.length) :
    sliceD true n (.str s) (some (.int k lo)) (some (.int k' hi)) none = some (.str ((s.drop lo.toNat).take (hi.toNat - lo.toNat))) := by
  simp [sliceD, bnd_int (k := k') (show 0 ≤ hi by omega) h2, bnd_int (k := k) (m := hi.toNat) h0 (by omega)]

theorem slice_s {n : Nat} {s : List UInt8} {k : IntKind} {lo : Int} (h0 : 0 ≤ lo) (h2 : lo ≤ s.length) :
    sliceD true n (.str s) (some (.int k lo)) none none = some (.str (s.drop lo.toNat)) := by
  have e : (s.drop lo.toNat).take (s.length - lo.toNat) = s.drop lo.toNat := List.take_of_length_le (by simp)
  simp [sliceD, bnd_int (k := k) (m := s.length) h0 (by omega), e]

theorem slice_su {n : Nat} {s : List UInt8} {k : IntKind} {hi : Int} (h0 : 0 ≤ hi) (h2 : hi ≤ s.length) :
    sliceD true n (.str s) none (some (.int k hi)) none = some (.str (s.take hi.toNat)) := by
  simp [sliceD, bnd_int (k := k) (m := s.length) h0 (by omega)]

@[simp] theorem demote_int (k : IntKind) (n : Int) : (DV.int k n).demote = .int k n := rfl
@[simp] theorem demote_bool (b : Bool) : (DV.bool b).demote = .bool b := rfl
@[simp] theorem demote_str (s : List UInt8) : (DV.str s).demote = .str s := rfl
@[simp] theorem demote_nilp : DV.nilp.demote = .nilp := rfl
@[simp] theorem demote_no (t n : Nat) (nn : Bool) (xs : List DV) : (DV.list t n .no nn xs).demote = .list t n .no nn xs := rfl
@[simp] theorem demote_tight (t n : Nat) (nn : Bool) (xs : List DV) : (DV.list t n .tight nn xs).demote = .list t n .tight nn xs := rfl
@[simp] theorem demote_own (t n a b : Nat) (nn : Bool) (xs : List DV) : (DV.list t n (.own a b) nn xs).demote = .list t n .no nn xs := rfl
@[simp] theorem pure_int (k : IntKind) (n : Int) : (DV.int k n).pure = true := rfl
@[simp] theorem pure_bool (b : Bool) : (DV.bool b).pure = true := rfl
@[simp] theorem pure_str (s : List UInt8) : (DV.str s).pure = true := rfl
@[simp] theorem pure_nilp : DV.nilp.pure = true := rfl
@[simp] theorem pure_no (t n : Nat) (nn : Bool) (xs : List DV) : (DV.list t n .no nn xs).pure = true := rfl
@[simp] theorem pure_tight (t n : Nat) (nn : Bool) (xs : List DV) : (DV.list t n .tight nn xs).pure = true := rfl

/-! append -/
/-- A value that may stand in a list of such elements. -/
def IsEl (n : Nat) (ag : Bool) (y : DV) : Prop := y.leaves.length = n ∧ y.leaves.all DV.pure = true ∧ (if ag then y = .agg y.leaves else y.leaves = [y])

theorem demote_pure {v : DV} (h : v.pure = true) : v.demote = v := by
  cases v <;> first | rfl | (rename_i t n tk nn xs; cases tk <;> first | rfl | (simp [DV.pure] at h))

theorem demotes_pure : ∀ {vs : List DV}, vs.all DV.pure = true → vs.map DV.demote = vs
  | [], _ => rfl
  | v :: r, h => by
    rw [List.all_cons, Bool.and_eq_true] at h
    rw [List.map_cons, demote_pure h.1, demotes_pure h.2]

theorem flat_pure {n : Nat} {ag : Bool} {ys : List DV} (h : ∀ y ∈ ys, IsEl n ag y) : (flat ys).all DV.pure = true := by
  rw [List.all_eq_true]
  intro v hv
  obtain ⟨y, hy, hv⟩ := List.mem_flatMap.1 hv
  exact List.all_eq_true.1 (h y hy).2.1 v hv

theorem chunk_flat {n : Nat} {ag : Bool} : ∀ {ys : List DV}, (∀ y ∈ ys, IsEl n ag y) → chunk n ag ys.length (flat ys) = ys
  | [], _ => rfl
  | y :: r, h => by
    obtain ⟨h1, h2, h3⟩ := h y (List.mem_cons_self ..)
    have e : flat (y :: r) = y.leaves ++ flat r := by simp [flat]
    have ih := chunk_flat (ys := r) fun z hz => h z (List.mem_cons_of_mem _ hz)
    rw [List.length_cons, chunk, e]
    have e1 : (y.leaves ++ flat r).take n = y.leaves := by rw [← h1]; simp
    have e2 : (y.leaves ++ flat r).drop n = flat r := by rw [← h1]; simp
    rw [e1, e2, ih]
    cases ag with
    | true => simp only [if_true] at h3 ⊢; rw [← h3]
    | false => simp only [Bool.false_eq_true, if_false] at h3 ⊢; rw [h3]; rfl

theorem news_list {st : St} {n t : Nat} {tk : Tk} {ys : List DV} : newsD st n (.list t n tk true ys) = some (ys.length, flat ys) := by simp [newsD]

theorem app_none {st : St} {n n' t by_ : Nat} {ag : Bool} {tk : Tk} {nn : Bool} {xs : List DV} {y : DV} (hy : newsD st n y = some (0, [])) : appendD st n ag by_ (.list t n' tk nn xs) y = some (.list t n' tk nn xs, st) := by
  simp [appendD, hy]

theorem app_new {st : St} {H : List HO} {K : List Nat} {n n' t t' by_ : Nat} {ag : Bool} {tk tk' : Tk} {nn : Bool} {xs ys : List DV} (hx : nn = false ∨ (nn = true ∧ tk = .tight ∧ n' = n)) (hn : 0 < n) (hy : ys ≠ []) (he : ∀ y ∈ ys, IsEl n ag y)
    (hr : (xs.length + ys.length) * by_ ≤ roomD) (hr2 : xs.length + ys.length ≤ roomD) :
    appendD (pst st H K) n ag by_ (.list t n' tk nn xs) (.list t' n tk' true ys) = some (.list st.cur n (.own (st.toks.length + K.length) 0) true (xs ++ ys), pst st H (K ++ [0])) := by
  have hl : ys.length ≠ 0 := fun h => hy (List.length_eq_zero_iff.1 h)
  have hp : (flat ys).all DV.pure = true := flat_pure he
  have hc := chunk_flat he
  have h0 : ¬ n = 0 := by omega
  have h1 : ¬ (nn = true ∧ n' ≠ n) := by rcases hx with h | ⟨_, _, h⟩ <;> simp [h]
  have h2 : ¬ ((xs.length + ys.length) * by_ > roomD) := by omega
  have h3 : ¬ (xs.length + ys.length > roomD) := by omega
  simp only [appendD, news_list, demotes_pure hp, hc, hl, h0, h1, h2, h3, hp, if_false, Bool.not_true, Bool.false_eq_true, or_false]
  rcases hx with rfl | ⟨rfl, rfl, _⟩ <;> simp [pst]

theorem app_own {st : St} {H : List HO} {K : List Nat} {n t t' by_ k s : Nat} {ag : Bool} {tk' : Tk} {xs ys : List DV} (hk : K[k]? = some s) (hn : 0 < n) (hy : ys ≠ []) (he : ∀ y ∈ ys, IsEl n ag y)
    (hr : (xs.length + ys.length) * by_ ≤ roomD) (hr2 : xs.length + ys.length ≤ roomD) :
    appendD (pst st H K) n ag by_ (.list t n (.own (st.toks.length + k) s) true xs) (.list t' n tk' true ys) = some (.list st.cur n (.own (st.toks.length + k) (s + 1)) true (xs ++ ys), pst st H (K.set k (s + 1))) := by
  have hl : ys.length ≠ 0 := fun h => hy (List.length_eq_zero_iff.1 h)
  have hp : (flat ys).all DV.pure = true := flat_pure he
  have hc := chunk_flat he
  have h0 : ¬ n = 0 := by omega
  have h2 : ¬ ((xs.length + ys.length) * by_ > roomD) := by omega
  have h3 : ¬ (xs.length + ys.length > roomD) := by omega
  simp only [appendD, news_list, demotes_pure hp, hc, hl, h0, h2, h3, hp, if_false, Bool.not_true, Bool.false_eq_true, or_false, ne_eq, not_true_eq_false, and_false]
  simp [hk]
  simp [pst, List.set_append_right]

/-- A list that grows: nothing yet, or owned by this call. -/
def Acc (st : St) (K : List Nat) (n : Nat) (xs : List DV) (v : DV) : Prop :=
  (xs = [] ∧ ∃ t n' tk, v = .list t n' tk false []) ∨ ∃ k s, v = .list st.cur n (.own (st.toks.length + k) s) true xs ∧ K[k]? = some s

theorem acc_nil (st : St) (K : List Nat) (n t n' : Nat) (tk : Tk) : Acc st K n [] (.list t n' tk false []) := .inl ⟨rfl, t, n', tk, rfl⟩

theorem acc_app {st : St} {H : List HO} {K : List Nat} {n t by_ : Nat} {ag : Bool} {tk : Tk} {xs ys : List DV} {v : DV} (h : Acc st K n xs v) (hn : 0 < n) (hy : ys ≠ []) (he : ∀ y ∈ ys, IsEl n ag y)
    (hr : (xs.length + ys.length) * by_ ≤ roomD) (hr2 : xs.length + ys.length ≤ roomD) :
    ∃ v' K', appendD (pst st H K) n ag by_ v (.list t n tk true ys) = some (v', pst st H K') ∧ Acc st K' n (xs ++ ys) v' := by
  rcases h with ⟨rfl, t, n', tk, rfl⟩ | ⟨k, s, rfl, hk⟩
  · exact ⟨_, _, app_new (.inl rfl) hn hy he hr hr2, .inr ⟨K.length, 0, rfl, by simp⟩⟩
  · refine ⟨_, _, app_own hk hn hy he hr hr2, .inr ⟨k, s + 1, rfl, ?_⟩⟩
    have := (List.getElem?_eq_some_iff.1 hk).1
    simp [this]

/-- What it is, told. -/
theorem acc_ex {st : St} {K : List Nat} {n : Nat} {xs : List DV} {v : DV} {st' : St} (h : Acc st K n xs v) : ∃ t n' tk nn, exportL st st' v = some (.list t n' tk nn xs) ∧ (nn = false → xs = []) ∧ (nn = true → n' = n) ∧ (tk = .no ∨ nn = false) := by
  rcases h with ⟨rfl, t, n', tk, rfl⟩ | ⟨k, s, rfl, hk⟩
  · exact ⟨t, n', _, false, rfl, fun _ => rfl, (fun h => by cases h), .inr rfl⟩
  · exact ⟨_, n, _, true, rfl, (fun h => by cases h), fun _ => rfl, .inl rfl⟩

theorem acc_len {st : St} {K : List Nat} {n : Nat} {xs : List DV} {v : DV} (h : Acc st K n xs v) : ∃ t n' tk nn, v = .list t n' tk nn xs := by
  rcases h with ⟨rfl, t, n', tk, rfl⟩ | ⟨k, s, rfl, hk⟩
  · exact ⟨_, _, _, _, rfl⟩
  · exact ⟨_, _, _, _, rfl⟩

theorem i64w {n : Int} (h : -9223372036854775808 ≤ n ∧ n ≤ 9223372036854775807) : IntKind.i64.wrap n = n := IntWalk.i64_in n h

/-- A number within its bounds. -/
theorem i64_of {n : Int} (h : (Lit.int .i64 n).wf = true) : -9223372036854775808 ≤ n ∧ n ≤ 9223372036854775807 := by
  simpa [Lit.wf, IntKind.min, IntKind.max, IntKind.bits, IntKind.signed] using h

end Go.D
