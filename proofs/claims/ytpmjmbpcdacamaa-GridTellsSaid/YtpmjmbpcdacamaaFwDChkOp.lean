/-
The check of an operation is right.
-/
import Derived.Test.YtpmjmbpcdacamaaFwDChk
namespace Go.D
open Go.RowKit

variable {P : Program} {fm : FM}

theorem call_eq {b : Builtin} {c : Call} {as : List Operand} {ts : List TypeId} {op : Op} (ho : op = .call c) (h1 : c.callee = .builtin b) (h2 : c.args.toList = as) (h3 : c.argTypes.toList = ts) : builtinCall b as ts op := ⟨c, ho, h1, h2, h3⟩

theorem sizeB {e : TypeId} {n : Nat} (h : (match P.info? e with | some i => i.size == n | none => false) = true) : ∃ i, P.info? e = some i ∧ i.size = n := by
  split at h
  · rename_i i hi; exact ⟨i, hi, eq_of_beq h⟩
  · cases h

theorem sizesB {e : TypeId} {n b : Nat} (h : (match P.info? e with | some i => i.size == n && i.bytes == b | none => false) = true) : ∃ i, P.info? e = some i ∧ i.size = n ∧ i.bytes = b := by
  split at h
  · rename_i i hi; simp only [Bool.and_eq_true] at h; exact ⟨i, hi, eq_of_beq h.1, eq_of_beq h.2⟩
  · cases h

theorem someB {α : Type} {o : Option α} (h : o.isSome = true) : ∃ x, o = some x := Option.isSome_iff_exists.1 h

theorem strB {t : TypeId} (h : (match P.underlying t with | some .string => true | _ => false) = true) : P.underlying t = some .string := by
  split at h
  · assumption
  · cases h

theorem bytesB {t : TypeId} (h : (match P.underlying t with | some (.slice e) => (match P.underlying e with | some (.int k) => decide (k = .u8) | _ => false) | _ => false) = true) : ∃ e, P.underlying t = some (.slice e) ∧ P.underlying e = some (.int .u8) := by
  split at h
  · rename_i e he
    split at h
    · rename_i k hk
      have := of_decide_eq_true h
      subst this
      exact ⟨e, he, hk⟩
    · cases h
  · cases h

theorem slB {t : TypeId} {n : Nat} (h : (match P.underlying t with | some (.slice e) => (match P.info? e with | some i => i.size == n | none => false) | _ => false) = true) : ∃ e i, P.underlying t = some (.slice e) ∧ P.info? e = some i ∧ i.size = n := by
  split at h
  · rename_i e he
    obtain ⟨i, h1, h2⟩ := sizeB h
    exact ⟨e, i, he, h1, h2⟩
  · cases h

theorem orB {ag : Bool} {n : Nat} (h : (ag || n == 1) = true) : ag = true ∨ n = 1 := by
  simp only [Bool.or_eq_true] at h
  rcases h with h | h
  · exact .inl h
  · exact .inr (eq_of_beq h)

theorem opB_ok {r : ROp} {o : Oper} (h : opB P fm r o.op = true) : OpSimAll P fm r o := by
  cases r with
  | mv x =>
    simp only [opB] at h
    split at h
    · exact opsim_mv (.inl (by assumption)) (xB_ok h)
    · exact opsim_mv (.inr (by assumption)) (xB_ok h)
    · cases h
  | pick c a b =>
    simp only [opB] at h
    split at h
    · simp only [Bool.and_eq_true] at h
      exact opsim_pick (by assumption) (xB_ok h.1.1) (xB_ok h.1.2) (xB_ok h.2)
    · cases h
  | alloc zs =>
    simp only [opB] at h
    split at h
    · exact opsim_alloc (by assumption) (zerosB_ok h)
    · cases h
  | box n x =>
    simp only [opB] at h
    split at h
    · exact opsim_box (by assumption) (xB_ok h)
    · cases h
  | build zs parts =>
    simp only [opB] at h
    split at h
    · simp only [Bool.and_eq_true] at h
      exact opsim_build (by assumption) (zerosB_ok h.1.1) h.1.2 (partsB_ok h.2)
    · cases h
  | lit n ag zs len parts =>
    simp only [opB] at h
    split at h
    · rename_i ho
      simp only [Bool.and_eq_true] at h
      have hl := eq_of_beq h.1
      subst hl
      have h := h.2
      split at h
      · rename_i e he
        simp only [Bool.and_eq_true] at h
        obtain ⟨⟨⟨⟨⟨h1, h2⟩, h3⟩, h4⟩, h5⟩, h6⟩ := h
        obtain ⟨i, hi, hn⟩ := sizeB h1
        exact opsim_lit ho he hi hn (zerosB_ok h2) (eq_of_beq h3) (orB h4) (Nat.le_of_ble_eq_true h5) (litsB_ok h6)
      · cases h
    · cases h
  | hlit n ag zs len parts =>
    simp only [opB] at h
    split at h
    · rename_i ho
      simp only [Bool.and_eq_true] at h
      have hl := eq_of_beq h.1
      subst hl
      have h := h.2
      split at h
      · rename_i e he
        simp only [Bool.and_eq_true] at h
        obtain ⟨⟨⟨⟨h1, h2⟩, h3⟩, h5⟩, h6⟩ := h
        obtain ⟨i, hi, hn⟩ := sizeB h1
        exact opsim_hlit ho he hi hn (zerosB_ok h2) (eq_of_beq h3) (Nat.le_of_ble_eq_true h5) (litsB_ok h6)
      · cases h
    · cases h
  | load n ag x =>
    simp only [opB] at h
    split at h
    · simp only [Bool.and_eq_true] at h
      exact opsim_load (by assumption) (tyCellsB_ok h.1) (xB_ok h.2)
    · cases h
  | store n x v =>
    simp only [opB] at h
    split at h
    · simp only [Bool.and_eq_true] at h
      obtain ⟨i, hi, hn⟩ := sizeB h.1.1
      exact opsim_store (by assumption) hi hn (xB_ok h.1.2) (xB_ok h.2)
    · cases h
  | nilchk x =>
    simp only [opB] at h
    split at h
    · exact opsim_nilchk (by assumption) (xB_ok h)
    · cases h
  | bin op x y =>
    simp only [opB] at h
    split at h
    · rename_i ho
      simp only [Bool.and_eq_true] at h
      have := of_decide_eq_true h.1.1
      subst this
      exact opsim_bin ho (xB_ok h.1.2) (xB_ok h.2)
    · cases h
  | eq k neg x y =>
    simp only [opB] at h
    split at h
    · rename_i ho
      simp only [Bool.and_eq_true] at h
      have := of_decide_eq_true h.1.1.1
      subst this
      exact opsim_eq ho h.1.1.2 (xB_ok h.1.2) (xB_ok h.2)
    · cases h
  | un op x =>
    simp only [opB] at h
    split at h
    · rename_i ho
      simp only [Bool.and_eq_true] at h
      have := of_decide_eq_true h.1
      subst this
      exact opsim_un ho (xB_ok h.2)
    · cases h
  | i2i k x =>
    simp only [opB] at h
    split at h
    · rename_i ho
      simp only [Bool.and_eq_true] at h
      obtain ⟨⟨h1, h2⟩, h3⟩ := h
      obtain ⟨e, he⟩ := someB h1
      split at h2
      · rename_i k' hk
        have := of_decide_eq_true h2
        subst this
        exact opsim_i2i ho he hk (xB_ok h3)
      · cases h2
    · cases h
  | i2s x =>
    simp only [opB] at h
    split at h
    · rename_i ho
      simp only [Bool.and_eq_true] at h
      obtain ⟨⟨h1, h2⟩, h3⟩ := h
      obtain ⟨e, he⟩ := someB h1
      exact opsim_i2s ho he (strB h2) (xB_ok h3)
    · cases h
  | same x =>
    simp only [opB] at h
    split at h
    · rename_i ho
      simp only [Bool.and_eq_true] at h
      obtain ⟨⟨h1, h2⟩, h3⟩ := h
      obtain ⟨e, he⟩ := someB h1
      exact opsim_same ho he (strB h2) (xB_ok h3)
    · cases h
  | s2b x =>
    simp only [opB] at h
    split at h
    · rename_i ho
      simp only [Bool.and_eq_true] at h
      obtain ⟨⟨h1, h2⟩, h3⟩ := h
      obtain ⟨e, he, hu⟩ := bytesB h2
      exact opsim_s2b ho (strB h1) he hu (xB_ok h3)
    · cases h
  | s2h x =>
    simp only [opB] at h
    split at h
    · rename_i ho
      simp only [Bool.and_eq_true] at h
      obtain ⟨⟨h1, h2⟩, h3⟩ := h
      obtain ⟨e, he, hu⟩ := bytesB h2
      exact opsim_s2h ho (strB h1) he hu (xB_ok h3)
    · cases h
  | b2s x =>
    simp only [opB] at h
    split at h
    · rename_i ho
      simp only [Bool.and_eq_true] at h
      obtain ⟨⟨h1, h2⟩, h3⟩ := h
      obtain ⟨e, he, hu⟩ := bytesB h2
      exact opsim_b2s ho he hu (strB h1) (xB_ok h3)
    · cases h
  | mkfn g fs cs =>
    simp only [opB] at h
    split at h
    · rename_i ho
      simp only [Bool.and_eq_true] at h
      obtain ⟨⟨h1, h2⟩, h3⟩ := h
      split at h1
      · rename_i f' hf
        have := eq_of_beq h1
        subst this
        exact opsim_mkfn ho hf (xsB_ok h2) (xsB_ok h3)
      · cases h1
    · cases h
  | mkmap =>
    simp only [opB] at h
    split at h
    · exact opsim_mkmap (by assumption)
    · cases h
  | mkslice n ag bytes zs l c =>
    simp only [opB] at h
    split at h
    · rename_i ho
      split at h
      · rename_i e he
        simp only [Bool.and_eq_true] at h
        obtain ⟨⟨⟨⟨h1, h2⟩, h3⟩, h4⟩, h5⟩ := h
        obtain ⟨i, hi, hn, hb⟩ := sizesB (P := P) (e := e) (n := n) (b := bytes) (by
          split
          · rename_i i hi; rw [hi] at h1; simpa using h1
          · rename_i hi; rw [hi] at h1; cases h1)
        exact opsim_mkslice ho he hi hn hb (zerosB_ok h2) (eq_of_beq h3) (xB_ok h4) (xB_ok h5)
      · cases h
    · cases h
  | mklist n bytes l c =>
    simp only [opB] at h
    split at h
    · rename_i ho
      split at h
      · rename_i e he
        simp only [Bool.and_eq_true] at h
        obtain ⟨⟨⟨h1, h2⟩, h4⟩, h5⟩ := h
        obtain ⟨i, hi, hn, hb⟩ := sizesB (P := P) (e := e) (n := n) (b := bytes) (by
          split
          · rename_i i hi; rw [hi] at h1; simpa using h1
          · rename_i hi; rw [hi] at h1; cases h1)
        obtain ⟨zs, hz⟩ := someB h2
        exact opsim_mklist ho he hi hn hb hz (xB_ok h4) (xB_ok h5)
      · cases h
    · cases h
  | slice str n x lo hi mx =>
    cases str with
    | true =>
      simp only [opB] at h
      split at h
      · rename_i ho
        simp only [Bool.and_eq_true] at h
        obtain ⟨⟨⟨⟨h1, h2⟩, h3⟩, h4⟩, h5⟩ := h
        have : mx = none := Option.isNone_iff_eq_none.1 h2
        subst this
        exact opsim_slice_str ho (strB h1) (xB_ok h3) (xoB_ok h4) (xoB_ok h5)
      · cases h
    | false =>
      simp only [opB] at h
      split at h
      · rename_i ho
        simp only [Bool.and_eq_true] at h
        obtain ⟨⟨⟨⟨h1, h2⟩, h3⟩, h4⟩, h5⟩ := h
        obtain ⟨e, i, he, hi, hn⟩ := slB h1
        exact opsim_slice ho he hi hn (xB_ok h2) (xoB_ok h3) (xoB_ok h4) (xoB_ok h5)
      · cases h
  | faddr off x =>
    simp only [opB] at h
    split at h
    · rename_i ho
      simp only [Bool.and_eq_true] at h
      obtain ⟨h1, h2⟩ := h
      split at h1
      · rename_i fs hfs
        split at h1
        · rename_i f hf
          simp only [Bool.and_eq_true] at h1
          obtain ⟨h3, h4⟩ := h1
          split at h3
          · rename_i i hi
            exact opsim_faddr ho hfs hf hi (by intro e; rw [e] at h3; simp at h3) (eq_of_beq h4) (xB_ok h2)
          · cases h3
        · cases h1
      · cases h1
    · cases h
  | field n ag off x =>
    simp only [opB] at h
    split at h
    · rename_i ho
      simp only [Bool.and_eq_true] at h
      obtain ⟨h1, h2⟩ := h
      split at h1
      · rename_i fs hfs
        split at h1
        · rename_i f hf
          simp only [Bool.and_eq_true] at h1
          exact opsim_field ho hfs hf (tyCellsB_ok h1.1) (eq_of_beq h1.2) (xB_ok h2)
        · cases h1
      · cases h1
    · cases h
  | iaddr n x j =>
    simp only [opB] at h
    split at h
    · rename_i ho
      simp only [Bool.and_eq_true] at h
      obtain ⟨⟨h1, h2⟩, h3⟩ := h
      obtain ⟨e, i, he, hi, hn⟩ := slB h1
      exact opsim_iaddr ho he hi hn (xB_ok h2) (xB_ok h3)
    · cases h
  | iaddrA n len x j =>
    simp only [opB] at h
    split at h
    · rename_i ho
      simp only [Bool.and_eq_true] at h
      obtain ⟨⟨h1, h2⟩, h3⟩ := h
      split at h1
      · rename_i l e he
        simp only [Bool.and_eq_true] at h1
        obtain ⟨i, hi, hn⟩ := sizeB (P := P) (e := e) (n := n) (by
          have h1 := h1.2
          split
          · rename_i i hi; rw [hi] at h1; simpa using h1
          · rename_i hi; rw [hi] at h1; cases h1)
        have := eq_of_beq h1.1
        subst this
        exact opsim_iaddrA ho he hi hn (xB_ok h2) (xB_ok h3)
      · cases h1
    · cases h
  | index x j =>
    simp only [opB] at h
    split at h
    · rename_i ho
      simp only [Bool.and_eq_true] at h
      exact opsim_index ho (strB h.1.1) (xB_ok h.1.2) (xB_ok h.2)
    · cases h
  | indexA n ag len x j =>
    simp only [opB] at h
    split at h
    · rename_i ho
      simp only [Bool.and_eq_true] at h
      obtain ⟨⟨h1, h2⟩, h3⟩ := h
      split at h1
      · rename_i l e he
        simp only [Bool.and_eq_true] at h1
        have := eq_of_beq h1.1
        subst this
        exact opsim_indexA ho he (tyCellsB_ok h1.2) (xB_ok h2) (xB_ok h3)
      · cases h1
    · cases h
  | lookup ks zero x j ok =>
    simp only [opB] at h
    split at h
    · rename_i ho
      simp only [Bool.and_eq_true] at h
      obtain ⟨⟨⟨h0, h1⟩, h2⟩, h3⟩ := h
      split at h1
      · rename_i k e he
        simp only [Bool.and_eq_true] at h1
        have := eq_of_beq h0
        subst this
        exact opsim_lookup ho he h1.1 (zeroB_ok h1.2) (xB_ok h2) (xB_ok h3)
      · cases h1
    · cases h
  | mapset ks m k v =>
    simp only [opB] at h
    split at h
    · rename_i ho
      simp only [Bool.and_eq_true] at h
      obtain ⟨⟨⟨h1, h2⟩, h3⟩, h4⟩ := h
      split at h1
      · rename_i kt e he
        exact opsim_mapset ho he h1 (xB_ok h2) (xB_ok h3) (xB_ok h4)
      · cases h1
    · cases h
  | extract x i =>
    simp only [opB] at h
    split at h
    · rename_i ho
      simp only [Bool.and_eq_true] at h
      have := eq_of_beq h.1
      subst this
      exact opsim_extract ho (xB_ok h.2)
    · cases h
  | iface t x =>
    simp only [opB] at h
    split at h
    · rename_i ho
      simp only [Bool.and_eq_true] at h
      obtain ⟨⟨h0, h1⟩, h2⟩ := h
      have := eq_of_beq h0
      subst this
      split at h1
      · cases h1
      · rename_i d hne hd
        exact opsim_iface ho (xB_ok h2) hd (by cases d <;> first | rfl | exact absurd rfl (hne _))
      · cases h1
    · cases h
  | len k x =>
    simp only [opB] at h
    split at h
    · rename_i c ho
      split at h
      · rename_i h1 h2 h3
        simp only [Bool.and_eq_true] at h
        exact opsim_len (call_eq ho h1 h2 h3) h.1 (xB_ok h.2)
      · cases h
    · cases h
  | lenC n =>
    simp only [opB] at h
    split at h
    · rename_i c ho
      split at h
      · rename_i h1 h2 h3
        split at h
        · rename_i m e he
          have := eq_of_beq h
          subst this
          exact opsim_lenC (.inl (call_eq ho h1 h2 h3)) he
        · cases h
      · rename_i h1 h2 h3
        split at h
        · rename_i m e he
          have := eq_of_beq h
          subst this
          exact opsim_lenC (.inr (call_eq ho h1 h2 h3)) he
        · cases h
      · cases h
    · cases h
  | cap x =>
    simp only [opB] at h
    split at h
    · rename_i c ho
      split at h
      · rename_i h1 h2 h3
        simp only [Bool.and_eq_true] at h
        obtain ⟨h4, h5⟩ := h
        split at h4
        · rename_i e he
          exact opsim_cap (call_eq ho h1 h2 h3) he (xB_ok h5)
        · cases h4
      · cases h
    · cases h
  | append n ag bytes x y =>
    simp only [opB] at h
    split at h
    · rename_i c ho
      split at h
      · rename_i h1 h2 h3
        split at h
        · rename_i e he
          simp only [Bool.and_eq_true] at h
          obtain ⟨⟨⟨⟨⟨g1, g2⟩, g3⟩, g4⟩, g5⟩, g6⟩ := h
          obtain ⟨i, hi, hn, hb⟩ := sizesB (P := P) (e := e) (n := n) (b := bytes) (by
            split
            · rename_i i hi; rw [hi] at g1; simpa using g1
            · rename_i hi; rw [hi] at g1; cases g1)
          split at g2
          · rename_i zs hz
            exact opsim_append (call_eq ho h1 h2 h3) he g4 hi hn hb hz (eq_of_beq g2) (orB g3) (xB_ok g5) (xB_ok g6)
          · cases g2
        · cases h
      · cases h
    · cases h
  | appendH n ag bytes x y =>
    simp only [opB] at h
    split at h
    · rename_i c ho
      split at h
      · rename_i h1 h2 h3
        split at h
        · rename_i e he
          simp only [Bool.and_eq_true] at h
          obtain ⟨⟨⟨⟨⟨g1, g2⟩, g3⟩, g4⟩, g5⟩, g6⟩ := h
          obtain ⟨i, hi, hn, hb⟩ := sizesB (P := P) (e := e) (n := n) (b := bytes) (by
            split
            · rename_i i hi; rw [hi] at g1; simpa using g1
            · rename_i hi; rw [hi] at g1; cases g1)
          split at g2
          · rename_i zs hz
            exact opsim_appendH (call_eq ho h1 h2 h3) he g4 hi hn hb hz (eq_of_beq g2) (orB g3) (xB_ok g5) (xB_ok g6)
          · cases g2
        · cases h
      · cases h
    · cases h
  | clear n zs x =>
    simp only [opB] at h
    split at h
    · rename_i c ho
      split at h
      · rename_i h1 h2 h3
        split at h
        · rename_i e he
          simp only [Bool.and_eq_true] at h
          obtain ⟨⟨⟨g1, g2⟩, g3⟩, g4⟩ := h
          split at g1
          · rename_i i hi
            exact opsim_clear (call_eq ho h1 h2 h3) he hi (eq_of_beq g1) (zerosB_ok g2) (eq_of_beq g3) (xB_ok g4)
          · cases g1
        · cases h
      · cases h
    · cases h
  | copy n x y =>
    simp only [opB] at h
    split at h
    · rename_i c ho
      split at h
      · rename_i h1 h2 h3
        simp only [Bool.and_eq_true] at h
        obtain ⟨⟨g1, g2⟩, g3⟩ := h
        obtain ⟨e, i, he, hi, hn⟩ := slB g1
        exact opsim_copy (call_eq ho h1 h2 h3) he hi hn (xB_ok g2) (xB_ok g3)
      · cases h
    · cases h
  | max args =>
    simp only [opB] at h
    split at h
    · rename_i c ho
      split at h
      · rename_i h1
        exact opsim_max (call_eq ho h1 rfl rfl) (xsB_ok h)
      · cases h
    · cases h
  | min args =>
    simp only [opB] at h
    split at h
    · rename_i c ho
      split at h
      · rename_i h1
        exact opsim_min (call_eq ho h1 rfl rfl) (xsB_ok h)
      · cases h
    · cases h
  | call g args => simp [opB] at h
  | callv f args => simp [opB] at h
  | callp f args => simp [opB] at h
  | allocT ty zs =>
    simp only [opB] at h
    split at h
    · rename_i e ho
      simp only [Bool.and_eq_true] at h
      have := eq_of_beq h.1
      subst this
      exact opsim_allocT ho (zerosB_ok h.2)
    · cases h
  | conv ty n x =>
    simp only [opB] at h
    split at h
    · rename_i s d xo ho
      simp only [Bool.and_eq_true] at h
      obtain ⟨h1, h2⟩ := h
      split at h1
      · rename_i t hs hd
        simp only [Bool.and_eq_true] at h1
        obtain ⟨h3, h4⟩ := h1
        split at h3
        · rename_i j hj
          exact opsim_convTo ho hs hd hj (by simpa using h3) (Nat.le_of_ble_eq_true h4) (xB_ok h2)
        · cases h3
      · rename_i u hs hd
        simp only [Bool.and_eq_true] at h1
        obtain ⟨j, hj⟩ := Option.isSome_iff_exists.1 h1.1
        exact opsim_convFrom ho hs hd hj h1.2 (xB_ok h2)
      · cases h1
    · cases h
  | appendB ty bytes x y =>
    simp only [opB] at h
    split at h
    · rename_i c ho
      split at h
      · rename_i h1 h2 h3
        split at h
        · rename_i e he
          simp only [Bool.and_eq_true] at h
          obtain ⟨⟨⟨⟨⟨g0, g1⟩, g2⟩, g4⟩, g5⟩, g6⟩ := h
          have := eq_of_beq g0
          subst this
          obtain ⟨i, hi, hn, hb⟩ := sizesB (P := P) (e := e) (n := 1) (b := bytes) (by
            split
            · rename_i i hi; rw [hi] at g1; simpa using g1
            · rename_i hi; rw [hi] at g1; cases g1)
          split at g2
          · rename_i zs hz
            exact opsim_appendB (call_eq ho h1 h2 h3) he g4 hi hn hb hz (eq_of_beq g2) (xB_ok g5) (xB_ok g6)
          · cases g2
        · cases h
      · cases h
    · cases h
  | sldata x =>
    simp only [opB] at h
    split at h
    · rename_i c ho
      split at h
      · rename_i h1 h2 h3
        exact opsim_sldata (call_eq ho h1 h2 h3) (xB_ok h)
      · cases h
    · cases h
  | ustr ty x l =>
    simp only [opB] at h
    split at h
    · rename_i c ho
      split at h
      · rename_i h1 h2 h3
        simp only [Bool.and_eq_true] at h
        obtain ⟨⟨g1, g2⟩, g3⟩ := h
        split at g1
        · rename_i e he
          simp only [Bool.and_eq_true] at g1
          have := eq_of_beq g1.1
          subst this
          exact opsim_ustr (call_eq ho h1 h2 h3) he (eq_of_beq g1.2) (xB_ok g2) (xB_ok g3)
        · cases g1
      · cases h
    · cases h
  | sliceA n ag len x =>
    simp only [opB] at h
    split at h
    · rename_i t xo ho
      simp only [Bool.and_eq_true] at h
      obtain ⟨h1, h2⟩ := h
      split at h1
      · rename_i arr ht
        split at h1
        · rename_i l e ha
          simp only [Bool.and_eq_true] at h1
          have := eq_of_beq h1.1
          subst this
          obtain ⟨i, hi⟩ := Option.isSome_iff_exists.1 h1.2
          exact opsim_sliceA ho ht ha hi (xB_ok h2)
        · cases h1
      · rename_i l e ht
        simp only [Bool.and_eq_true] at h1
        have := eq_of_beq h1.1
        subst this
        obtain ⟨i, hi⟩ := Option.isSome_iff_exists.1 h1.2
        exact opsim_sliceA2 ho ht hi (xB_ok h2)
      · cases h1
    · cases h
  | got v xs => simp only [opB] at h; cases h
  | fail =>
    intro CR G w0 st w fr a v st' hs hf hrun
    simp [stepD] at hrun

/-- May it be laid ahead? -/
def isFree : ROp → Bool
  | .alloc _ | .mkmap | .mkslice .. => true
  | _ => false

theorem freeB_ok {r : ROp} {o : Oper} (h : opB P fm r o.op = true) (hf : isFree r = true) : FreeRun P fm r o := by
  cases r <;> simp only [isFree, Bool.false_eq_true] at hf
  case alloc zs =>
    simp only [opB] at h
    split at h
    · exact freerun_alloc (by assumption) (zerosB_ok h)
    · cases h
  case mkmap =>
    simp only [opB] at h
    split at h
    · exact freerun_mkmap (by assumption)
    · cases h
  case mkslice n ag bytes zs l c =>
    simp only [opB] at h
    split at h
    · rename_i ho
      split at h
      · rename_i e he
        simp only [Bool.and_eq_true] at h
        obtain ⟨⟨⟨⟨h1, h2⟩, h3⟩, h4⟩, h5⟩ := h
        obtain ⟨i, hi, hn, hb⟩ := sizesB (P := P) (e := e) (n := n) (b := bytes) (by
          split
          · rename_i i hi; rw [hi] at h1; simpa using h1
          · rename_i hi; rw [hi] at h1; cases h1)
        exact freerun_mkslice ho he hi hn hb (zerosB_ok h2) (eq_of_beq h3) (xB_ok h4) (xB_ok h5)
      · cases h
    · cases h

end Go.D
