/-
Is a value another one?
-/
import Derived.Test.YtpmjmbpcdacamaaFwDOpsA
import Derived.Laws.StructEq
import Derived.LaidEql
namespace Go.D
open Go.RowKit

variable {P : Program} {fm : FM}

/-- A type whose values are compared leaf by leaf: the leaves' kinds. -/
def eqShape (P : Program) : Nat → TypeId → Option (List LK)
  | 0, _ => none
  | d + 1, t =>
    match P.underlying t with
    | some .bool => some [.bool]
    | some (.int _) => some [.int]
    | some .string => some [.str]
    | some (.struct fs) => if P.stoodInHeld t then none else
      match fs.toList.foldl (fun acc f => match acc with
        | none => none
        | some ks => if f.name ≠ "_" ∧ f.offset = ks.length then (match eqShape P d f.type with | some k => some (ks ++ k) | none => none) else none) (some []), P.info? t with
      | some ks, some i => if i.size = ks.length then some ks else none
      | _, _ => none
    | _ => none

def eqStep (P : Program) (d : Nat) (acc : Option (List LK)) (f : Field) : Option (List LK) :=
  match acc with
  | none => none
  | some ks => if f.name ≠ "_" ∧ f.offset = ks.length then (match eqShape P d f.type with | some k => some (ks ++ k) | none => none) else none

theorem eqStep_none (P : Program) (d : Nat) : ∀ fs : List Field, fs.foldl (eqStep P d) none = none
  | [] => rfl
  | _ :: fs => eqStep_none P d fs

theorem leavesEq_append : ∀ (ks : List LK) (as bs : List DV) (ks' : List LK) (as' bs' : List DV) (b : Bool), as.length = ks.length → bs.length = ks.length → leavesEq (ks ++ ks') (as ++ as') (bs ++ bs') = some b → ∃ x y, leavesEq ks as bs = some x ∧ leavesEq ks' as' bs' = some y ∧ b = (x && y)
  | [], [], [], ks', as', bs', b, _, _, h => ⟨true, b, rfl, h, by simp⟩
  | k :: ks, a :: as, c :: bs, ks', as', bs', b, hl, hl', h => by
    simp only [List.cons_append, leavesEq] at h
    split at h
    · rename_i x y h1 h2
      injection h with h; subst h
      obtain ⟨x', y', g1, g2, g3⟩ := leavesEq_append ks as bs ks' as' bs' y (by simpa using hl) (by simpa using hl') h2
      refine ⟨x && x', y', by simp [leavesEq, h1, g1], g2, by rw [g3, Bool.and_assoc]⟩
    · cases h
  | [], _ :: _, _, _, _, _, _, hl, _, _ => by simp at hl
  | [], [], _ :: _, _, _, _, _, _, hl, _ => by simp at hl
  | _ :: _, [], _, _, _, _, _, hl, _, _ => by simp at hl
  | _ :: _, _ :: _, [], _, _, _, _, _, hl, _ => by simp at hl

theorem leavesEq_length : ∀ (ks : List LK) (as bs : List DV) (b : Bool), leavesEq ks as bs = some b → as.length = ks.length ∧ bs.length = ks.length
  | [], [], [], _, _ => ⟨rfl, rfl⟩
  | k :: ks, a :: as, c :: bs, b, h => by
    simp only [leavesEq] at h
    split at h
    · rename_i x y h1 h2
      obtain ⟨g1, g2⟩ := leavesEq_length ks as bs y h2
      exact ⟨by simp [g1], by simp [g2]⟩
    · cases h
  | [], _ :: _, _, _, h => by simp [leavesEq] at h
  | [], [], _ :: _, _, h => by simp [leavesEq] at h
  | _ :: _, [], _, _, h => by simp [leavesEq] at h
  | _ :: _, _ :: _, [], _, h => by simp [leavesEq] at h

/-- What a struct's part is, in cells. -/
def cellsOf (fm : FM) (G : Gh) (vs : List DV) (cs : Array Value) (off : Nat) : Prop := off + vs.length ≤ cs.size ∧ ∀ i (h : i < vs.length), Rel fm G (vs[i]) (cs.getD (off + i) undef)

theorem run_part {w : World} {t : TypeId} {d : TypeDesc} {i : TypeInfo} (hd : P.underlying t = some d) (hi : P.info? t = some i) (cs : Array Value) (off : Nat) :
    (match d with | .struct _ | .array _ _ => True | _ => False) → (part t cs off).run P w = .ok (.agg (cs.extract off (off + i.size))) w := by
  intro h
  have hisagg : (isAgg t).run P w = .ok true w := by
    unfold isAgg
    simp only [Sem.run_bind, run_underlying hd, Result.andThen_ok]
    cases d <;> simp only at h <;> rfl
  have hsize : (sizeOf t).run P w = .ok i.size w := by unfold sizeOf typeInfo; simp [hi]
  unfold part
  simp [hisagg, hsize]

theorem run_part_one {w : World} {t : TypeId} {d : TypeDesc} (hd : P.underlying t = some d) (cs : Array Value) (off : Nat) (h0 : off < cs.size) :
    (match d with | .struct _ | .array _ _ => False | _ => True) → (part t cs off).run P w = .ok (cs.getD off undef) w := by
  intro h
  have hisagg : (isAgg t).run P w = .ok false w := by
    unfold isAgg
    simp only [Sem.run_bind, run_underlying hd, Result.andThen_ok]
    cases d <;> simp only at h <;> rfl
  unfold part
  simp [hisagg, h0]

theorem list_one {α : Type} {l : List α} (h : l.length = 1) : ∃ v, l = [v] := by
  cases l with
  | nil => simp at h
  | cons v r => cases r with
    | nil => exact ⟨v, rfl⟩
    | cons _ _ => simp at h

theorem eqFields_run {w : World} (d : Nat) (ih : ∀ (t : TypeId) (ks : List LK), eqShape P d t = some ks → ∀ (G : Gh) (vs us : List DV) (cs ds : Array Value) (o1 o2 : Nat) (b : Bool), cellsOf fm G vs cs o1 → cellsOf fm G us ds o2 →
      leavesEq ks vs us = some b → ∃ x y, (part t cs o1).run P w = .ok x w ∧ (part t ds o2).run P w = .ok y w ∧ (Op.equalIn d t x y).run P w = .ok b w) (xs ys : Array Value) :
    ∀ (fs : List Field) (ks0 ks : List LK), fs.foldl (eqStep P d) (some ks0) = some ks → ∃ kr, ks = ks0 ++ kr ∧ ∀ (G : Gh) (vs us : List DV) (b : Bool), cellsOf fm G vs xs ks0.length → cellsOf fm G us ys ks0.length →
      leavesEq kr vs us = some b → (Op.eqFields d xs ys fs).run P w = .ok b w
  | [], ks0, ks, h => by
    simp only [List.foldl_nil, Option.some.injEq] at h; subst h
    refine ⟨[], by simp, fun G vs us b _ _ hl => ?_⟩
    obtain ⟨h1, h2⟩ := leavesEq_length _ _ _ _ hl
    have h1 : vs = [] := List.eq_nil_of_length_eq_zero h1
    have h2 : us = [] := List.eq_nil_of_length_eq_zero h2
    subst h1; subst h2
    simp only [leavesEq, Option.some.injEq] at hl; subst hl
    rfl
  | f :: fs, ks0, ks, h => by
    simp only [List.foldl_cons] at h
    cases hst : eqStep P d (some ks0) f with
    | none => rw [hst, eqStep_none] at h; cases h
    | some ks1 =>
      rw [hst] at h
      simp only [eqStep] at hst
      split at hst
      · rename_i hcond
        obtain ⟨hname, hoff⟩ := hcond
        split at hst
        · rename_i k hk
          injection hst with hst; subst hst
          obtain ⟨kr, rfl, hrest⟩ := eqFields_run d ih xs ys fs _ ks h
          refine ⟨k ++ kr, by simp, fun G vs us b hc hd hl => ?_⟩
          obtain ⟨l1, l2⟩ := leavesEq_length _ _ _ _ hl
          simp only [List.length_append] at l1 l2
          have e1 : vs.take k.length ++ vs.drop k.length = vs := List.take_append_drop _ _
          have e2 : us.take k.length ++ us.drop k.length = us := List.take_append_drop _ _
          rw [← e1, ← e2] at hl
          obtain ⟨x, y, g1, g2, g3⟩ := leavesEq_append k _ _ kr _ _ b (by simp; omega) (by simp; omega) hl
          have sub : ∀ {vs : List DV} {cs : Array Value}, vs.length = k.length + kr.length → cellsOf fm G vs cs ks0.length → cellsOf fm G (vs.take k.length) cs f.offset ∧ cellsOf fm G (vs.drop k.length) cs (ks0 ++ k).length := by
            intro vs cs hl hc
            refine ⟨⟨by have := hc.1; simp; omega, fun i hi => ?_⟩, by have := hc.1; simp; omega, fun i hi => ?_⟩
            · have := hc.2 i (by simp at hi; omega)
              rw [hoff]
              simpa using this
            · have := hc.2 (k.length + i) (by simp at hi; omega)
              rw [List.length_append, Nat.add_assoc]
              simpa using this
          obtain ⟨c1, c2⟩ := sub l1 hc
          obtain ⟨d1, d2⟩ := sub l2 hd
          obtain ⟨p, q, p1, q1, r1⟩ := ih f.type k hk G _ _ xs ys f.offset f.offset x c1 d1 g1
          have hr := hrest G _ _ y c2 d2 g2
          unfold Op.eqFields
          rw [if_pos hname]
          simp only [Sem.run_bind, p1, q1, r1, Result.andThen_ok]
          subst g3
          cases x
          · rfl
          · simpa using hr
        · cases hst
      · cases hst

/-- Two values of such a type, compared. -/
theorem run_eqShape {w : World} : ∀ (d : Nat) (t : TypeId) (ks : List LK), eqShape P d t = some ks → ∀ (G : Gh) (vs us : List DV) (cs ds : Array Value) (o1 o2 : Nat) (b : Bool), cellsOf fm G vs cs o1 → cellsOf fm G us ds o2 →
    leavesEq ks vs us = some b → ∃ x y, (part t cs o1).run P w = .ok x w ∧ (part t ds o2).run P w = .ok y w ∧ (Op.equalIn d t x y).run P w = .ok b w := by
  intro d
  induction d with
  | zero => intro t k h; simp [eqShape] at h
  | succ d ih =>
    intro t ks h G vs us cs ds o1 o2 b hc hd hl
    obtain ⟨hv, hu⟩ := leavesEq_length _ _ _ _ hl
    simp only [eqShape] at h
    have scal : ∀ {td : TypeDesc} {k : LK}, P.underlying t = some td → ks = [k] → (match td, k with | .bool, .bool | .int _, .int | .string, .str => True | _, _ => False) → ∃ x y, (part t cs o1).run P w = .ok x w ∧ (part t ds o2).run P w = .ok y w ∧ (Op.equalIn (d + 1) t x y).run P w = .ok b w := by
      intro td k htd hk1 hkind
      subst hk1
      obtain ⟨v, rfl⟩ := list_one hv
      obtain ⟨u, rfl⟩ := list_one hu
      have hcs := hc.1
      have hds := hd.1
      simp only [List.length_cons, List.length_nil] at hcs hds
      refine ⟨_, _, run_part_one htd cs o1 (by omega) (by cases td <;> cases k <;> simp only at hkind ⊢), run_part_one htd ds o2 (by omega) (by cases td <;> cases k <;> simp only at hkind ⊢), ?_⟩
      have r1 := hc.2 0 (by simp)
      have r2 := hd.2 0 (by simp)
      simp only [List.getElem_cons_zero, Nat.add_zero] at r1 r2
      simp only [leavesEq] at hl
      split at hl
      · rename_i x y h1 h2
        injection h2 with h2; subst h2
        injection hl with hl
        rw [Bool.and_true] at hl; subst hl
        generalize cs.getD o1 undef = x1 at r1
        generalize ds.getD o2 undef = x2 at r2
        cases k <;> cases td <;> simp only at hkind
        · cases v <;> cases u <;> simp only [scalEq, reduceCtorEq, Option.some.injEq] at h1
          subst h1; cases r1; cases r2
          exact run_equalIn_bool' w d t _ _ htd
        · cases v <;> cases u <;> simp only [scalEq, reduceCtorEq] at h1
          split at h1
          · rename_i hk
            injection h1 with h1; subst h1; subst hk
            cases r1; cases r2
            exact run_equalIn_int w d t _ _ _ _ htd
          · cases h1
        · cases v <;> cases u <;> simp only [scalEq, reduceCtorEq, Option.some.injEq] at h1
          subst h1
          cases r1 with
          | str _ s1 e1 =>
          cases r2 with
          | str _ s2 e2 =>
          subst e1; subst e2
          rw [← toList_eq, ← toList_eq]
          exact run_equalIn_string w d t _ _ htd
      · cases hl
    split at h
    · rename_i htd; injection h with h; exact scal htd h.symm trivial
    · rename_i htd; injection h with h; exact scal htd h.symm trivial
    · rename_i htd; injection h with h; exact scal htd h.symm trivial
    · rename_i fs htd
      split at h
      · cases h
      rename_i hsh
      split at h
      · rename_i ks' i hfold hi
        split at h
        · rename_i hsz
          injection h with h; subst h
          have hsh' : P.stoodInHeld t = false := by simpa using hsh
          refine ⟨_, _, run_part htd hi cs o1 trivial, run_part htd hi ds o2 trivial, ?_⟩
          have hfo : P.fieldsOf t = fs := by unfold Program.fieldsOf; rw [htd]
          have htd' : P.underlying t = some (.struct (P.fieldsOf t)) := by rw [hfo]; exact htd
          rw [run_equalIn_struct w d t _ _ htd' hsh', hfo]
          have hext : ∀ (vs : List DV) (cs : Array Value) (o : Nat), vs.length = ks'.length → cellsOf fm G vs cs o → cellsOf fm G vs (cs.extract o (o + i.size)) 0 := by
            intro vs cs o hl1 hc1
            have h1 := hc1.1
            refine ⟨by simp; omega, fun j hj => ?_⟩
            have := hc1.2 j hj
            rw [Array.getD_eq_getD_getElem?] at this ⊢
            rw [Nat.zero_add, Array.getElem?_extract, if_pos (by omega)]
            exact this
          obtain ⟨kr, hkr, hrest⟩ := eqFields_run (w := w) d ih (cs.extract o1 (o1 + i.size)) (ds.extract o2 (o2 + i.size)) fs.toList [] ks' hfold
          simp only [List.nil_append] at hkr
          subst hkr
          exact hrest G vs us b (hext vs cs o1 hv hc) (hext us ds o2 hu hd) hl
        · cases h
      · cases h
    · cases h


/-- What a comparison's type is, for each kind of comparison. -/
def eqTyOk (P : Program) (t : TypeId) : EqK → Bool
  | .bool => match P.underlying t with | some .bool => true | _ => false
  | .ptr => match P.underlying t with | some (.pointer e) => (P.info? e).isSome | _ => false
  | .slice => match P.underlying t with | some (.slice _) => true | _ => false
  | .map => match P.underlying t with | some (.map _ _) => true | _ => false
  | .func => match P.underlying t with | some (.func _ _ _) => true | _ => false
  | .iface => match P.underlying t with | some (.interface _) => true | _ => false
  | .agg ks => (match P.underlying t with | some (.struct _) => true | _ => false) && (eqShape P Op.maxDepth t == some ks) && !P.eqGuardType P.depth t

section
variable {w : World} (d : Nat) {t : TypeId}
theorem eqi_ptr1 {e : TypeId} (h : P.underlying t = some (.pointer e)) (b : Option Addr) : (Op.equalIn (d + 1) t (.pointer none) (.pointer b)).run P w = .ok b.isNone w := by simp [Op.equalIn, run_underlying h]
theorem eqi_ptr2 {e : TypeId} (h : P.underlying t = some (.pointer e)) (a : Addr) : (Op.equalIn (d + 1) t (.pointer (some a)) (.pointer none)).run P w = .ok false w := by simp [Op.equalIn, run_underlying h]
theorem eqi_ptr3 {e : TypeId} {j : TypeInfo} (h : P.underlying t = some (.pointer e)) (hj : P.info? e = some j) (a : Addr) : (Op.equalIn (d + 1) t (.pointer (some a)) (.pointer (some a))).run P w = .ok true w := by simp [Op.equalIn, run_underlying h, sizeOf, typeInfo, hj, run_sameAddr_same]
theorem eqi_sl1 {e : TypeId} (h : P.underlying t = some (.slice e)) (b : Option Addr) (n c n' c' : Nat) : (Op.equalIn (d + 1) t (.slice none n c) (.slice b n' c')).run P w = .ok b.isNone w := by simp [Op.equalIn, run_underlying h]
theorem eqi_sl2 {e : TypeId} (h : P.underlying t = some (.slice e)) (a : Addr) (n c n' c' : Nat) : (Op.equalIn (d + 1) t (.slice (some a) n c) (.slice none n' c')).run P w = .ok false w := by simp [Op.equalIn, run_underlying h]
theorem eqi_map1 {e e' : TypeId} (h : P.underlying t = some (.map e e')) (b : Option Nat) : (Op.equalIn (d + 1) t (.map none) (.map b)).run P w = .ok b.isNone w := by simp [Op.equalIn, run_underlying h]
theorem eqi_map2 {e e' : TypeId} (h : P.underlying t = some (.map e e')) (a : Nat) : (Op.equalIn (d + 1) t (.map (some a)) (.map none)).run P w = .ok false w := by simp [Op.equalIn, run_underlying h]
theorem eqi_fn0 {a b : Array TypeId} {c : Bool} (h : P.underlying t = some (.func a b c)) : (Op.equalIn (d + 1) t .nilFunc .nilFunc).run P w = .ok true w := by simp [Op.equalIn, run_underlying h]
theorem eqi_fn1 {a b : Array TypeId} {c : Bool} (h : P.underlying t = some (.func a b c)) (f : Fn) (x y : Array Value) : (Op.equalIn (d + 1) t .nilFunc (.func f x y)).run P w = .ok false w := by simp [Op.equalIn, run_underlying h]
theorem eqi_fn2 {a b : Array TypeId} {c : Bool} (h : P.underlying t = some (.func a b c)) (f : Fn) (x y : Array Value) : (Op.equalIn (d + 1) t (.func f x y) .nilFunc).run P w = .ok false w := by simp [Op.equalIn, run_underlying h]
theorem eqi_if1 {a : Array (String × TypeId)} (h : P.underlying t = some (.interface a)) (u : TypeId) (x : Value) : (Op.equalIn (d + 1) t .nilIface (.iface u x)).run P w = .ok false w := by simp [Op.equalIn, run_underlying h]
theorem eqi_if2 {a : Array (String × TypeId)} (h : P.underlying t = some (.interface a)) (u : TypeId) (x : Value) : (Op.equalIn (d + 1) t (.iface u x) .nilIface).run P w = .ok false w := by simp [Op.equalIn, run_underlying h]
end

theorem eqShape_size (d : Nat) (t : TypeId) (ks : List LK) {fs : Array Field} (htd : P.underlying t = some (.struct fs)) (h2 : eqShape P (d + 1) t = some ks) : ∃ i, P.info? t = some i ∧ i.size = ks.length := by
  simp only [eqShape, htd] at h2
  split at h2
  · cases h2
  · split at h2
    · rename_i ks' i _ hi
      split at h2
      · rename_i hsz; injection h2 with h2; subst h2; exact ⟨i, hi, hsz⟩
      · cases h2
    · cases h2

theorem wrap_eq {neg : Bool} {t : TypeId} {xo yo : Operand} {x y : Value} {b : Bool} {w : World} (hg : (eqGuard (if neg then .neq else .eql) t xo yo x y).run P w = .ok () w)
    (hb : ∀ op, op = BinOp.eql ∨ op = .neq → binOp op t x y = (if op = .eql then (do pure (.bool (← Op.equal t x y))) else (do pure (.bool (!(← Op.equal t x y)))))) (he : (Op.equal t x y).run P w = .ok b w) :
    (do pure (Next.value (← (do eqGuard (if neg then .neq else .eql) t xo yo x y; binOp (if neg then .neq else .eql) t x y : Sem Value))) : Sem Next).run P w = .ok (.value (.bool (neg != b))) w := by
  cases neg
  · simp only [Bool.false_eq_true, if_false] at hg ⊢
    refine andThen_value ?_
    simp only [Sem.run_bind, hg, Result.andThen_ok, hb .eql (.inl rfl), if_true, he, Sem.run_pure]
    cases b <;> rfl
  · simp only [if_true] at hg ⊢
    refine andThen_value ?_
    simp only [Sem.run_bind, hg, Result.andThen_ok, hb .neq (.inr rfl), reduceCtorEq, if_false, he, Sem.run_pure]
    cases b <;> rfl

theorem opsim_eq {k : EqK} {neg : Bool} {x y : X} {xo yo : Operand} {t t' : TypeId} {o : Oper} (ho : o.op = .binOp (if neg then .neq else .eql) t xo yo t') (ht : eqTyOk P t k = true) (hx : XRel fm x xo) (hy : XRel fm y yo) : OpSimAll P fm (.eq k neg x y) o := by
  refine opsim_read fun CR G w0 st w fr a v st' hs hf hrun => ?_
  simp only [stepD, Option.map_eq_some_iff] at hrun
  obtain ⟨b, hb, hrun⟩ := hrun
  cases hrun
  have hxv := hx.ev (a := a) hf
  have hyv := hy.ev (a := a) hf
  refine ⟨rfl, .bool (neg != b), ?_, .bool _⟩
  unfold execOp
  simp only [ho]
  generalize x.ev fr = vx at hb hxv
  generalize y.ev fr = vy at hb hyv
  generalize a.eval xo = x0 at hxv
  generalize a.eval yo = y0 at hyv
  have depth : Op.maxDepth = 9999 + 1 := rfl
  have fin : eqPlain x0 y0 = true → (∀ op, op = BinOp.eql ∨ op = .neq → binOp op t x0 y0 = (if op = .eql then (do pure (.bool (← Op.equal t x0 y0))) else (do pure (.bool (!(← Op.equal t x0 y0)))))) →
      (Op.equal t x0 y0).run P w = .ok b w → (do pure (Next.value (← (do eqGuard (if neg then .neq else .eql) t xo yo x0 y0; binOp (if neg then .neq else .eql) t x0 y0 : Sem Value))) : Sem Next).run P w = .ok (.value (.bool (neg != b))) w :=
    fun h1 h2 h3 => wrap_eq (run_eqGuard_plain h1) h2 h3
  unfold eqTyOk at ht
  cases k with
  | bool =>
    cases vx <;> cases vy <;> simp only [eqD, reduceCtorEq, Option.some.injEq] at hb
    subst hb; cases hxv; cases hyv
    simp only at ht
    split at ht
    · rename_i htd
      exact fin rfl (by rintro op (rfl | rfl) <;> rfl) (by unfold Op.equal; rw [depth]; exact run_equalIn_bool' w _ t _ _ htd)
    · cases ht
  | ptr =>
    simp only at ht
    split at ht
    · rename_i e htd
      obtain ⟨j, hj⟩ := Option.isSome_iff_exists.1 ht
      by_cases hpp : ∃ b o b' o', vx = .ptr b o ∧ vy = .ptr b' o'
      · obtain ⟨b, o, b', o', rfl, rfl⟩ := hpp
        simp only [eqD] at hb
        split at hb
        · rename_i hc
          obtain ⟨rfl, rfl⟩ := hc
          injection hb with hb; subst hb
          cases hxv with
          | ptr _ _ r hm =>
          cases hyv with
          | ptr _ _ r' hm' =>
          rw [hm] at hm'; cases hm'
          exact fin rfl (by rintro op (rfl | rfl) <;> rfl) (by unfold Op.equal; rw [depth]; exact eqi_ptr3 _ htd hj _)
        · cases hb
      · cases vx <;> cases vy <;> first
          | exact absurd ⟨_, _, _, _, rfl, rfl⟩ hpp
          | (simp only [eqD, reduceCtorEq] at hb; done)
          | (simp only [eqD, Option.some.injEq] at hb
             subst hb
             cases hxv <;> cases hyv <;> exact fin rfl (by rintro op (rfl | rfl) <;> rfl) (by unfold Op.equal; rw [depth]; first | exact eqi_ptr1 _ htd _ | exact eqi_ptr2 _ htd _))
    · cases ht
  | slice =>
    simp only at ht
    split at ht
    · rename_i e htd
      cases vx <;> cases vy <;> try (simp only [eqD, reduceCtorEq] at hb; done)
      all_goals
        cases hxv <;> cases hyv <;> simp only [eqD, reduceCtorEq, Option.some.injEq] at hb <;> subst hb <;>
        exact fin rfl (by rintro op (rfl | rfl) <;> rfl) (by unfold Op.equal; rw [depth]; first | exact eqi_sl1 _ htd _ _ _ _ _ | exact eqi_sl2 _ htd _ _ _ _ _)
    · cases ht
  | map =>
    simp only at ht
    split at ht
    · rename_i e e' htd
      cases vx <;> cases vy <;> simp only [eqD, reduceCtorEq, Option.some.injEq] at hb <;> subst hb <;> cases hxv <;> cases hyv <;>
        exact fin rfl (by rintro op (rfl | rfl) <;> rfl) (by unfold Op.equal; rw [depth]; first | exact eqi_map1 _ htd _ | exact eqi_map2 _ htd _)
    · cases ht
  | func =>
    simp only at ht
    split at ht
    · rename_i e e' e'' htd
      cases vx <;> cases vy <;> simp only [eqD, reduceCtorEq, Option.some.injEq] at hb <;> subst hb <;> cases hxv <;> cases hyv <;>
        exact fin rfl (by rintro op (rfl | rfl) <;> rfl) (by unfold Op.equal; rw [depth]; first | exact eqi_fn0 _ htd | exact eqi_fn1 _ htd _ _ _ | exact eqi_fn2 _ htd _ _ _)
    · cases ht
  | iface =>
    simp only at ht
    split at ht
    · rename_i e htd
      cases vx <;> cases vy <;> simp only [eqD, reduceCtorEq, Option.some.injEq] at hb <;> subst hb <;> cases hxv <;> cases hyv <;>
        exact fin rfl (by rintro op (rfl | rfl) <;> rfl) (by unfold Op.equal; rw [depth]; first | exact eqi_if1 _ htd _ _ | exact eqi_if2 _ htd _ _)
    · cases ht
  | agg ks =>
    simp only [Bool.and_eq_true, beq_iff_eq, Bool.not_eq_true'] at ht
    obtain ⟨⟨h1, h2⟩, h3⟩ := ht
    split at h1
    · rename_i fs htd
      cases vx <;> cases vy <;> simp only [eqD, reduceCtorEq] at hb
      rename_i vs us
      cases hxv with
      | agg _ cs hl hc =>
      cases hyv with
      | agg _ ds hl' hc' =>
      refine wrap_eq ?_ (by rintro op (rfl | rfl) <;> rfl) ?_
      · unfold eqGuard
        cases neg <;> simp [h3]
      · obtain ⟨l1, l2⟩ := leavesEq_length _ _ _ _ hb
        obtain ⟨p, q, p1, q1, r1⟩ := run_eqShape (w := w) Op.maxDepth t ks h2 G vs us cs ds 0 0 b ⟨by omega, fun i hi => by rw [Nat.zero_add]; exact hc i hi⟩ ⟨by omega, fun i hi => by rw [Nat.zero_add]; exact hc' i hi⟩ hb
        have hsz : ∃ i, P.info? t = some i ∧ i.size = ks.length := by
          exact eqShape_size 9999 t ks htd h2
        obtain ⟨i, hi, hsz⟩ := hsz
        rw [run_part htd hi cs 0 trivial] at p1
        rw [run_part htd hi ds 0 trivial] at q1
        cases p1; cases q1
        have e1 : cs.extract 0 (0 + i.size) = cs := by rw [Nat.zero_add, show i.size = cs.size by omega]; exact Array.extract_size
        have e2 : ds.extract 0 (0 + i.size) = ds := by rw [Nat.zero_add, show i.size = ds.size by omega]; exact Array.extract_size
        rw [e1, e2] at r1
        exact r1
    · cases h1

end Go.D
