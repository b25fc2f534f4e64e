/-
Maps: keys of one cell, and structs of such cells.
-/
import Derived.Test.YtpmjmbpcdacamaaFwDOpsL
namespace Go.D
open Go.RowKit

variable {P : Program} {fm : FM}

/-- A key's type of one cell. -/
def keyTyOk (P : Program) (t : TypeId) (ks : List LK) : Bool :=
  match P.underlying t, ks with
  | some .bool, [.bool] => true
  | some (.int _), [.int] => true
  | some .string, [.str] => true
  | _, _ => false

/-- Two entries stand for each other. -/
def EntRel (fm : FM) (G : Gh) (es : List (DV × DV)) (en : List MapEntry) : Prop :=
  en.length = es.length ∧ ∀ (i : Nat) (k v : DV), es[i]? = some (k, v) → ∃ e : MapEntry, en[i]? = some e ∧ Rel fm G k e.key ∧ Rel fm G v e.val

def lkTy : LK → TypeDesc → Bool
  | .bool, .bool | .int, .int _ | .str, .string => true
  | _, _ => false

theorem scalEq_same {G : Gh} {lk : LK} {a b : DV} {x y : Value} {r : Bool} (h : scalEq lk a b = some r) (ha : Rel fm G a x) (hb : Rel fm G b y) {d : TypeDesc} (hd : lkTy lk d = true) :
    Instr.sameNow d x y = some r ∧ (r = true → y = x) := by
  unfold scalEq at h
  split at h
  · cases ha; cases hb
    injection h with h; subst h
    cases d <;> first | (simp [lkTy] at hd; done) | skip
    simp [Instr.sameNow]
    intro h; exact h.symm
  · rename_i k a k' b
    split at h
    · rename_i hk
      subst hk
      cases ha; cases hb
      injection h with h; subst h
      cases d <;> first | (simp [lkTy] at hd; done) | skip
      simp [Instr.sameNow]
      intro h; exact h.symm
    · cases h
  · rename_i a b
    cases ha with
    | str _ s1 e1 =>
      cases hb with
      | str _ s2 e2 =>
        injection h with h; subst h
        cases d <;> first | (simp [lkTy] at hd; done) | skip
        subst e1; subst e2
        have heq : (s1 == s2) = (s1.data.toList == s2.data.toList) := by
          have h1 : (s1 == s2) = (s1.data == s2.data) := rfl
          rw [h1, Bool.eq_iff_iff]
          simp only [beq_iff_eq]
          exact ⟨fun h => by rw [h], fun h => Array.toList_inj.1 h⟩
        refine ⟨by simp only [Instr.sameNow, heq], fun h => ?_⟩
        rw [beq_iff_eq] at h
        have : s1.data = s2.data := Array.toList_inj.1 h
        cases s1; cases s2; simp at this; subst this; rfl
  · cases h

theorem keyTy_one {t : TypeId} {d : TypeDesc} {ks : List LK} (hd : P.underlying t = some d) (hk : keyTyOk P t ks = true) : ∃ lk, ks = [lk] ∧ lkTy lk d = true := by
  unfold keyTyOk at hk
  rw [hd] at hk
  split at hk
  · rename_i h; cases h; exact ⟨_, rfl, rfl⟩
  · rename_i h; cases h; exact ⟨_, rfl, rfl⟩
  · rename_i h; cases h; exact ⟨_, rfl, rfl⟩
  · cases hk

theorem findNow_rel {G : Gh} {t : TypeId} {d : TypeDesc} {ks : List LK} (hd : P.underlying t = some d) (hk : keyTyOk P t ks = true) {k : DV} {kv : Value} (hkv : Rel fm G k kv) : ∀ (es : List (DV × DV)) (en : List MapEntry) (i : Nat) (r : Option (Nat × DV)), EntRel fm G es en → findD ks k es i = some r →
    ∃ r', Instr.findNow d kv en i = some r' ∧ (match r, r' with
      | none, none => True
      | some (j, v), some (j', v') => j = j' ∧ Rel fm G v v' ∧ i ≤ j ∧ ∃ e : MapEntry, en[j - i]? = some e ∧ e.key = kv
      | _, _ => False)
  | [], en, i, r, he, h => by
    have : en = [] := List.eq_nil_of_length_eq_zero (by simpa using he.1)
    subst this
    simp only [findD, Option.some.injEq] at h; subst h
    exact ⟨none, rfl, trivial⟩
  | (a, v) :: es, [], i, r, he, h => by have := he.1; simp at this
  | (a, v) :: es, e :: en, i, r, he, h => by
    obtain ⟨e', h1, h2, h3⟩ := he.2 0 a v rfl
    simp only [List.getElem?_cons_zero, Option.some.injEq] at h1
    subst h1
    have htl : EntRel fm G es en := ⟨by have := he.1; simpa using this, fun i k v hi => he.2 (i + 1) k v hi⟩
    obtain ⟨lk, rfl, hlk⟩ := keyTy_one hd hk
    have same : ∀ b, keyEq [lk] k a = some b → Instr.sameNow d kv e.key = some b ∧ (b = true → e.key = kv) := fun b hb => scalEq_same hb hkv h2 hlk
    simp only [findD] at h
    split at h
    · rename_i hb
      obtain ⟨s1, s2⟩ := same true hb
      injection h with h; subst h
      exact ⟨some (i, e.val), by simp [Instr.findNow, s1], rfl, h3, Nat.le_refl _, e, by simp, s2 rfl⟩
    · rename_i hb
      obtain ⟨s1, s2⟩ := same false hb
      obtain ⟨r', g1, g2⟩ := findNow_rel hd hk hkv es en (i + 1) r htl h
      refine ⟨r', by simp [Instr.findNow, s1, g1], ?_⟩
      match r, r', g2 with
      | none, none, _ => trivial
      | some (j, v), some (j', v'), g2 =>
        obtain ⟨q1, q2, q3, e0, q4, q5⟩ := g2
        refine ⟨q1, q2, by omega, e0, ?_, q5⟩
        have : j - i = (j - (i + 1)) + 1 := by omega
        rw [this, List.getElem?_cons_succ]; exact q4
    · cases h

theorem run_checkKey {w : World} {t : TypeId} {d : TypeDesc} {ks : List LK} (b : Bool) (n : Nat) (v : Value) (hd : P.underlying t = some d) (hk : keyTyOk P t ks = true) : (Instr.checkKey b (n + 1) t v).run P w = .ok () w := by
  obtain ⟨lk, rfl, hlk⟩ := keyTy_one hd hk
  unfold Instr.checkKey
  simp only [Sem.run_bind, run_underlying hd, Result.andThen_ok]
  cases d <;> first | rfl | (cases lk <;> simp [lkTy] at hlk)

/-! ### Keys that are structs -/
def scalTy (P : Program) (t : TypeId) : Bool := match P.underlying t with | some .bool => true | some (.int _) => true | some .string => true | _ => false

/-- A key's type that is a struct of such fields. -/
def structKeyOk (P : Program) (t : TypeId) (ks : List LK) : Bool :=
  (match P.underlying t with | some (.struct fs) => fs.toList.all (fun f => scalTy P f.type && Nat.blt f.offset ks.length) | _ => false) && (eqShape P Op.maxDepth t == some ks) && Nat.ble 2 ks.length

theorem run_checkKey_scal {w : World} {t : TypeId} (b : Bool) (n : Nat) (v : Value) (h : scalTy P t = true) : (Instr.checkKey b (n + 1) t v).run P w = .ok () w := by
  unfold scalTy at h
  unfold Instr.checkKey
  split at h <;> first | (cases h; done) | (rename_i hd; simp only [Sem.run_bind, run_underlying hd, Result.andThen_ok]; rfl)

theorem run_forIn_ok {w : World} {β : Type} (l : List β) (F : β → PUnit → Sem (ForInStep PUnit)) (h : ∀ x ∈ l, (F x ⟨⟩).run P w = .ok (.yield ⟨⟩) w) : (forIn l PUnit.unit F).run P w = .ok ⟨⟩ w := by
  induction l with
  | nil => rfl
  | cons x r ih =>
    simp only [List.forIn_cons, Sem.run_bind, h x (by simp), Result.andThen_ok]
    exact ih fun y hy => h y (by simp [hy])

theorem run_checkKey_struct {w : World} {t : TypeId} {ks : List LK} (b : Bool) (n : Nat) {cs : Array Value} (hk : structKeyOk P t ks = true) (hsz : cs.size = ks.length) : (Instr.checkKey b (n + 2) t (.agg cs)).run P w = .ok () w := by
  unfold structKeyOk at hk
  simp only [Bool.and_eq_true] at hk
  obtain ⟨⟨h1, h2⟩, h3⟩ := hk
  split at h1
  · rename_i fs hd
    have hall := List.all_eq_true.1 h1
    unfold Instr.checkKey
    simp only [Sem.run_bind, run_underlying hd, Result.andThen_ok]
    rw [← Array.forIn_toList]
    rw [run_forIn_ok]
    · rfl
    intro f hf
    have hf := hall f hf
    simp only [Bool.and_eq_true] at hf
    have hs := hf.1
    have hlt : f.offset < cs.size := by rw [hsz]; exact Nat.le_of_ble_eq_true hf.2
    have hpart : (part f.type cs f.offset).run P w = .ok (cs.getD f.offset undef) w := by
      unfold scalTy at hs
      split at hs <;> first | (cases hs; done) | (rename_i hdd; exact run_part_one hdd cs f.offset hlt trivial)
    by_cases hn : f.name = "_"
    · simp [hn]
    · simp only [ne_eq, hn, not_false_eq_true, if_true, Sem.run_bind, hpart, Result.andThen_ok, run_checkKey_scal b n _ hs, Sem.run_pure]
  · cases h1

theorem run_equal_struct {w : World} {t : TypeId} {ks : List LK} (hk : structKeyOk P t ks = true) {G : Gh} {vs us : List DV} {cs ds : Array Value} {b : Bool} (h1 : Rel fm G (.agg vs) (.agg cs)) (h2 : Rel fm G (.agg us) (.agg ds)) (hb : leavesEq ks vs us = some b) :
    (Op.equal t (.agg cs) (.agg ds)).run P w = .ok b w := by
  unfold structKeyOk at hk
  simp only [Bool.and_eq_true, beq_iff_eq] at hk
  obtain ⟨⟨k1, k2⟩, k3⟩ := hk
  split at k1
  · rename_i fs htd
    cases h1 with
    | agg _ _ hl hc =>
    cases h2 with
    | agg _ _ hl' hc' =>
    obtain ⟨l1, l2⟩ := leavesEq_length _ _ _ _ hb
    obtain ⟨p, q, p1, q1, r1⟩ := run_eqShape (w := w) Op.maxDepth t ks k2 G vs us cs ds 0 0 b ⟨by omega, fun i hi => by rw [Nat.zero_add]; exact hc i hi⟩ ⟨by omega, fun i hi => by rw [Nat.zero_add]; exact hc' i hi⟩ hb
    obtain ⟨i, hi, hsz⟩ := eqShape_size 9999 t ks htd k2
    rw [run_part htd hi cs 0 trivial] at p1
    rw [run_part htd hi ds 0 trivial] at q1
    cases p1; cases q1
    have e1 : cs.extract 0 (0 + i.size) = cs := by rw [Nat.zero_add, show i.size = cs.size by omega]; exact Array.extract_size
    have e2 : ds.extract 0 (0 + i.size) = ds := by rw [Nat.zero_add, show i.size = ds.size by omega]; exact Array.extract_size
    rw [e1, e2] at r1
    exact r1
  · cases k1

theorem leavesEq_get : ∀ (ks : List LK) (as bs : List DV), leavesEq ks as bs = some true → ∀ i (h : i < as.length) (h' : i < bs.length), ∃ k, scalEq k (as[i]) (bs[i]) = some true
  | [], [], [], _, i, h, _ => by simp at h
  | k :: ks, a :: as, c :: bs, hl, i, h, h' => by
    simp only [leavesEq] at hl
    split at hl
    · rename_i x y h1 h2
      injection hl with hl
      simp only [Bool.and_eq_true] at hl
      obtain ⟨rfl, rfl⟩ := hl
      cases i with
      | zero => exact ⟨k, h1⟩
      | succ i => exact leavesEq_get ks as bs h2 i (by simpa using h) (by simpa using h')
    · cases hl
  | [], _ :: _, _, h, _, _, _ => by simp [leavesEq] at h
  | [], [], _ :: _, h, _, _, h' => by simp [leavesEq] at h
  | _ :: _, [], _, h, _, _, _ => by simp [leavesEq] at h
  | _ :: _, _ :: _, [], h, _, _, _ => by simp [leavesEq] at h

/-- Scalars that are alike stand for the one value. -/
theorem scalEq_val {G : Gh} {k : LK} {a b : DV} {x y : Value} (h : scalEq k a b = some true) (ha : Rel fm G a x) (hb : Rel fm G b y) : x = y ∧ ∀ n, Instr.sameBits n x x = true := by
  unfold scalEq at h
  split at h
  · cases ha; cases hb
    simp only [Option.some.injEq, beq_iff_eq] at h
    subst h
    exact ⟨rfl, fun n => by simp [Instr.sameBits]⟩
  · split at h
    · rename_i hk
      subst hk
      cases ha; cases hb
      simp only [Option.some.injEq, beq_iff_eq] at h
      subst h
      exact ⟨rfl, fun n => by simp [Instr.sameBits]⟩
    · cases h
  · cases ha with
    | str _ s1 e1 =>
      cases hb with
      | str _ s2 e2 =>
        simp only [Option.some.injEq, beq_iff_eq] at h
        have h2 : s1 = s2 := by
          have : s1.data = s2.data := Array.toList_inj.1 (e1.trans (h.trans e2.symm))
          cases s1; cases s2; simp at this; subst this; rfl
        subst h2
        refine ⟨rfl, fun n => ?_⟩
        have h1 : (s1 == s1) = (s1.data == s1.data) := rfl
        simp [Instr.sameBits, h1]
  · cases h

theorem aggEq_val {G : Gh} {ks : List LK} {vs us : List DV} {cs ds : Array Value} (hb : leavesEq ks vs us = some true) (h1 : Rel fm G (.agg vs) (.agg cs)) (h2 : Rel fm G (.agg us) (.agg ds)) :
    cs = ds ∧ Instr.sameBits 10000 (.agg cs) (.agg cs) = true := by
  cases h1 with
  | agg _ _ hl hc =>
  cases h2 with
  | agg _ _ hl' hc' =>
  obtain ⟨l1, l2⟩ := leavesEq_length _ _ _ _ hb
  have key : ∀ i (h : i < cs.size), ∃ (h' : i < ds.size), cs[i] = ds[i] ∧ ∀ n, Instr.sameBits n cs[i] cs[i] = true := by
    intro i h
    have h' : i < ds.size := by omega
    obtain ⟨k, hk⟩ := leavesEq_get ks vs us hb i (by omega) (by omega)
    have r1 := hc i (by omega)
    have r2 := hc' i (by omega)
    rw [Array.getD_eq_getD_getElem?, Array.getElem?_eq_getElem h] at r1
    rw [Array.getD_eq_getD_getElem?, Array.getElem?_eq_getElem h'] at r2
    exact ⟨h', scalEq_val hk r1 r2⟩
  refine ⟨Array.ext (by omega) fun i h h' => (key i h).2.1, ?_⟩
  simp only [Instr.sameBits, Bool.and_eq_true, beq_self_eq_true, true_and, List.all_eq_true]
  intro p hp
  have : p.1 = p.2 ∧ p.1 ∈ cs.toList := by
    have := List.mem_iff_getElem.1 hp
    obtain ⟨i, hi, rfl⟩ := this
    simp
  obtain ⟨e, hm⟩ := this
  obtain ⟨i, hi, he⟩ := List.mem_iff_getElem.1 hm
  have := (key i (by simpa using hi)).2.2 9999
  rw [← e]
  simp at he
  rw [he] at this
  exact this

/-- A key's type. -/
def keyOk (P : Program) (t : TypeId) (ks : List LK) : Bool := keyTyOk P t ks || structKeyOk P t ks

theorem run_checkKey_any {w : World} {t : TypeId} {ks : List LK} {G : Gh} {k : DV} {kv : Value} (b : Bool) (hk : keyOk P t ks = true) (hfit : keyFit ks k = true) (hkv : Rel fm G k kv) : (Instr.checkKey b 10000 t kv).run P w = .ok () w := by
  unfold keyOk at hk
  rw [Bool.or_eq_true] at hk
  rcases hk with hk | hk
  · have hdk : ∃ d, P.underlying t = some d := by
      unfold keyTyOk at hk
      split at hk <;> first | exact ⟨_, by assumption⟩ | cases hk
    obtain ⟨d, hd⟩ := hdk
    exact run_checkKey (w := w) (P := P) b 9999 kv hd hk
  · have hk' := hk
    unfold structKeyOk at hk'
    simp only [Bool.and_eq_true] at hk'
    have h2 := Nat.le_of_ble_eq_true hk'.2
    unfold keyFit at hfit
    split at hfit
    · simp at h2
    · split at hfit
      · rename_i xs
        cases hkv with
        | agg _ cs hl _ =>
          exact run_checkKey_struct (w := w) b 9998 hk (by rw [hl]; exact eq_of_beq hfit)
      · cases hfit

theorem findAsking_rel {G : Gh} {w : World} {t : TypeId} {ks : List LK} (hk : structKeyOk P t ks = true) {k : DV} {kv : Value} (hkv : Rel fm G k kv) : ∀ (es : List (DV × DV)) (en : List MapEntry) (i : Nat) (r : Option (Nat × DV)), EntRel fm G es en → findD ks k es i = some r →
    ∃ r', (Instr.findAsking t kv en i).run P w = .ok r' w ∧ (match r, r' with
      | none, none => True
      | some (j, v), some (j', v') => j = j' ∧ Rel fm G v v' ∧ i ≤ j ∧ ∃ e : MapEntry, en[j - i]? = some e ∧ e.key = kv
      | _, _ => False) ∧ (r.isSome = true → Instr.sameBits 10000 kv kv = true)
  | [], en, i, r, he, h => by
    have : en = [] := List.eq_nil_of_length_eq_zero (by simpa using he.1)
    subst this
    simp only [findD, Option.some.injEq] at h; subst h
    exact ⟨none, rfl, trivial, fun h => by cases h⟩
  | (a, v) :: es, [], i, r, he, h => by have := he.1; simp at this
  | (a, v) :: es, e :: en, i, r, he, h => by
    obtain ⟨e', h1, h2, h3⟩ := he.2 0 a v rfl
    simp only [List.getElem?_cons_zero, Option.some.injEq] at h1
    subst h1
    have htl : EntRel fm G es en := ⟨by have := he.1; simpa using this, fun i k v hi => he.2 (i + 1) k v hi⟩
    have hlen : 2 ≤ ks.length := by
      unfold structKeyOk at hk
      simp only [Bool.and_eq_true] at hk
      exact Nat.le_of_ble_eq_true hk.2
    have same : ∀ b, keyEq ks k a = some b → (Op.equal t kv e.key).run P w = .ok b w ∧ (b = true → e.key = kv ∧ Instr.sameBits 10000 kv kv = true) := by
      intro b hb
      unfold keyEq at hb
      split at hb
      · simp at hlen
      · split at hb
        · rename_i xs ys
          generalize e.key = ek at h2
          cases hkv with
          | agg _ cs hl hc =>
          cases h2 with
          | agg _ ds hl' hc' =>
          refine ⟨run_equal_struct hk (.agg _ _ hl hc) (.agg _ _ hl' hc') hb, fun hbt => ?_⟩
          subst hbt
          obtain ⟨g1, g2⟩ := aggEq_val hb (.agg _ _ hl hc) (.agg _ _ hl' hc')
          exact ⟨by rw [g1], g2⟩
        · cases hb
    simp only [findD] at h
    split at h
    · rename_i hb
      obtain ⟨s1, s2⟩ := same true hb
      injection h with h; subst h
      refine ⟨some (i, e.val), by unfold Instr.findAsking; simp [s1], ⟨rfl, h3, Nat.le_refl _, e, by simp, (s2 rfl).1⟩, fun _ => (s2 rfl).2⟩
    · rename_i hb
      obtain ⟨s1, s2⟩ := same false hb
      obtain ⟨r', g1, g2, g3⟩ := findAsking_rel (w := w) hk hkv es en (i + 1) r htl h
      refine ⟨r', by unfold Instr.findAsking; simp [s1, g1], ?_, g3⟩
      match r, r', g2 with
      | none, none, _ => trivial
      | some (j, v), some (j', v'), g2 =>
        obtain ⟨q1, q2, q3, e0, q4, q5⟩ := g2
        refine ⟨q1, q2, by omega, e0, ?_, q5⟩
        have : j - i = (j - (i + 1)) + 1 := by omega
        rw [this, List.getElem?_cons_succ]; exact q4
    · cases h

/-- A type's zero, as a value. -/
def zeroD (P : Program) (t : TypeId) : Option DV :=
  match P.info? t with
  | some i => match i.zero with | some z => cval z | none => none
  | none => none

theorem zeroD_get {t : TypeId} {z : DV} (h : zeroD P t = some z) : ∃ i x, P.info? t = some i ∧ i.zero = some x ∧ cval x = some z := by
  unfold zeroD at h
  split at h
  · rename_i i hi
    split at h
    · rename_i x hx; exact ⟨i, x, hi, hx, h⟩
    · cases h
  · cases h

theorem run_findKey {w : World} {t : TypeId} {d : TypeDesc} {kv : Value} {es : List MapEntry} {r : Option (Nat × Value)} (hd : P.underlying t = some d) (h : Instr.findNow d kv es 0 = some r) : (Instr.findKey t kv es).run P w = .ok r w := by
  unfold Instr.findKey
  simp [run_underlying hd, h]

theorem findNow_same {d : TypeDesc} {x : Value} : ∀ {en : List MapEntry} {i : Nat} {p : Nat × Value}, Instr.findNow d x en i = some (some p) → ∃ y, Instr.sameNow d x y = some true
  | [], i, p, h => by simp [Instr.findNow] at h
  | e :: en, i, p, h => by
    simp only [Instr.findNow] at h
    split at h
    · exact ⟨_, by assumption⟩
    · exact findNow_same h
    · cases h

theorem sameNow_bits {d : TypeDesc} {x y : Value} {b : Bool} (h : Instr.sameNow d x y = some b) : Instr.sameBits 10000 x x = true := by
  unfold Instr.sameNow at h
  split at h <;> first | cases h; done | skip
  · simp [Instr.sameBits]
  · rename_i s _
    have h1 : (s == s) = (s.data == s.data) := rfl
    simp [Instr.sameBits, h1]
  · simp [Instr.sameBits]

theorem findKey_rel {G : Gh} {w : World} {t : TypeId} {ks : List LK} (hk : keyOk P t ks = true) {k : DV} {kv : Value} (hkv : Rel fm G k kv) {es : List (DV × DV)} {en : List MapEntry} {r : Option (Nat × DV)} (he : EntRel fm G es en) (h : findD ks k es 0 = some r) :
    ∃ r', (Instr.findKey t kv en).run P w = .ok r' w ∧ (match r, r' with
      | none, none => True
      | some (j, v), some (j', v') => j = j' ∧ Rel fm G v v' ∧ ∃ e : MapEntry, en[j]? = some e ∧ e.key = kv
      | _, _ => False) ∧ (r.isSome = true → Instr.sameBits 10000 kv kv = true) := by
  unfold keyOk at hk
  rw [Bool.or_eq_true] at hk
  rcases hk with hk | hk
  · have hdk : ∃ d, P.underlying t = some d := by
      unfold keyTyOk at hk
      split at hk <;> first | exact ⟨_, by assumption⟩ | cases hk
    obtain ⟨d, hd⟩ := hdk
    obtain ⟨r', g1, g2⟩ := findNow_rel (fm := fm) (G := G) hd hk hkv es en 0 r he h
    refine ⟨r', run_findKey hd g1, ?_, ?_⟩
    · match r, r', g2 with
      | none, none, _ => trivial
      | some (j, v), some (j', v'), g2 =>
        obtain ⟨q1, q2, q3, e0, q4, q5⟩ := g2
        exact ⟨q1, q2, e0, q4, q5⟩
    · intro hsome
      match r, r', g2 with
      | some (j, v), some (j', v'), g2 =>
        obtain ⟨y, hy⟩ := findNow_same g1
        exact sameNow_bits hy
  · obtain ⟨r', g1, g2, g3⟩ := findAsking_rel (w := w) hk hkv es en 0 r he h
    have hd : ∃ fs, P.underlying t = some (.struct fs) := by
      unfold structKeyOk at hk
      simp only [Bool.and_eq_true] at hk
      have := hk.1.1
      split at this
      · exact ⟨_, by assumption⟩
      · cases this
    obtain ⟨fs, hd⟩ := hd
    refine ⟨r', ?_, ?_, g3⟩
    · unfold Instr.findKey
      simp only [Sem.run_bind, run_underlying hd, Result.andThen_ok]
      cases en with
      | nil =>
        have : r' = none := by
          have : (Instr.findAsking t kv [] 0).run P w = .ok none w := rfl
          rw [this] at g1; cases g1; rfl
        subst this
        rfl
      | cons e en =>
        have hn : Instr.findNow (.struct fs) kv (e :: en) 0 = none := by simp [Instr.findNow, Instr.sameNow]
        rw [hn]
        exact g1
    · match r, r', g2 with
      | none, none, _ => trivial
      | some (j, v), some (j', v'), g2 =>
        obtain ⟨q1, q2, q3, e0, q4, q5⟩ := g2
        exact ⟨q1, q2, e0, q4, q5⟩

theorem opsim_lookup {t kt et : TypeId} {ks : List LK} {zero : DV} {ok : Bool} {x j : X} {xo jo : Operand} {o : Oper} (ho : o.op = .lookup t xo jo ok) (ht : P.underlying t = some (.map kt et)) (hk : keyOk P kt ks = true) (hz : zeroD P et = some zero)
    (hx : XRel fm x xo) (hj : XRel fm j jo) : OpSimAll P fm (.lookup ks zero x j ok) o := by
  refine opsim_read fun CR G w0 st w fr a v st' hs hf hrun => ?_
  simp only [stepD] at hrun
  split at hrun
  case isFalse => cases hrun
  rename_i hfit
  simp only [Option.map_eq_some_iff] at hrun
  obtain ⟨u, hu, hrun⟩ := hrun
  cases hrun
  have hxv := hx.ev (a := a) hf
  have hjv := hj.ev (a := a) hf
  generalize hx0 : a.eval xo = x0 at hxv
  generalize hj0 : a.eval jo = j0 at hjv
  obtain ⟨i, z, hi, hzz, hc⟩ := zeroD_get hz
  unfold lookupD at hu
  split at hu
  · cases hu
  rename_i es hes
  have hen : ∃ en : Array MapEntry, EntRel fm G es en.toList ∧ ∀ (K : Array MapEntry → Sem Value), ((do
      let es ← match x0 with
        | .map none => pure #[]
        | .map (some r) => do
          let .map es _ ← getObj r | stuck "Lookup: map expected"
          pure es
        | _ => stuck "Lookup: map expected"
      K es) : Sem Value).run P w = (K en).run P w := by
    split at hes
    · rename_i e0
      injection hes with hes; subst hes
      rw [e0] at hxv
      cases hxv
      exact ⟨#[], ⟨rfl, fun i k v h => by simp at h⟩, fun K => by simp⟩
    · rename_i b e0
      rw [e0] at hxv
      split at hes
      · rename_i es' hb
        injection hes with hes; subst hes
        cases hxv with
        | map _ r hm =>
          obtain ⟨r', ob, h1, h2, h3, h4⟩ := hs.obj b _ hb rfl (hs.np hm)
          rw [hm] at h1; cases h1
          obtain ⟨en, ck, rfl, g1, g2⟩ := h3
          refine ⟨en, ⟨by simpa using g1, fun i k v h => by simpa using g2 i k v h⟩, fun K => ?_⟩
          simp [getObj, Sem.run, h2]
      · cases hes
    · cases hes
  obtain ⟨en, he, hK⟩ := hen
  split at hu
  · cases hu
  rename_i r hfind
  obtain ⟨r', hfk, g2, _⟩ := findKey_rel (fm := fm) (G := G) (w := w) hk hjv he hfind
  have hchk := run_checkKey_any (w := w) (P := P) en.isEmpty hk hfit hjv
  have hzv := run_zero (w := w) hi hzz
  have run : ∀ (y : Value × Bool), (match r' with | some (_, v) => (pure (v, true) : Sem (Value × Bool)) | none => do pure (← zeroValue et, false)).run P w = .ok y w → (execOp a.eval o).run P w = .ok (.value (if ok then .tuple #[y.1, .bool y.2] else y.1)) w := by
    intro y hy
    unfold execOp
    simp only [ho, hx0, hj0]
    refine andThen_value ?_
    unfold Instr.lookup
    simp only [Sem.run_bind, run_underlying ht, Result.andThen_ok]
    have := hK (fun es => do
      Instr.checkKey es.isEmpty 10000 kt j0
      let (v, there) ← match ← Instr.findKey kt j0 es.toList with
        | some (_, v) => pure (v, true)
        | none => pure (← zeroValue et, false)
      pure (if ok then .tuple #[v, .bool there] else v))
    simp only [Sem.run_bind, hchk, hfk, Result.andThen_ok] at this
    refine this.trans ?_
    cases r' with
    | none =>
      simp only [Sem.run_bind, Sem.run_pure, hzv, Result.andThen_ok, Result.ok.injEq, and_true] at hy ⊢
      subst hy; rfl
    | some p =>
      simp only [Sem.run_bind, Sem.run_pure, Result.andThen_ok, Result.ok.injEq, and_true] at hy ⊢
      subst hy; rfl
  have tup : ∀ (u : DV) (y : Value) (b : Bool), Rel fm G u y → Rel fm G (if ok then .tuple [u, .bool b] else u) (if ok then .tuple #[y, .bool b] else y) := by
    intro u y b h
    cases ok with
    | false => exact h
    | true =>
      refine .tuple _ _ rfl fun i hi => ?_
      match i, hi with
      | 0, _ => exact h
      | 1, _ => exact .bool _
  simp only [Option.some.injEq] at hu
  subst hu
  cases r with
  | none =>
    cases r' with
    | none => exact ⟨rfl, _, run (z, false) (by simp [hzv]), tup _ _ _ (cval_rel hc G)⟩
    | some p => exact absurd g2 (by simp)
  | some q =>
    cases r' with
    | none => exact absurd g2 (by simp)
    | some p => exact ⟨rfl, _, run (p.2, true) rfl, tup _ _ _ g2.2.1⟩

theorem opsim_mapset {t kt et : TypeId} {ks : List LK} {m k v : X} {mo ko vo : Operand} {o : Oper} (ho : o.op = .mapUpdate t mo ko vo) (ht : P.underlying t = some (.map kt et)) (hk : keyOk P kt ks = true)
    (hm : XRel fm m mo) (hkx : XRel fm k ko) (hv : XRel fm v vo) : OpSimAll P fm (.mapset ks m k v) o := by
  intro CR G w0 st w fr a u st' hs hf hrun
  simp only [stepD] at hrun
  split at hrun
  case isFalse => cases hrun
  rename_i hfit
  simp only [Option.map_eq_some_iff] at hrun
  obtain ⟨st2, hu, hrun⟩ := hrun
  cases hrun
  have hmv := hm.ev (a := a) hf
  have hkv := hkx.ev (a := a) hf
  have hvv := hv.ev (a := a) hf
  generalize hm0 : a.eval mo = m0 at hmv
  generalize hk0 : a.eval ko = k0 at hkv
  generalize hv0 : a.eval vo = v0 at hvv
  unfold mapsetD at hu
  split at hu
  · rename_i b e0
    rw [e0] at hmv
    split at hu
    · rename_i es hb
      split at hu
      · rename_i hbase
        cases hmv with
        | map _ r hmu =>
          obtain ⟨r1, ob, h1, h2, h3, h4⟩ := hs.obj b _ hb rfl (hs.np hmu)
          rw [hmu] at h1; cases h1
          obtain ⟨en, ck, rfl, g1, g2⟩ := h3
          have he : EntRel fm G es en.toList := ⟨by simpa using g1, fun i k v h => by simpa using g2 i k v h⟩
          have hchk := run_checkKey_any (w := w) (P := P) false hk hfit hkv
          have hget := run_getObj_map (P := P) w r en ck h2
          have hset : ∀ o', (setObj r o').run P w = .ok () (w.putObj r o') := fun o' => by simp [setObj, Sem.run, h2, World.putObj]
          have fin : ∀ w', (Instr.mapUpdate t (.map (some r)) k0 v0).run P w = .ok () w' → (execOp a.eval o).run P w = .ok .skip w' := by
            intro w' h
            unfold execOp
            simp only [ho, hm0, hk0, hv0]
            exact andThen_skip h
          split at hu
          · cases hu
          · rename_i i v' hfind
            injection hu with hu; subst hu
            obtain ⟨r', hfk, f2, f3⟩ := findKey_rel (fm := fm) (G := G) (w := w) hk hkv he hfind
            cases r' with
            | none => exact absurd f2 (by simp)
            | some p =>
              obtain ⟨q1, q2, e, q4, q5⟩ := f2
              have hi : i = p.1 := q1
              have hsame : Instr.sameBits 10000 k0 k0 = true := f3 rfl
              refine ⟨G, _, undef, _, fin _ ?_, .inr ⟨rfl, rfl⟩, Gh.le.refl G, hs.put (ob' := .map (en.modify i fun e => { e with key := k0, val := v0 }) ck) hb rfl hmu hbase ⟨_, ck, rfl, by simp [g1], ?_⟩ rfl (fun h => by cases h), .undef _⟩
              · unfold Instr.mapUpdate
                have hold : ((en[p.1]?).map (·.key)).getD k0 = k0 := by
                  rw [← hi]
                  have : en[i]? = some e := by simpa using q4
                  simp [this, q5]
                have hkeep : (Instr.keyThatStays k0 k0).run P w = .ok k0 w := by unfold Instr.keyThatStays; simp [hsame]
                simp [run_underlying ht, hget, hchk, hfk, hold, hkeep, hset, hi]
              · intro j kk vv hj
                rw [List.getElem?_modify] at hj
                cases hes : es[j]? with
                | none => rw [hes] at hj; cases hj
                | some x =>
                  obtain ⟨e', w1, w2, w3⟩ := g2 j x.1 x.2 hes
                  rw [hes] at hj
                  rw [Array.getElem?_modify, w1]
                  by_cases ej : i = j
                  · subst ej
                    simp only [if_true, Option.map_eq_map, Option.map_some, Option.some.injEq] at hj ⊢
                    cases hj
                    exact ⟨_, rfl, hkv, hvv⟩
                  · simp only [if_neg ej, Option.map_eq_map, Option.map_some, Option.some.injEq] at hj ⊢
                    subst hj
                    exact ⟨_, rfl, w2, w3⟩
          · rename_i hfind
            injection hu with hu; subst hu
            obtain ⟨r', hfk, f2, _⟩ := findKey_rel (fm := fm) (G := G) (w := w) hk hkv he hfind
            cases r' with
            | some p => exact absurd f2 (by simp)
            | none =>
              refine ⟨G, _, undef, _, fin _ ?_, .inr ⟨rfl, rfl⟩, Gh.le.refl G, hs.put (ob' := .map (en.push { key := k0, val := v0, born := ck }) (ck + 1)) hb rfl hmu hbase ⟨_, ck + 1, rfl, by simp [g1], ?_⟩ rfl (fun h => by cases h), .undef _⟩
              · unfold Instr.mapUpdate
                simp [run_underlying ht, hget, hchk, hfk, hset]
              · intro j kk vv hj
                rcases get?_append_cases hj with ⟨e1, e2⟩ | ⟨rfl, e2⟩
                · obtain ⟨e', w1, w2, w3⟩ := g2 j kk vv e2
                  refine ⟨e', ?_, w2, w3⟩
                  rw [Array.getElem?_push, if_neg (by omega)]; exact w1
                · cases e2
                  exact ⟨_, by rw [Array.getElem?_push, if_pos g1.symm], hkv, hvv⟩
      · cases hu
    · cases hu
  · cases hu

end Go.D
