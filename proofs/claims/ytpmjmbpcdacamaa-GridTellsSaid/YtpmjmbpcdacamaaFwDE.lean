/-
The same runs without a count of steps: what a run tells if it ends.
-/
import Derived.Test.YtpmjmbpcdacamaaFwDFast
namespace Go.D

def Ev (p : Nat → Prop) : Prop := ∃ n, ∀ m, n ≤ m → p m

theorem Ev.all {p : Nat → Prop} (h : ∀ m, p m) : Ev p := ⟨0, fun m _ => h m⟩
theorem Ev.two {p q : Nat → Prop} (h : Ev p) (k : Ev q) : Ev fun m => p m ∧ q m := by
  obtain ⟨a, ha⟩ := h; obtain ⟨b, hb⟩ := k
  exact ⟨max a b, fun m hm => ⟨ha m (by omega), hb m (by omega)⟩⟩
theorem Ev.mono {p q : Nat → Prop} (h : Ev p) (k : ∀ m, p m → q m) : Ev q := by
  obtain ⟨a, ha⟩ := h
  exact ⟨a, fun m hm => k m (ha m hm)⟩

/-- What a sequence of runs tells, L tells at last. -/
structure Conv (ch : Nat → Rec) (L : Rec) : Prop where
  C : ∀ c fr st r, L.C c fr st = some r → Ev fun m => (ch m).C c fr st = some r
  O : ∀ a fr st r, L.O a fr st = some r → Ev fun m => (ch m).O a fr st = some r
  S : ∀ a fr st b r, L.S a fr st b = some r → Ev fun m => (ch m).S a fr st b = some r
  N : ∀ a fr st r, L.N a fr st = some r → Ev fun m => (ch m).N a fr st = some r
  A : ∀ a b c d, L.A a b c d = true → Ev fun m => (ch m).A a b c d = true
  K : ∀ a b c d, L.K a b c d = true → Ev fun m => (ch m).K a b c d = true
  F : ∀ a b c r, L.F a b c = some r → Ev fun m => (ch m).F a b c = some r
  V : ∀ a b c r, L.V a b c = some r → Ev fun m => (ch m).V a b c = some r

theorem conv_C {T : Tab} {ch : Nat → Rec} {L : Rec} (hc : Conv ch L) (c : RC) (fr : Fr) (st : St) (r : Ex × Fr × St) (h : runCR T L c fr st = some r) : Ev fun m => runCR T (ch m) c fr st = some r := by
  cases c with
  | skip => exact .all fun m => h
  | exit id => exact .all fun m => h
  | ret => exact .all fun m => h
  | stuck => simp [runCR] at h
  | region ops live =>
    simp only [runCR] at h ⊢
    cases e : L.O ops fr st with
    | none => rw [e] at h; cases h
    | some p =>
      rw [e] at h
      exact (hc.O _ _ _ _ e).mono fun m k => by rw [k]; exact h
  | dregion ops hs chk live =>
    simp only [runCR] at h ⊢
    cases e0 : prepH fr hs st ops with
    | none => rw [e0] at h; cases h
    | some q =>
      obtain ⟨st1, ops2⟩ := q
      rw [e0] at h
      simp only at h ⊢
      cases e : L.S ops2 fr st1 [st1] with
      | none => rw [e] at h; cases h
      | some p =>
        obtain ⟨fr', sts⟩ := p
        rw [e] at h
        simp only at h
        split at h
        · rename_i ha
          refine ((hc.S _ _ _ _ _ e).two (hc.A _ _ _ _ ha)).mono fun m k => ?_
          rw [k.1]
          simp only [k.2, if_true]
          exact h
        · cases h
  | seq a b =>
    simp only [runCR] at h ⊢
    cases e : L.C a fr st with
    | none => rw [e] at h; cases h
    | some p =>
      obtain ⟨ex, fr', st'⟩ := p
      rw [e] at h
      cases ex with
      | normal => exact ((hc.C _ _ _ _ e).two (hc.C _ _ _ _ h)).mono fun m k => by rw [k.1]; exact k.2
      | exit id => exact (hc.C _ _ _ _ e).mono fun m k => by rw [k]; exact h
      | ret => exact (hc.C _ _ _ _ e).mono fun m k => by rw [k]; exact h
  | cond x a b =>
    simp only [runCR] at h ⊢
    generalize x.ev fr = y at h ⊢
    cases y <;> try (cases h; done)
    rename_i v
    cases v with
    | true => exact hc.C _ _ _ _ h
    | false => exact hc.C _ _ _ _ h
  | block id a =>
    simp only [runCR] at h ⊢
    cases e : L.C a fr st with
    | none => rw [e] at h; cases h
    | some p => rw [e] at h; exact (hc.C _ _ _ _ e).mono fun m k => by rw [k]; exact h
  | loop live a =>
    simp only [runCR] at h ⊢
    cases e : L.C a (fr.keep live) st with
    | none => rw [e] at h; cases h
    | some p =>
      obtain ⟨ex, fr', st'⟩ := p
      rw [e] at h
      cases ex with
      | normal => exact ((hc.C _ _ _ _ e).two (hc.C _ _ _ _ h)).mono fun m k => by rw [k.1]; exact k.2
      | exit id => exact (hc.C _ _ _ _ e).mono fun m k => by rw [k]; exact h
      | ret => exact (hc.C _ _ _ _ e).mono fun m k => by rw [k]; exact h
  | rfunc f params assign body live =>
    simp only [runCR] at h ⊢
    cases e : f.ev (fr.keep live) <;> rw [e] at h <;> simp only at h <;> try (cases h; done)
    rename_i g first captured
    by_cases hi : isCode T g = true
    · simp only [hi, if_true] at h ⊢
      cases e2 : L.F g (first ++ [.yield st.heap.length] ++ captured) (st.push (.loop ⟨fr.keep live, params, assign, body, 0, none⟩)) with
      | none => rw [e2] at h; cases h
      | some p => rw [e2] at h; exact (hc.F _ _ _ _ e2).mono fun m k => by rw [k]; exact h
    · simp [hi] at h

theorem conv_F {T : Tab} {ch : Nat → Rec} {L : Rec} (hc : Conv ch L) (g : Nat) (as : List DV) (st : St) (r : DV × St) (h : callFR T L g as st = some r) : Ev fun m => callFR T (ch m) g as st = some r := by
  simp only [callFR] at h ⊢
  cases e : T g with
  | none => rw [e] at h; cases h
  | some d =>
    rw [e] at h
    cases d with
    | prim p => exact .all fun m => h
    | pprim p => exact .all fun m => h
    | code f =>
      simp only at h ⊢
      by_cases hp : f.pureF = true
      · simp only [hp, if_true] at h ⊢
        cases e2 : L.C f.body (frame0 as 0) st.enter with
        | none => rw [e2] at h; cases h
        | some p => rw [e2] at h; exact (hc.C _ _ _ _ e2).mono fun m k => by rw [k]; exact h
      · simp only [hp] at h ⊢
        cases e2 : L.C f.body (frame0 as 0) st with
        | none => rw [e2] at h; cases h
        | some p => rw [e2] at h; exact (hc.C _ _ _ _ e2).mono fun m k => by rw [k]; exact h

theorem conv_V (T : Tab) {ch : Nat → Rec} {L : Rec} (hc : Conv ch L) (f : DV) (as : List DV) (st : St) (r : DV × St) (h : callVR T L f as st = some r) : Ev fun m => callVR T (ch m) f as st = some r := by
  cases f <;> simp only [callVR] at h ⊢ <;> try (cases h; done)
  · exact hc.F _ _ _ _ h
  · rename_i l
    cases e : st.heap[l]? with
    | none => rw [e] at h; cases h
    | some o =>
      rw [e] at h
      cases o <;> simp only at h ⊢ <;> try (cases h; done)
      rename_i lo
      split at h
      · rename_i hb
        simp only [hb, and_self, if_true]
        cases e1 : L.C lo.assign (setParams lo.fr lo.params as) st with
        | none => rw [e1] at h; cases h
        | some p =>
          obtain ⟨ex, fr1, st1⟩ := p
          rw [e1] at h
          cases ex <;> simp only at h <;> try (cases h; done)
          cases e2 : st1.heap[l]? with
          | none => rw [e2] at h; cases h
          | some o2 =>
            rw [e2] at h
            cases o2 <;> simp only at h <;> try (cases h; done)
            rename_i lo1
            split at h
            · rename_i h0
              cases e3 : L.C lo.body fr1 { st1 with heap := st1.heap.set l (.loop { lo1 with state := 1 }) } with
              | none => rw [e3] at h; cases h
              | some q =>
                rw [e3] at h
                refine ((hc.C _ _ _ _ e1).two (hc.C _ _ _ _ e3)).mono fun m k => ?_
                rw [k.1]
                simp only [e2, h0, if_true]
                rw [k.2]
                exact h
            · cases h
      · cases h

theorem conv_step {T : Tab} {ch : Nat → Rec} {L : Rec} (hc : Conv ch L) : Conv (fun m => stepR T (ch m)) (stepR T L) where
  C := conv_C hc
  F := conv_F hc
  V := conv_V T hc
  O := by
    intro a fr st r h
    cases a with
    | nil => exact .all fun m => h
    | cons o l =>
      simp only [stepR, runOpsR] at h ⊢
      cases e : L.N o fr st with
      | none => rw [e] at h; cases h
      | some p => rw [e] at h; exact ((hc.N _ _ _ _ e).two (hc.O _ _ _ _ h)).mono fun m k => by rw [k.1]; exact k.2
  S := by
    intro a fr st b r h
    cases a with
    | nil => exact .all fun m => h
    | cons o l =>
      simp only [stepR, runOpsSR] at h ⊢
      cases e : L.N o fr st with
      | none => rw [e] at h; cases h
      | some p =>
        obtain ⟨v, st'⟩ := p
        rw [e] at h
        simp only at h
        split at h
        · rename_i hl
          exact ((hc.N _ _ _ _ e).two (hc.S _ _ _ _ _ h)).mono fun m k => by rw [k.1]; simp only [hl, if_true]; exact k.2
        · rename_i hl
          exact ((hc.N _ _ _ _ e).two (hc.S _ _ _ _ _ h)).mono fun m k => by rw [k.1]; simp only [hl]; exact k.2
  N := by
    intro o fr st r h
    simp only [stepR, runOneR] at h ⊢
    cases e : wantedD fr o.guard with
    | none => rw [e] at h; cases h
    | some b =>
      rw [e] at h
      cases b with
      | false => exact .all fun m => h
      | true =>
        simp only at h ⊢
        cases e2 : o.op <;> rw [e2] at h <;> simp only at h ⊢ <;> try exact .all fun m => h
        · exact hc.F _ _ _ _ h
        · exact hc.V _ _ _ _ h
        · rename_i f args
          cases e3 : f.ev fr <;> rw [e3] at h <;> simp only at h ⊢ <;> try (cases h; done)
          rename_i g first captured
          by_cases hp : isPure T g = true
          · simp only [hp, if_true] at h ⊢
            exact hc.F _ _ _ _ h
          · simp only [hp] at h; cases h
  A := by
    intro a b c d h
    cases d with
    | nil => exact .all fun m => h
    | cons p r =>
      obtain ⟨i, vs⟩ := p
      simp only [stepR, chkAllR, Bool.and_eq_true] at h ⊢
      cases e : b[i]? with
      | none => rw [e] at h; cases h.1
      | some o => rw [e] at h; exact (hc.K _ _ _ _ h.1).two (hc.A _ _ _ _ h.2)
  K := by
    intro a b c d h
    cases d with
    | nil => exact .all fun m => h
    | cons j r =>
      simp only [stepR, chkOneR, Bool.and_eq_true] at h ⊢
      cases e : c[j]? with
      | none => rw [e] at h; cases h.1
      | some st =>
        rw [e] at h
        simp only at h ⊢
        cases e2 : L.N b a st with
        | none => rw [e2] at h; cases h.1
        | some p => rw [e2] at h; exact ((hc.N _ _ _ _ e2).two (hc.K _ _ _ _ h.2)).mono fun m k => ⟨by rw [k.1]; exact h.1, k.2⟩

/-- What one tells, the other tells. -/
def Rec.le (R R' : Rec) : Prop := Conv (fun _ => R') R

theorem Rec.le.step {T : Tab} {R R' : Rec} (h : R.le R') : (stepR T R).le (stepR T R') := conv_step h

theorem failR_le (R : Rec) : failR.le R where
  C := fun _ _ _ _ h => by cases h
  O := fun _ _ _ _ h => by cases h
  S := fun _ _ _ _ _ h => by cases h
  N := fun _ _ _ _ h => by cases h
  A := fun _ _ _ _ h => by cases h
  K := fun _ _ _ _ h => by cases h
  F := fun _ _ _ _ h => by cases h
  V := fun _ _ _ _ h => by cases h

theorem ev_const {p : Prop} (h : Ev fun _ => p) : p := by obtain ⟨n, h⟩ := h; exact h n (Nat.le_refl _)

theorem Rec.le.refl (R : Rec) : R.le R where
  C := fun _ _ _ _ h => .all fun _ => h
  O := fun _ _ _ _ h => .all fun _ => h
  S := fun _ _ _ _ _ h => .all fun _ => h
  N := fun _ _ _ _ h => .all fun _ => h
  A := fun _ _ _ _ h => .all fun _ => h
  K := fun _ _ _ _ h => .all fun _ => h
  F := fun _ _ _ _ h => .all fun _ => h
  V := fun _ _ _ _ h => .all fun _ => h

theorem Rec.le.trans {A B C : Rec} (h : A.le B) (k : B.le C) : A.le C where
  C := fun _ _ _ _ x => k.C _ _ _ _ (ev_const (h.C _ _ _ _ x))
  O := fun _ _ _ _ x => k.O _ _ _ _ (ev_const (h.O _ _ _ _ x))
  S := fun _ _ _ _ _ x => k.S _ _ _ _ _ (ev_const (h.S _ _ _ _ _ x))
  N := fun _ _ _ _ x => k.N _ _ _ _ (ev_const (h.N _ _ _ _ x))
  A := fun _ _ _ _ x => k.A _ _ _ _ (ev_const (h.A _ _ _ _ x))
  K := fun _ _ _ _ x => k.K _ _ _ _ (ev_const (h.K _ _ _ _ x))
  F := fun _ _ _ _ x => k.F _ _ _ _ (ev_const (h.F _ _ _ _ x))
  V := fun _ _ _ _ x => k.V _ _ _ _ (ev_const (h.V _ _ _ _ x))

theorem fast_le_succ (T : Tab) : ∀ n, (fastR T n).le (fastR T (n + 1))
  | 0 => failR_le _
  | n + 1 => (fast_le_succ T n).step

theorem fast_le (T : Tab) (n : Nat) : ∀ m, n ≤ m → (fastR T n).le (fastR T m) := by
  intro m h
  induction m with
  | zero => obtain rfl : n = 0 := by omega
            exact .refl _
  | succ m ih =>
    by_cases e : n = m + 1
    · subst e; exact .refl _
    · exact (ih (by omega)).trans (fast_le_succ T m)

open Classical in
noncomputable def lim {β : Type} (f : Nat → Option β) : Option β := if h : ∃ r n, f n = some r then some (Classical.choose h) else none

open Classical in
noncomputable def limB (f : Nat → Bool) : Bool := decide (∃ n, f n = true)

theorem limB_iff {f : Nat → Bool} : limB f = true ↔ ∃ n, f n = true := by
  unfold limB
  exact ⟨fun h => by classical exact of_decide_eq_true h, fun h => by classical exact decide_eq_true h⟩

theorem lim_ev {β : Type} {f : Nat → Option β} (hm : ∀ n r, f n = some r → ∀ m, n ≤ m → f m = some r) {r : β} : lim f = some r ↔ ∃ n, f n = some r := by
  unfold lim
  constructor
  · intro h
    split at h
    · rename_i hh
      injection h with h
      subst h
      exact Classical.choose_spec hh
    · cases h
  · rintro ⟨n, h⟩
    have hh : ∃ r n, f n = some r := ⟨r, n, h⟩
    rw [dif_pos hh]
    obtain ⟨n', h'⟩ := Classical.choose_spec hh
    have a := hm n r h (max n n') (by omega)
    have b := hm n' _ h' (max n n') (by omega)
    rw [a] at b
    exact congrArg some (Option.some.inj b).symm

/-- What runs tell if they end. -/
noncomputable def E (T : Tab) : Rec where
  C := fun c fr st => lim fun n => (fastR T n).C c fr st
  O := fun a fr st => lim fun n => (fastR T n).O a fr st
  S := fun a fr st b => lim fun n => (fastR T n).S a fr st b
  N := fun a fr st => lim fun n => (fastR T n).N a fr st
  A := fun a b c d => limB fun n => (fastR T n).A a b c d
  K := fun a b c d => limB fun n => (fastR T n).K a b c d
  F := fun a b c => lim fun n => (fastR T n).F a b c
  V := fun a b c => lim fun n => (fastR T n).V a b c

theorem E_conv (T : Tab) : Conv (fastR T) (E T) where
  C := fun c fr st r h => by
    obtain ⟨n, h⟩ := (lim_ev (fun n _ h m hm => ev_const ((fast_le T n m hm).C _ _ _ _ h))).1 h
    exact ⟨n, fun m hm => ev_const ((fast_le T n m hm).C _ _ _ _ h)⟩
  O := fun c fr st r h => by
    obtain ⟨n, h⟩ := (lim_ev (fun n _ h m hm => ev_const ((fast_le T n m hm).O _ _ _ _ h))).1 h
    exact ⟨n, fun m hm => ev_const ((fast_le T n m hm).O _ _ _ _ h)⟩
  S := fun c fr st b r h => by
    obtain ⟨n, h⟩ := (lim_ev (fun n _ h m hm => ev_const ((fast_le T n m hm).S _ _ _ _ _ h))).1 h
    exact ⟨n, fun m hm => ev_const ((fast_le T n m hm).S _ _ _ _ _ h)⟩
  N := fun c fr st r h => by
    obtain ⟨n, h⟩ := (lim_ev (fun n _ h m hm => ev_const ((fast_le T n m hm).N _ _ _ _ h))).1 h
    exact ⟨n, fun m hm => ev_const ((fast_le T n m hm).N _ _ _ _ h)⟩
  A := fun a b c d h => by
    obtain ⟨n, h⟩ := limB_iff.1 h
    exact ⟨n, fun m hm => ev_const ((fast_le T n m hm).A _ _ _ _ h)⟩
  K := fun a b c d h => by
    obtain ⟨n, h⟩ := limB_iff.1 h
    exact ⟨n, fun m hm => ev_const ((fast_le T n m hm).K _ _ _ _ h)⟩
  F := fun c fr st r h => by
    obtain ⟨n, h⟩ := (lim_ev (fun n _ h m hm => ev_const ((fast_le T n m hm).F _ _ _ _ h))).1 h
    exact ⟨n, fun m hm => ev_const ((fast_le T n m hm).F _ _ _ _ h)⟩
  V := fun c fr st r h => by
    obtain ⟨n, h⟩ := (lim_ev (fun n _ h m hm => ev_const ((fast_le T n m hm).V _ _ _ _ h))).1 h
    exact ⟨n, fun m hm => ev_const ((fast_le T n m hm).V _ _ _ _ h)⟩

theorem fast_E (T : Tab) (n : Nat) : (fastR T n).le (E T) where
  C := fun _ _ _ _ h => .all fun _ => (lim_ev (fun n _ h m hm => ev_const ((fast_le T n m hm).C _ _ _ _ h))).2 ⟨n, h⟩
  O := fun _ _ _ _ h => .all fun _ => (lim_ev (fun n _ h m hm => ev_const ((fast_le T n m hm).O _ _ _ _ h))).2 ⟨n, h⟩
  S := fun _ _ _ _ _ h => .all fun _ => (lim_ev (fun n _ h m hm => ev_const ((fast_le T n m hm).S _ _ _ _ _ h))).2 ⟨n, h⟩
  N := fun _ _ _ _ h => .all fun _ => (lim_ev (fun n _ h m hm => ev_const ((fast_le T n m hm).N _ _ _ _ h))).2 ⟨n, h⟩
  A := fun _ _ _ _ h => .all fun _ => limB_iff.2 ⟨n, h⟩
  K := fun _ _ _ _ h => .all fun _ => limB_iff.2 ⟨n, h⟩
  F := fun _ _ _ _ h => .all fun _ => (lim_ev (fun n _ h m hm => ev_const ((fast_le T n m hm).F _ _ _ _ h))).2 ⟨n, h⟩
  V := fun _ _ _ _ h => .all fun _ => (lim_ev (fun n _ h m hm => ev_const ((fast_le T n m hm).V _ _ _ _ h))).2 ⟨n, h⟩

theorem E_step_le (T : Tab) : (stepR T (E T)).le (E T) where
  C := fun _ _ _ _ h => by obtain ⟨n, h⟩ := (conv_step (T := T) (E_conv T)).C _ _ _ _ h; exact (fast_E T (n + 1)).C _ _ _ _ (h n (Nat.le_refl _))
  O := fun _ _ _ _ h => by obtain ⟨n, h⟩ := (conv_step (T := T) (E_conv T)).O _ _ _ _ h; exact (fast_E T (n + 1)).O _ _ _ _ (h n (Nat.le_refl _))
  S := fun _ _ _ _ _ h => by obtain ⟨n, h⟩ := (conv_step (T := T) (E_conv T)).S _ _ _ _ _ h; exact (fast_E T (n + 1)).S _ _ _ _ _ (h n (Nat.le_refl _))
  N := fun _ _ _ _ h => by obtain ⟨n, h⟩ := (conv_step (T := T) (E_conv T)).N _ _ _ _ h; exact (fast_E T (n + 1)).N _ _ _ _ (h n (Nat.le_refl _))
  A := fun _ _ _ _ h => by obtain ⟨n, h⟩ := (conv_step (T := T) (E_conv T)).A _ _ _ _ h; exact (fast_E T (n + 1)).A _ _ _ _ (h n (Nat.le_refl _))
  K := fun _ _ _ _ h => by obtain ⟨n, h⟩ := (conv_step (T := T) (E_conv T)).K _ _ _ _ h; exact (fast_E T (n + 1)).K _ _ _ _ (h n (Nat.le_refl _))
  F := fun _ _ _ _ h => by obtain ⟨n, h⟩ := (conv_step (T := T) (E_conv T)).F _ _ _ _ h; exact (fast_E T (n + 1)).F _ _ _ _ (h n (Nat.le_refl _))
  V := fun _ _ _ _ h => by obtain ⟨n, h⟩ := (conv_step (T := T) (E_conv T)).V _ _ _ _ h; exact (fast_E T (n + 1)).V _ _ _ _ (h n (Nat.le_refl _))

theorem E_le_step (T : Tab) : (E T).le (stepR T (E T)) where
  C := fun _ _ _ _ h => by obtain ⟨n, h⟩ := (E_conv T).C _ _ _ _ h; exact ((fast_E T n).step (T := T)).C _ _ _ _ (h (n + 1) (by omega))
  O := fun _ _ _ _ h => by obtain ⟨n, h⟩ := (E_conv T).O _ _ _ _ h; exact ((fast_E T n).step (T := T)).O _ _ _ _ (h (n + 1) (by omega))
  S := fun _ _ _ _ _ h => by obtain ⟨n, h⟩ := (E_conv T).S _ _ _ _ _ h; exact ((fast_E T n).step (T := T)).S _ _ _ _ _ (h (n + 1) (by omega))
  N := fun _ _ _ _ h => by obtain ⟨n, h⟩ := (E_conv T).N _ _ _ _ h; exact ((fast_E T n).step (T := T)).N _ _ _ _ (h (n + 1) (by omega))
  A := fun _ _ _ _ h => by obtain ⟨n, h⟩ := (E_conv T).A _ _ _ _ h; exact ((fast_E T n).step (T := T)).A _ _ _ _ (h (n + 1) (by omega))
  K := fun _ _ _ _ h => by obtain ⟨n, h⟩ := (E_conv T).K _ _ _ _ h; exact ((fast_E T n).step (T := T)).K _ _ _ _ (h (n + 1) (by omega))
  F := fun _ _ _ _ h => by obtain ⟨n, h⟩ := (E_conv T).F _ _ _ _ h; exact ((fast_E T n).step (T := T)).F _ _ _ _ (h (n + 1) (by omega))
  V := fun _ _ _ _ h => by obtain ⟨n, h⟩ := (E_conv T).V _ _ _ _ h; exact ((fast_E T n).step (T := T)).V _ _ _ _ (h (n + 1) (by omega))

theorem opt_ext {β : Type} {a b : Option β} (h : ∀ r, a = some r → b = some r) (k : ∀ r, b = some r → a = some r) : a = b := by
  cases a with
  | none => cases b with
    | none => rfl
    | some r => exact absurd (k r rfl) (by simp)
  | some r => exact (h r rfl).symm

theorem EC (T : Tab) (c : RC) (fr : Fr) (st : St) : (E T).C c fr st = runCR T (E T) c fr st :=
  opt_ext (fun r h => ev_const ((E_le_step T).C _ _ _ r h)) (fun r h => ev_const ((E_step_le T).C _ _ _ r h))
theorem EO (T : Tab) (a : List ROper) (fr : Fr) (st : St) : (E T).O a fr st = runOpsR T (E T) a fr st :=
  opt_ext (fun r h => ev_const ((E_le_step T).O _ _ _ r h)) (fun r h => ev_const ((E_step_le T).O _ _ _ r h))
theorem ES (T : Tab) (a : List ROper) (fr : Fr) (st : St) (b : List St) : (E T).S a fr st b = runOpsSR T (E T) a fr st b :=
  opt_ext (fun r h => ev_const ((E_le_step T).S _ _ _ _ r h)) (fun r h => ev_const ((E_step_le T).S _ _ _ _ r h))
theorem EN (T : Tab) (a : ROper) (fr : Fr) (st : St) : (E T).N a fr st = runOneR T (E T) a fr st :=
  opt_ext (fun r h => ev_const ((E_le_step T).N _ _ _ r h)) (fun r h => ev_const ((E_step_le T).N _ _ _ r h))
theorem EF (T : Tab) (g : Nat) (as : List DV) (st : St) : (E T).F g as st = callFR T (E T) g as st :=
  opt_ext (fun r h => ev_const ((E_le_step T).F _ _ _ r h)) (fun r h => ev_const ((E_step_le T).F _ _ _ r h))
theorem EV (T : Tab) (f : DV) (as : List DV) (st : St) : (E T).V f as st = callVR T (E T) f as st :=
  opt_ext (fun r h => ev_const ((E_le_step T).V _ _ _ r h)) (fun r h => ev_const ((E_step_le T).V _ _ _ r h))
theorem EA (T : Tab) (fr : Fr) (ops : List ROper) (sts : List St) (l : List (Nat × List Nat)) : (E T).A fr ops sts l = chkAllR T (E T) fr ops sts l :=
  Bool.eq_iff_iff.2 ⟨fun h => ev_const ((E_le_step T).A _ _ _ _ h), fun h => ev_const ((E_step_le T).A _ _ _ _ h)⟩
theorem EK (T : Tab) (fr : Fr) (o : ROper) (sts : List St) (l : List Nat) : (E T).K fr o sts l = chkOneR T (E T) fr o sts l :=
  Bool.eq_iff_iff.2 ⟨fun h => ev_const ((E_le_step T).K _ _ _ _ h), fun h => ev_const ((E_step_le T).K _ _ _ _ h)⟩

/-- A run without a count of steps is a run. -/
theorem callF_E {T : Tab} {g : Nat} {as : List DV} {st : St} {r : DV × St} (h : (E T).F g as st = some r) : ∃ n, callF T n g as st = some r := by
  obtain ⟨n, h⟩ := (E_conv T).F _ _ _ _ h
  exact ⟨n, callF_fast (h n (Nat.le_refl _))⟩

theorem E_callF {T : Tab} {n g : Nat} {as : List DV} {st : St} {r : DV × St} (h : callF T n g as st = some r) : (E T).F g as st = some r := by
  refine ev_const ((fast_E T n).F _ _ _ _ ?_)
  rw [fast_eq]
  exact h

end Go.D
