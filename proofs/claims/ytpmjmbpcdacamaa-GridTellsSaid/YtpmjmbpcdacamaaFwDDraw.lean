/-
A region that draws its order comes to what it comes to in the text's order.
-/
import Derived.Test.YtpmjmbpcdacamaaFwDVal
import Derived.OrdersIn
namespace Go.D
open Go.RowKit

variable {P : Program} {fm : FM} {T : Tab}

section
variable (pf : Nat → Bool) (rs : List ROper)

/-- How many of the listed operations may change the state. -/
def cnt (L : Nat → Bool) : Nat → Nat
  | 0 => 0
  | i + 1 => cnt L i + if loudAt pf rs i = true ∧ L i = true then 1 else 0

theorem cnt_none (L : Nat → Bool) (h : ∀ i, L i = false) : ∀ n, cnt pf rs L n = 0
  | 0 => rfl
  | n + 1 => by simp [cnt, cnt_none L h n, h n]

theorem cnt_set (L L' : Nat → Bool) (k : Nat) (hk : L k = false) (hk' : L' k = true) (h : ∀ i, i ≠ k → L' i = L i) : ∀ n, cnt pf rs L' n = cnt pf rs L n + if k < n ∧ loudAt pf rs k = true then 1 else 0
  | 0 => by simp [cnt]
  | n + 1 => by
    simp only [cnt, cnt_set L L' k hk hk' h n]
    by_cases e : n = k
    · subst e; simp [hk, hk']
    · rw [h n e]
      by_cases h1 : k < n
      · simp [h1, show k < n + 1 by omega]; split <;> split <;> omega
      · simp [h1, show ¬ k < n + 1 by omega]

theorem cnt_le (L : Nat → Bool) : ∀ n, cnt pf rs L n ≤ loudBefore pf rs n
  | 0 => Nat.le_refl _
  | n + 1 => by
    have := cnt_le L n
    simp only [cnt, loudBefore]
    split <;> split <;> first | omega | (rename_i h1 h2; exact absurd h1.1 h2)

theorem loudBefore_mono {i j : Nat} (h : i ≤ j) : loudBefore pf rs i ≤ loudBefore pf rs j := by
  induction j with
  | zero => have : i = 0 := by omega
            subst this; exact Nat.le_refl _
  | succ j ih =>
    by_cases e : i = j + 1
    · subst e; exact Nat.le_refl _
    · have := ih (by omega)
      simp only [loudBefore]; omega

/-- All loud ones below k are listed: at least so many. -/
theorem cnt_ge (L : Nat → Bool) (k : Nat) (h : ∀ i, i < k → loudAt pf rs i = true → L i = true) : ∀ n, k ≤ n → loudBefore pf rs k ≤ cnt pf rs L n := by
  intro n
  induction n with
  | zero => intro hk; have : k = 0 := by omega
            subst this; exact Nat.le_refl _
  | succ n ih =>
    intro hk
    by_cases e : k ≤ n
    · have := ih e; simp only [cnt]; omega
    · have : k = n + 1 := by omega
      subst this
      have key : ∀ m, m ≤ n + 1 → loudBefore pf rs m ≤ cnt pf rs L m := by
        intro m
        induction m with
        | zero => intro _; exact Nat.le_refl _
        | succ m ihm =>
          intro hm
          have h1 := ihm (by omega)
          simp only [loudBefore, cnt]
          split
          · rename_i hl
            rw [if_pos ⟨hl, h m (by omega) hl⟩]; omega
          · omega
      exact key _ (Nat.le_refl _)

/-- Only loud ones below k are listed: at most so many. -/
theorem cnt_le_of (L : Nat → Bool) (k : Nat) (h : ∀ i, loudAt pf rs i = true → L i = true → i < k) : ∀ n, cnt pf rs L n ≤ loudBefore pf rs k := by
  intro n
  induction n with
  | zero => exact Nat.zero_le _
  | succ n ih =>
    by_cases e : n < k
    · have h1 := cnt_le pf rs L (n + 1)
      exact Nat.le_trans h1 (loudBefore_mono pf rs (by omega))
    · simp only [cnt]
      rw [if_neg]
      · exact ih
      · rintro ⟨h1, h2⟩; exact e (h n h1 h2)
end

theorem runOne_quiet {n : Nat} {r : ROper} {fr : Fr} {st st' : St} {v : DV} (hq : loudD (isPure T) r.op = false) (h : runOne T n r fr st = some (v, st')) : st' = st := by
  cases n with
  | zero => simp [runOne] at h
  | succ n =>
    simp only [runOne] at h
    split at h
    · cases h
    · cases h; rfl
    · cases hop : r.op
      case call g args =>
        rw [hop] at hq h
        simp only [loudD, Bool.not_eq_false'] at hq
        exact callIsPure_state hq h
      case callv f args => rw [hop] at hq; cases hq
      case callp f args =>
        rw [hop] at h
        simp only at h
        split at h
        · split at h
          · rename_i hp; exact callIsPure_state hp h
          · cases h
        · cases h
      all_goals
        rw [hop] at hq h
        exact stepD_quiet hq h

theorem stateless_any {op : ROp} {fr : Fr} {st st' st2 : St} {v : DV} (hq : statelessD op = true) (h : stepD st fr op = some (v, st')) : stepD st2 fr op = some (v, st2) := by
  cases op <;> simp only [statelessD, reduceCtorEq] at hq <;> simp only [stepD] at h ⊢ <;> first
    | (cases h; done)
    | (cases h; rfl)
    | (simp only [Option.map_eq_some_iff] at h ⊢; obtain ⟨y, hy, h⟩ := h; cases h; exact ⟨_, hy, rfl⟩)
    | (split at h <;> first | (cases h; done) | (cases h; rfl) | (simp only [Option.map_eq_some_iff] at h ⊢; obtain ⟨y, hy, h⟩ := h; cases h; exact ⟨_, hy, rfl⟩) | (split at h <;> first | (cases h; done) | (cases h; rfl) | (simp only [Option.map_eq_some_iff] at h ⊢; obtain ⟨y, hy, h⟩ := h; cases h; exact ⟨_, hy, rfl⟩) | (split at h <;> first | (cases h; done) | (cases h; rfl) | (split at h <;> first | (cases h; done) | (cases h; rfl)))))
    | (split at h <;> first | (cases h; done) | (simp_all; done) | (split at h <;> first | (cases h; done) | (simp_all; done) | (split at h <;> first | (cases h; done) | (simp_all; done) | (split at h <;> first | (cases h; done) | (simp_all; done)))))
    | (split at h <;> first | (cases h; done) | (split at h <;> first | (cases h; done) | (rename_i hc; simp only [Option.map_eq_some_iff] at h; obtain ⟨y, hy, h⟩ := h; cases h; simp_all; done)))

/-- A region's run in the text's order, place by place. -/
theorem trace : ∀ (rs : List ROper) (n : Nat) (fr : Fr) (st : St) (sts : List St) (fr' : Fr) (out : List St), runOpsS T n rs fr st sts = some (fr', out) →
    ∃ (F : Nat → Fr) (V : Nat → DV) (S : Nat → St), F 0 = fr ∧ F rs.length = fr' ∧ S 0 = st ∧
      (∀ (i : Nat) (r : ROper), rs[i]? = some r → F (i + 1) = (F i).put r.dst (V i) ∧ ∃ m s', m < n ∧ runOne T m r (F i) (S (loudBefore (isPure T) rs i)) = some (V i, s') ∧
        (loudD (isPure T) r.op = true → S (loudBefore (isPure T) rs i + 1) = s')) ∧
      out = ((List.range (loudBefore (isPure T) rs rs.length)).map fun i => S (i + 1)).reverse ++ sts
  | [], n, fr, st, sts, fr', out, h => by
    cases n with
    | zero => simp [runOpsS] at h
    | succ n =>
      simp only [runOpsS, Option.some.injEq, Prod.mk.injEq] at h
      obtain ⟨rfl, rfl⟩ := h
      exact ⟨fun _ => fr, fun _ => .undef, fun _ => st, rfl, rfl, rfl, fun i r hi => by simp at hi, by simp [loudBefore]⟩
  | r :: rs, n, fr, st, sts, fr', out, h => by
    cases n with
    | zero => simp [runOpsS] at h
    | succ n =>
      simp only [runOpsS] at h
      split at h
      · rename_i v st1 hone
        have shift : ∀ i, loudBefore (isPure T) (r :: rs) (i + 1) = loudBefore (isPure T) rs i + (if loudD (isPure T) r.op = true then 1 else 0) := by
          intro i
          induction i with
          | zero => simp [loudBefore, loudAt]
          | succ i ih =>
            have e : loudAt (isPure T) (r :: rs) (i + 1) = loudAt (isPure T) rs i := by simp [loudAt]
            rw [loudBefore, ih, e]
            show _ = (loudBefore (isPure T) rs i + (if loudAt (isPure T) rs i = true then 1 else 0)) + _
            omega
        by_cases hl : loudD (isPure T) r.op = true
        · rw [if_pos hl] at h
          obtain ⟨F, V, S, h1, h2, h3, h4, h5⟩ := trace rs n _ st1 (st1 :: sts) fr' out h
          refine ⟨fun i => match i with | 0 => fr | i + 1 => F i, fun i => match i with | 0 => v | i + 1 => V i, fun i => match i with | 0 => st | i + 1 => S i, rfl, h2, rfl, ?_, ?_⟩
          · intro i r' hi
            cases i with
            | zero =>
              simp only [List.getElem?_cons_zero, Option.some.injEq] at hi
              subst hi
              exact ⟨h1, n, st1, Nat.lt_succ_self n, hone, fun _ => h3⟩
            | succ i =>
              simp only [List.getElem?_cons_succ] at hi
              obtain ⟨g1, m, s', g2, g3, g4⟩ := h4 i r' hi
              rw [shift, if_pos hl]
              exact ⟨g1, m, s', by omega, g3, g4⟩
          · rw [h5, List.length_cons, shift, if_pos hl]
            rw [List.range_succ_eq_map]
            simp only [List.map_cons, List.map_map, List.reverse_cons, List.append_assoc, List.singleton_append]
            rw [h3]
            rfl
        · rw [if_neg hl] at h
          obtain ⟨F, V, S, h1, h2, h3, h4, h5⟩ := trace rs n _ st sts fr' out h
          refine ⟨fun i => match i with | 0 => fr | i + 1 => F i, fun i => match i with | 0 => v | i + 1 => V i, S, rfl, h2, h3, ?_, ?_⟩
          · intro i r' hi
            cases i with
            | zero =>
              simp only [List.getElem?_cons_zero, Option.some.injEq] at hi
              subst hi
              refine ⟨h1, n, st1, Nat.lt_succ_self n, ?_, fun hh => absurd hh hl⟩
              show runOne T n r fr (S 0) = _
              rw [h3]; exact hone
            | succ i =>
              simp only [List.getElem?_cons_succ] at hi
              obtain ⟨g1, m, s', g2, g3, g4⟩ := h4 i r' hi
              rw [shift, if_neg hl]
              exact ⟨g1, m, s', by omega, g3, g4⟩
          · rw [h5, List.length_cons, shift, if_neg hl]
            rfl
      · cases h

theorem chkOne_get {sts : List St} {fr : Fr} {r : ROper} : ∀ (vs : List Nat) (n : Nat), chkOne T n fr r sts vs = true → ∀ v ∈ vs, ∃ m st x s' d, m < n ∧ sts[v]? = some st ∧ runOne T m r fr st = some (x, s') ∧ r.dst = some d ∧ x = fr.get d
  | [], _, _, v, hv => by cases hv
  | u :: vs, n, h, v, hv => by
    cases n with
    | zero => simp [chkOne] at h
    | succ n =>
      simp only [chkOne, Bool.and_eq_true] at h
      obtain ⟨h1, h2⟩ := h
      rcases List.mem_cons.1 hv with rfl | hv
      · split at h1
        · rename_i st hst
          split at h1
          · rename_i x s' d hrun hd
            exact ⟨n, st, x, s', d, Nat.lt_succ_self n, hst, hrun, hd, DV.beq_eq _ _ h1⟩
          · cases h1
        · cases h1
      · obtain ⟨m, st, x, s', d, g1, g2⟩ := chkOne_get vs n h2 v hv
        exact ⟨m, st, x, s', d, by omega, g2⟩

theorem chkAll_get {sts : List St} {fr : Fr} {rs : List ROper} : ∀ (chk : List (Nat × List Nat)) (n : Nat), chkAll T n fr rs sts chk = true → ∀ j vs, (j, vs) ∈ chk → ∃ m r, m < n ∧ rs[j]? = some r ∧ chkOne T m fr r sts vs = true
  | [], _, _, j, vs, hv => by cases hv
  | (i, us) :: chk, n, h, j, vs, hv => by
    cases n with
    | zero => simp [chkAll] at h
    | succ n =>
      simp only [chkAll, Bool.and_eq_true] at h
      obtain ⟨h1, h2⟩ := h
      rcases List.mem_cons.1 hv with e | hv
      · cases e
        split at h1
        · rename_i r hr
          exact ⟨n, r, Nat.lt_succ_self n, hr, h1⟩
        · cases h1
      · obtain ⟨m, r, g1, g2⟩ := chkAll_get chk n h2 j vs hv
        exact ⟨m, r, by omega, g2⟩

end Go.D
