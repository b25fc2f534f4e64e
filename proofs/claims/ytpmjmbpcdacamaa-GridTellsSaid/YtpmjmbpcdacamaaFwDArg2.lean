/-
All arguments of a law at once: what they stand for, and that they stay.
-/
import Derived.Test.YtpmjmbpcdacamaaFwDArg
import Derived.Below
import Derived.WideKeyArgs
namespace Go.D
open Go.RowKit

variable {P : Program} {fm : FM}

theorem spot_of_cell {w : World} {base : Nat} {t : TypeId} {a : Addr} {len cap : Nat} (h : Cell.okWide P w .any base t (.slice (some a) len cap)) : a.spot = none := by
  unfold Cell.okWide at h
  split at h <;> try (rename_i e1 e2; cases e2; done)
  unfold Cell.ok at h
  split at h <;> rename_i e1 e2 <;> first | (cases e2; done) | skip
  · cases e2
    exact h.2.2.2.1
  · cases h

theorem noSpot_of_val {w : World} {base : Nat} {t : TypeId} {v : Value} (h : Value.okWide P w .any base t v) : NoSpot v.cells.toList := by
  intro a len cap hm
  unfold Value.okWide at h
  split at h
  · obtain ⟨cs, rfl, _, ts, _, _, hc⟩ := h
    obtain ⟨i, hi⟩ := List.mem_iff_getElem?.1 hm
    obtain ⟨u, _, hu⟩ := hc i _ (by simpa [Value.cells] using hi)
    exact spot_of_cell hu
  · obtain ⟨cs, rfl, _, ts, _, _, hc⟩ := h
    obtain ⟨i, hi⟩ := List.mem_iff_getElem?.1 hm
    obtain ⟨u, _, hu⟩ := hc i _ (by simpa [Value.cells] using hi)
    exact spot_of_cell hu
  · cases v
    case agg cs =>
      exfalso
      unfold Cell.okWide at h
      split at h <;> try (rename_i e1 e2; cases e2; done)
      unfold Cell.ok at h
      split at h <;> rename_i e1 e2 <;> first | (cases e2; done) | (cases h; done)
    all_goals
      simp [Value.cells] at hm
    obtain ⟨rfl, rfl, rfl⟩ := hm
    exact spot_of_cell h

theorem not_agg {w : World} {base : Nat} {t : TypeId} {cs : Array Value} (ht : isAggT P t = false) (h : Value.okWide P w .any base t (.agg cs)) : False := by
  unfold Value.okWide at h
  unfold isAggT at ht
  split at h
  · rename_i e; rw [e] at ht; cases ht
  · rename_i e; rw [e] at ht; cases ht
  · unfold Cell.okWide at h
    split at h <;> try (rename_i e1 e2; cases e2; done)
    unfold Cell.ok at h
    split at h <;> rename_i e1 e2 <;> first | (cases e2; done) | (cases h; done)

theorem shOf_one {n : Nat} {top : Bool} {t : TypeId} {ss : List Sh} (h : shOf P n top t = some ss) (ht : isAggT P t = false) : ss.length = 1 := by
  cases n with
  | zero => cases h
  | succ n =>
    unfold isAggT at ht
    simp only [shOf] at h
    split at h <;> rename_i e <;> try (rw [e] at ht)
    · cases h; rfl
    · cases h; rfl
    · cases h; rfl
    · split at h
      · split at h
        · cases h; rfl
        · cases h
      · cases h
    · cases ht
    · cases ht
    · cases h

/-- What an argument stands for. -/
theorem arg_in {H : Type} {enc : TypeId × Value → H} {w : World} {base base' : Nat} {sp : Nat → Bool} {held : Bool} {n : Nat} {t : TypeId} {ss : List Sh} {b : Bool} {v : Value} {d : DataW H} {p : List MemPlace}
    (hsh : shOf P n true t = some ss) (hb : isAggT P t = b) (hval : Value.okWide P w .any base' t v) (h : DataW.Trod enc P w base sp held t v d p) (hwt : ∀ k ∈ DataW.weights P t d, k ≤ reachBytes) :
    ∃ vs, Fits ss vs ∧ Rel fm (ghA w) (elemOf b vs) v := by
  obtain ⟨fuel, h⟩ := h
  obtain ⟨vs, h1, h2⟩ := read_ok (fm := fm) n true t ss hsh fuel _ _ h hwt fun _ => noSpot_of_val hval
  refine ⟨vs, h1, ?_⟩
  cases b with
  | true =>
    have : ∃ cs, v = .agg cs := by
      unfold isAggT at hb
      unfold Value.okWide at hval
      split at hval
      · obtain ⟨cs, rfl, _⟩ := hval; exact ⟨cs, rfl⟩
      · obtain ⟨cs, rfl, _⟩ := hval; exact ⟨cs, rfl⟩
      · rename_i k1 k2
        split at hb <;> rename_i e
        · exact absurd e (k1 _)
        · exact absurd e (k2 _ _)
        · cases hb
    obtain ⟨cs, rfl⟩ := this
    refine .agg vs cs (by simpa [Value.cells] using h2.1) fun i hi => ?_
    have := h2.2 i hi
    simpa [Value.cells, Array.getD_eq_getD_getElem?, List.getD_eq_getElem?_getD] using this
  | false =>
    have hl := h1.length
    rw [shOf_one hsh hb] at hl
    match vs, hl with
    | [x], _ =>
      have := h2.2 0 (by simp)
      have hv : v.cells = #[v] := by
        cases v <;> first | rfl | exact (not_agg hb hval).elim
      rw [hv] at this
      exact this

def FitAll : List (Bool × List Sh) → List DV → Prop
  | [], us => us = []
  | (b, ss) :: r, us => ∃ vs us', us = elemOf b vs :: us' ∧ Fits ss vs ∧ FitAll r us'

def argShs (P : Program) : List TypeId → Option (List (Bool × List Sh))
  | [] => some []
  | t :: ts => match shOf P 9 true t, argShs P ts with | some s, some r => some ((isAggT P t, s) :: r) | _, _ => none

theorem args_in {H : Type} {enc : TypeId × Value → H} {w : World} {base base' : Nat} {sp : Nat → Bool} {held : Bool} : ∀ (ts : List TypeId) (shs : List (Bool × List Sh)) (vs : List Value) (ds : List (DataW H)) (ps : List MemPlace),
    argShs P ts = some shs → (∀ (j : Nat) t v, ts[j]? = some t → vs[j]? = some v → Value.okWide P w .any base' t v) → DataW.TrodAll enc P w base sp held ts vs ds ps → (∀ k ∈ DataW.weightsEach P ts ds, k ≤ reachBytes) →
    ∃ us : List DV, FitAll shs us ∧ vs.length = us.length ∧ ∀ i (h : i < us.length), Rel fm (ghA w) (us[i]) (vs.getD i undef)
  | [], shs, vs, ds, ps, h, hv, ht, hwt => by
    cases h
    cases vs <;> cases ds <;> simp [DataW.TrodAll] at ht
    exact ⟨[], rfl, rfl, fun i hi => by simp at hi⟩
  | t :: ts, shs, vs, ds, ps, h, hv, ht, hwt => by
    simp only [argShs] at h
    split at h
    · rename_i s r e1 e2
      cases h
      obtain ⟨v, vs', d, ds', p, q, rfl, rfl, rfl, h1, h2⟩ := Go.ChangeShapes.trodAll_cons ht
      obtain ⟨u, f1, f2⟩ := arg_in (fm := fm) e1 rfl (hv 0 t v rfl rfl) h1 fun k hk => hwt k (by simp only [DataW.weightsEach, List.mem_append]; exact .inl hk)
      obtain ⟨us, f3, f4, f5⟩ := args_in ts r vs' ds' q e2 (fun j t' v' k1 k2 => hv (j + 1) t' v' (by simpa using k1) (by simpa using k2)) h2 fun k hk => hwt k (by simp only [DataW.weightsEach, List.mem_append]; exact .inr hk)
      refine ⟨elemOf (isAggT P t) u :: us, ⟨u, us, rfl, f1, f3⟩, by simp [f4], fun i hi => ?_⟩
      cases i with
      | zero => exact f2
      | succ i => simpa using f5 i (by simpa using hi)
    · cases h

theorem trodAll_stays {H : Type} {enc : TypeId × Value → H} {W W' : World} {sp' : Nat → Bool} (hl : laidOutB P = true) : ∀ (ts : List TypeId) (vs : List Value) (ds : List (DataW H)) (ps : List MemPlace),
    (ts.all fun t => P.readableRec t && decide (t < P.types.size)) = true → DataW.TrodAll enc P W 0 (fun _ => true) true ts vs ds ps → (∀ p ∈ ps, W.sameAt W' p) → (∀ p ∈ ps, sp' p.block = true) →
    DataW.TrodAll enc P W' 0 sp' true ts vs ds ps
  | [], vs, ds, ps, _, h, _, _ => by
    cases vs <;> cases ds <;> simp [DataW.TrodAll] at h ⊢
    exact h
  | t :: ts, vs, ds, ps, hr, h, hs, hp => by
    rw [List.all_cons, Bool.and_eq_true, Bool.and_eq_true] at hr
    obtain ⟨v, vs', d, ds', p, q, rfl, rfl, rfl, h1, h2⟩ := Go.ChangeShapes.trodAll_cons h
    exact ⟨p, q, WideElems.Trod_stays hl hr.1.1 (of_decide_eq_true hr.1.2) h1 (fun x hx => hs x (List.mem_append_left _ hx)) (fun x hx => hp x (List.mem_append_left _ hx)),
      trodAll_stays hl ts vs' ds' q hr.2 h2 (fun x hx => hs x (List.mem_append_right _ hx)) (fun x hx => hp x (List.mem_append_right _ hx)), rfl⟩

/-- A law whose run tells true of all that its arguments may stand for. -/
theorem law_calls_fit {H : Type} {enc : TypeId × Value → H} {T : Tab} (hT : TabRel P fm T) (hm : P.follows .mixedOrders = true) {g : Nat} {f : FuncId} {F : RFunc} {args : Array Value} {ts : List TypeId} {shs : List (Bool × List Sh)} {ds : List (DataW H)} {ps : List MemPlace} {sp : Nat → Bool} {held : Bool}
    (hg : T g = some (.code F)) (hf : fm g = some f) (hsh : argShs P ts = some shs) (w : World) {base base' : Nat} (hv : ∀ (j : Nat) t v, ts[j]? = some t → args.toList[j]? = some v → Value.okWide P w .any base' t v)
    (ht : DataW.TrodAll enc P w base sp held ts args.toList ds ps) (hwt : (DataW.weightsEach P ts ds).all (· ≤ reachBytes) = true) (hrun : ∀ us, FitAll shs us → ∃ st', (E T).F g us st0 = some (.bool true, st')) (he : EnvIn fm w) :
    Calls P f args w (fun e w' => e = .returned (.bool true) ∧ Below w.heap.size w w') := by
  obtain ⟨us, h1, h2, h3⟩ := args_in (fm := fm) ts shs _ ds ps hsh hv ht fun k hk => by simpa using List.all_eq_true.1 hwt k hk
  obtain ⟨st', hr⟩ := hrun us h1
  refine law_calls_in hT hm hg hf hr w he ⟨by simpa using h2, fun i hi => ?_⟩
  have := h3 i hi
  simpa [Array.getD_eq_getD_getElem?, List.getD_eq_getElem?_getD] using this

end Go.D
