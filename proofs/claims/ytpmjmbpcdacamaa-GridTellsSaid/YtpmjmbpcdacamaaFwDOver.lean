/-
A table in which functions that are known stand as what they tell.
-/
import Derived.Test.YtpmjmbpcdacamaaFwDMemo
import Derived.Test.YtpmjmbpcdacamaaFwDEq
namespace Go.D
open Go.RowKit

variable {P : Program} {fm : FM}

/-- As 'memo_ok', by what is told of arguments. -/
theorem pprim_ok {T T2 : Tab} (hT : TabRel P fm T) (hm : P.follows .mixedOrders = true) {g : Nat} {f : FuncId} (hf : fm g = some f) (q : List DV → Option DV) (hq : ∀ as v, q as = some v → Ran T g as v) : DefRel P fm T2 (.pprim q) f := by
  intro G w0 st w args args' v st' hs ha hp
  simp only [Option.map_eq_some_iff] at hp
  obtain ⟨u, hu, hp⟩ := hp
  cases hp
  have hl : ∀ p ∈ [(args, v)], Ran T g p.1 p.2 := by
    intro p hp
    obtain rfl : p = (args, v) := by simpa using hp
    exact hq _ _ hu
  have hm2 : memoP [(args, v)] args = some v := by
    unfold memoP
    rw [if_pos (DV.beqs_self args)]
  exact memo_ok (T2 := T2) hT hm hf _ hl G w0 st w args args' v st hs ha (by simp [hm2])

theorem DRelC.congr {T T' : Tab} (h : isPure T = isPure T') {rs : List ROper} {chk : List (Nat × List Nat)} {ops : Array Oper} {anc : Nat → List Nat} (k : DRelC T rs chk ops anc) : DRelC T' rs chk ops anc where
  just := k.just
  edges := k.edges
  chkReads := k.chkReads
  loud := h ▸ k.loud
  writers := k.writers
  readers := k.readers
  cover := h ▸ k.cover

theorem CRel_to {T T' : Tab} (h : isPure T = isPure T') {N : Nat} : ∀ {c : RC} {x : Code}, CRel P fm T N c x → CRel P fm T' N c x := by
  intro c
  induction c with
  | skip => intro x k; exact k
  | region ops live => intro x k; exact k
  | dregion ops hs chk live =>
    intro x k
    obtain ⟨id, oops, anc, e, k⟩ := k
    exact ⟨id, oops, anc, e, ⟨k.rel, k.free, k.rest.congr h⟩⟩
  | seq a b iha ihb =>
    intro x k
    obtain ⟨u, v, e, k1, k2⟩ := k
    exact ⟨u, v, e, iha k1, ihb k2⟩
  | cond y a b iha ihb =>
    intro x k
    obtain ⟨o, u, v, e, k0, k1, k2⟩ := k
    exact ⟨o, u, v, e, k0, iha k1, ihb k2⟩
  | block id a ih =>
    intro x k
    obtain ⟨u, e, k⟩ := k
    exact ⟨u, e, ih k⟩
  | loop live a ih =>
    intro x k
    obtain ⟨u, e, k⟩ := k
    exact ⟨u, e, ih k⟩
  | exit id => intro x k; exact k
  | ret => intro x k; exact k
  | stuck => intro x k; exact k
  | rfunc f ps as bo live iha ihb =>
    intro x k
    obtain ⟨o, qs, u, v, e, k0, k1, k2, k3, k4⟩ := k
    exact ⟨o, qs, u, v, e, k0, k1, k2, iha k3, ihb k4⟩

theorem CRel_eq {T T' : Tab} (h : isPure T = isPure T') : CRel P fm T = CRel P fm T' := by
  funext N c x
  exact propext ⟨CRel_to h, CRel_to h.symm⟩

theorem DefRel_to {T T' : Tab} (h : isPure T = isPure T') {d : Def} {f : FuncId} (k : DefRel P fm T d f) : DefRel P fm T' d f := by
  cases d <;> simp only [DefRel, PrimSim, SimT, CRel_eq (P := P) (fm := fm) h] at k ⊢ <;> exact k

/-- A table, with what is known laid over it. -/
def over (T : Tab) : List (Nat × (List DV → Option DV)) → Tab
  | [], g => T g
  | (h, p) :: r, g => bif Nat.beq g h then some (.pprim p) else over T r g

theorem over_pure (T : Tab) : ∀ l : List (Nat × (List DV → Option DV)), (∀ x ∈ l, isPure T x.1 = true) → isPure T = isPure (over T l)
  | [], _ => rfl
  | (h, p) :: r, hl => by
    funext g
    have ih := congrFun (over_pure T r fun x hx => hl x (List.mem_cons_of_mem _ hx)) g
    show isPure T g = match over T ((h, p) :: r) g with | some (.code f) => f.pureF | some (.pprim _) => true | _ => false
    simp only [over]
    cases hb : Nat.beq g h with
    | true =>
      have := Nat.eq_of_beq_eq_true hb
      subst this
      exact hl (g, p) (List.mem_cons_self ..)
    | false => exact ih

theorem over_get (T : Tab) : ∀ (l : List (Nat × (List DV → Option DV))) (g : Nat) (d : Def), over T l g = some d → T g = some d ∨ ∃ x ∈ l, x.1 = g ∧ d = .pprim x.2
  | [], g, d, h => .inl h
  | (h0, p) :: r, g, d, h => by
    simp only [over] at h
    cases hb : Nat.beq g h0 with
    | true =>
      rw [hb] at h
      have := Nat.eq_of_beq_eq_true hb
      subst this
      simp only [cond_true, Option.some.injEq] at h
      exact .inr ⟨(g, p), List.mem_cons_self .., rfl, h.symm⟩
    | false =>
      rw [hb] at h
      rcases over_get T r g d h with h | ⟨x, hx, h⟩
      · exact .inl h
      · exact .inr ⟨x, List.mem_cons_of_mem _ hx, h⟩

theorem over_ok {T : Tab} (hT : TabRel P fm T) (hm : P.follows .mixedOrders = true) (l : List (Nat × (List DV → Option DV))) (hp : ∀ x ∈ l, isPure T x.1 = true) (hr : ∀ x ∈ l, ∀ as v, x.2 as = some v → Ran T x.1 as v) : TabRel P fm (over T l) := by
  intro g d f hd hf
  rcases over_get T l g d hd with h | ⟨x, hx, rfl, rfl⟩
  · exact DefRel_to (over_pure T l hp) (hT g d f h hf)
  · exact pprim_ok hT hm hf x.2 (hr x hx)

/-- A law whose run, without a count of steps, tells true. -/
theorem law_calls {T : Tab} (hT : TabRel P fm T) (hm : P.follows .mixedOrders = true) {g : Nat} {f : FuncId} {F : RFunc} {st' : St} {args : List DV} {args' : Array Value} (hg : T g = some (.code F)) (hf : fm g = some f)
    (hrun : (E T).F g args st0 = some (.bool true, st')) (ha : ∀ G, RelsA fm G args args') (w : World) (he : EnvIn fm w) :
    Calls P f args' w (fun e w' => e = .returned (.bool true) ∧ Below w.heap.size w w') := by
  obtain ⟨n, h⟩ := callF_E hrun
  exact known_calls_args hT hm hg hf h ha w he

theorem ran_E {T : Tab} {g : Nat} {as : List DV} {v : DV} {st' : St} (h1 : DV.frees as = true) (h2 : v.free = true) (h : (E T).F g as st0 = some (v, st')) : Ran T g as v := by
  obtain ⟨n, h⟩ := callF_E h
  exact ⟨h1, h2, n, st', h⟩

theorem u8_of {x : Int} (h : (Lit.int .u8 x).wf = true) : ∃ c : UInt8, x = (c.toNat : Int) := by
  have h2 : 0 ≤ x ∧ x ≤ 255 := by simpa [Lit.wf, IntKind.min, IntKind.max, IntKind.bits, IntKind.signed] using h
  refine ⟨UInt8.ofNat x.toNat, ?_⟩
  have h3 : (UInt8.ofNat x.toNat).toNat = x.toNat := by
    rw [UInt8.toNat_ofNat']
    omega
  rw [h3]
  omega

theorem relsMk3 {G : Gh} {v u t : DV} {x y z : Value} (h : Rel fm G v x) (k : Rel fm G u y) (l : Rel fm G t z) : RelsA fm G [v, u, t] #[x, y, z] := ⟨rfl, fun i hi => by
  match i, hi with
  | 0, _ => exact h
  | 1, _ => exact k
  | 2, _ => exact l⟩

theorem relsMk4 {G : Gh} {v u t s : DV} {x y z a : Value} (h : Rel fm G v x) (k : Rel fm G u y) (l : Rel fm G t z) (m : Rel fm G s a) : RelsA fm G [v, u, t, s] #[x, y, z, a] := ⟨rfl, fun i hi => by
  match i, hi with
  | 0, _ => exact h
  | 1, _ => exact k
  | 2, _ => exact l
  | 3, _ => exact m⟩

end Go.D
