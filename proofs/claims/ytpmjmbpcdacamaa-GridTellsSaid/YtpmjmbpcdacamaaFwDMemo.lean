/-
Calls that are known: a call that was run by itself, from an empty state, tells the same wherever it is made.
-/
import Derived.Test.YtpmjmbpcdacamaaFwDTree
import Derived.Test.YtpmjmbpcdacamaaFwDKp
namespace Go.D
open Go.RowKit

variable {P : Program} {fm : FM}

mutual
/-- Does a value hang on nothing but what is read alone? -/
def DV.free : DV → Bool
  | .bool _ | .int _ _ | .str _ | .nilp | .nilmap | .nilfn | .niliface => true
  | .cptr cs => DV.frees cs
  | .list _ _ tk _ xs => (match tk with | .own _ _ => false | _ => true) && DV.frees xs
  | .fn _ a b => DV.frees a && DV.frees b
  | .iface _ v => DV.free v
  | .agg vs | .tuple vs => DV.frees vs
  | _ => false
def DV.frees : List DV → Bool
  | [] => true
  | v :: r => DV.free v && DV.frees r
end

theorem frees_get : ∀ {vs : List DV}, DV.frees vs = true → ∀ i (h : i < vs.length), (vs[i]).free = true
  | [], _, i, h => by simp at h
  | v :: r, hf, i, h => by
    simp only [DV.frees, Bool.and_eq_true] at hf
    cases i with
    | zero => exact hf.1
    | succ i => exact frees_get hf.2 i (by simpa using h)

theorem frees_leaves {v : DV} (h : v.free = true) : ∀ x ∈ v.leaves, x.free = true := by
  intro x hx
  cases v <;> simp only [DV.leaves, List.mem_singleton] at hx <;> try (subst hx; exact h)
  rename_i vs
  simp only [DV.free] at h
  obtain ⟨i, hi, rfl⟩ := List.getElem_of_mem hx
  exact frees_get h i hi

theorem frees_flat {xs : List DV} (h : DV.frees xs = true) (i : Nat) (hi : i < (flat xs).length) : ((flat xs)[i]).free = true := by
  have hm := List.getElem_mem hi
  unfold flat at hm
  obtain ⟨v, hv, hm⟩ := List.mem_flatMap.1 hm
  obtain ⟨j, hj, rfl⟩ := List.getElem_of_mem hv
  exact frees_leaves (frees_get h j hj) _ hm

/-- Such a value stands for the same wherever at least as much is read alone. -/
theorem Rel.freeTo {G G' : Gh} (hro : ∀ r i v, G.ro r i = some v → G'.ro r i = some v) {v : DV} {x : Value} (k : Rel fm G v x) (h : v.free = true) : Rel fm G' v x := by
  induction k with
  | undef x => cases h
  | bool b => exact .bool b
  | int k n => exact .int k n
  | str l s hh => exact .str l s hh
  | ptr b off r hh => cases h
  | nilp => exact .nilp
  | cptr cs r off f hr _ hp ih =>
    simp only [DV.free] at h
    exact .cptr cs r off f (fun i hi => (hr i hi).imp (hro _ _ _) id) (fun i hi => ih i hi (frees_get h i hi)) hp
  | nils tag n tk => exact .nils tag n tk
  | list tag n tk xs r off cap f hr _ hp hk hl hn ih =>
    simp only [DV.free, Bool.and_eq_true] at h
    refine .list tag n tk xs r off cap f (fun i hi => hro _ _ _ (hr i hi)) (fun i hi => ih i hi (frees_flat h.2 i hi)) hp ?_ hl hn
    cases tk with
    | no => trivial
    | tight => exact hk
    | own a b => simp at h
  | hsl n ag b off len cap r c hh hc => cases h
  | map b r hh => cases h
  | nilmap => exact .nilmap
  | fn g first captured f fs cs hh h1 h2 _ _ ih1 ih2 =>
    simp only [DV.free, Bool.and_eq_true] at h
    exact .fn g first captured f fs cs hh h1 h2 (fun i hi => ih1 i hi (frees_get h.1 i hi)) (fun i hi => ih2 i hi (frees_get h.2 i hi))
  | yield l r hh => cases h
  | nilfn => exact .nilfn
  | iface t v x _ ih => exact .iface t v x (ih h)
  | niliface => exact .niliface
  | agg vs cs hl _ ih =>
    simp only [DV.free] at h
    exact .agg vs cs hl (fun i hi => ih i hi (frees_get h i hi))
  | tuple vs cs hl _ ih =>
    simp only [DV.free] at h
    exact .tuple vs cs hl (fun i hi => ih i hi (frees_get h i hi))

/-- The ghost of a call that begins with nothing of its own. -/
def Gh.bare (G : Gh) (w : World) : Gh := { gh0 w with ro := G.ro }

theorem Sim.bare {CR CR' : Nat → RC → Code → Prop} {G : Gh} {w0 w : World} {st : St} (h : Sim fm CR G w0 st w) : Sim fm CR' (G.bare w) w st0 w where
  muDom := fun b r h => by cases h
  muInj := fun b b' o o' r h => by simp [st0] at h
  obj := fun b o h => by simp [st0] at h
  ro := h.ro
  roMu := fun r i v b o _ h => by simp [st0] at h
  tok := fun t s h => by simp [st0] at h
  tokInj := fun t t' s s' x x' h => by simp [st0] at h
  hist := fun t s x h => by cases h
  dfr := fun r h => h.elim
  lps := fun r h => h.elim
  floorLe := Nat.le_refl _
  below := Below.refl _ w
  base := rfl
  tbase := rfl
  baseLe := Nat.zero_le _
  pend := fun b o h => by cases h
  env := h.env_enter

/-- The calls of a function that are known. -/
def memoP (l : List (List DV × DV)) (as : List DV) : Option DV :=
  match l with
  | [] => none
  | (a, v) :: r => if DV.beqs a as then some v else memoP r as

/-- A call that was run by itself. -/
def Ran (T : Tab) (g : Nat) (as : List DV) (v : DV) : Prop := DV.frees as = true ∧ v.free = true ∧ ∃ n st', callF T n g as st0 = some (v, st')

theorem ran_of {T : Tab} {n g : Nat} {as : List DV} {v : DV} (h1 : DV.frees as = true) (h2 : v.free = true) (h : tells T n g as st0 v = true) : Ran T g as v := by
  obtain ⟨st', h⟩ := callF_tells h
  exact ⟨h1, h2, n, st', h⟩

theorem memo_ok {T T2 : Tab} (hT : TabRel P fm T) (hm : P.follows .mixedOrders = true) {g : Nat} {f : FuncId} (hf : fm g = some f) : ∀ (l : List (List DV × DV)), (∀ p ∈ l, Ran T g p.1 p.2) → DefRel P fm T2 (.pprim (memoP l)) f := by
  intro l hl
  show PrimSim P fm T2 _ f
  intro G w0 st w args args' v st' hs ha hp
  simp only [Option.map_eq_some_iff] at hp
  obtain ⟨u, hu, hp⟩ := hp
  cases hp
  have key : ∃ p ∈ l, args = p.1 ∧ v = p.2 := by
    clear hl
    induction l with
    | nil => simp [memoP] at hu
    | cons p r ih =>
      obtain ⟨a, x⟩ := p
      simp only [memoP] at hu
      split at hu
      · rename_i hb
        injection hu with hu
        exact ⟨(a, x), by simp, (DV.beqs_eq _ _ hb).symm, hu.symm⟩
      · obtain ⟨p, h1, h2⟩ := ih hu
        exact ⟨p, by simp [h1], h2⟩
  obtain ⟨p, hpl, rfl, rfl⟩ := key
  obtain ⟨h1, h2, n, st', hrun⟩ := hl p hpl
  have hs0 : SimT P fm T (G.bare w) w st0 w := hs.bare
  have ha0 : RelsA fm (G.bare w) p.1 args' := by
    refine ⟨ha.1, fun i hi => ?_⟩
    have hr : Rel fm G (p.1[i]) (args'.getD i undef) := ha.2 i hi
    exact Rel.freeTo (G := G) (G' := G.bare w) (fun _ _ _ h => h) hr (frees_get h1 i hi)
  have hfin : ∀ x w', (∃ G', (G.bare w).le G' ∧ SimT P fm T G' w st' w' ∧ Rel fm G' p.2 x) → ∃ G', G.le G' ∧ SimT P fm T2 G' w0 st w' ∧ Rel fm G' p.2 x := by
    rintro x w' ⟨G1, g1, g2, g3⟩
    have hb : Below w.heap.size w w' := by
      have := g2.below
      rw [g1.floor] at this
      exact this
    refine ⟨G.shut w w', Gh.le_shut hs w', hs.shut hb, g3.freeTo (fun r i u hu => ?_) h2⟩
    show (if _ then _ else _) = _
    by_cases e : r < w.heap.size
    · rw [if_pos e]
      have := g1.roFloor r i e
      rw [this] at hu; exact hu
    · rw [if_neg e]
      obtain ⟨cs, t, fz, e1, e2⟩ := g2.ro r i u hu
      rw [e1]; exact e2
  have hfn := ((good_all hT hm n).fn hf hrun hs0 ha0).1
  rcases hfn with ⟨f', q1, q2⟩ | ⟨x, w', q1, q2⟩
  · refine .inl ⟨f', q1, Go.CallsIn.mono q2 ?_⟩
    rintro e w' ⟨x, rfl, hx⟩
    exact ⟨x, rfl, hfin x w' hx⟩
  · exact .inr ⟨x, w', q1, hfin x w' q2⟩

end Go.D
