/-
append, as an operation.
-/
import Derived.Test.YtpmjmbpcdacamaaFwDOpsJ
namespace Go.D
open Go.RowKit

variable {P : Program} {fm : FM}

section
variable {CR : Nat → RC → Code → Prop} {G : Gh} {w0 w : World} {st : St}

/-- A list's row is laid anew. -/
theorem sim_grown (hs : Sim fm CR G w0 st w) {t s n len cap : Nat} {toks : List Nat} {arr : Array Value} {e : TypeId}
    (hold : ∀ s', st.toks[t]? = some s' → s' < s) (hnew : toks[t]? = some s) (hoth : ∀ u x, u ≠ t → (toks[u]? = some x ↔ st.toks[u]? = some x))
    (hn : 0 < n) (hlc : len ≤ cap) (hsz : arr.size = cap * n) :
    ∃ G', G.le G' ∧ Sim fm CR G' w0 { st with toks := toks } (w.drew.alloc (.cells arr e)) ∧ (∀ i, i < len * n → G'.ro w.heap.size i = some (arr.getD i undef)) ∧ G'.hist t s = some (w.heap.size, len, cap, n) := by
  have h1 := hs.drew.alloc (.cells arr e)
  have hrow : (w.drew.alloc (.cells arr e)).heap[w.heap.size]? = some (.cells arr e (0, 0)) := World.alloc_heap_new w.drew _
  have h2 := h1.setTok (t := t) (s := s) (r := w.heap.size) (len := len) (cap := cap) (n := n) (toks := toks) (cs := arr) (ty := e) hold hnew hoth hn hlc hrow hsz (fun i _ => hs.roNew i) hs.muNew (fun _ => hs.floorLe) (fun u x y _ hx hy => hs.tokNew u x y hx hy)
  have hro : ∀ i, 0 ≤ i → i < len * n → (G.addTok t s w.heap.size len cap n).ro w.heap.size i = none := fun i _ _ => hs.roNew i
  have h3 := h2.addRoAt 0 (len * n) hro hs.floorLe hrow hs.muNew (fun u x y hu hy hr => by
    by_cases e : u = t
    · subst e
      have hu' : toks[u]? = some x := hu
      rw [hnew] at hu'; cases hu'
      have : y = (w.heap.size, len, cap, n) := by simpa [Gh.addTok] using hy.symm
      subst this; exact Nat.le_refl _
    · have hy' : G.hist u x = some y := by
        simp only [Gh.addTok] at hy
        rwa [if_neg (fun h => e h.1)] at hy
      exact absurd hr (hs.tokNew u x y ((hoth u x e).1 hu) hy'))
  refine ⟨_, (Gh.le_addTok hs hold _ _ _ _).trans (Gh.le_addRoAt _ _ _ _ _ hro hs.floorLe), h3, fun i hi => ?_, by simp [Gh.addRoAt, Gh.addTok]⟩
  have hlt : i < arr.size := by rw [hsz]; exact Nat.lt_of_lt_of_le hi (Nat.mul_le_mul_right _ hlc)
  simp [Gh.addRoAt, hi, hlt, Array.getD]

/-- A list grows in its own row. -/
theorem sim_inplace (hs : Sim fm CR G w0 st w) {t s n r len cap m : Nat} {N : List Value} (ht : st.toks[t]? = some s) (htb : st.tbase ≤ t) (hh : G.hist t s = some (r, len, cap, n)) (hfit : len + m ≤ cap) (hN : N.length = m * n) (h1 : ∀ u ∈ N, u.oneCell' = true) :
    ∃ G' w', (storeCells ⟨r, len * n, none⟩ N).run P w = .ok () w' ∧ G.le G' ∧ Sim fm CR G' w0 { st with toks := st.toks.set t (s + 1) } w' ∧ (∀ i, i < m * n → G'.ro r (len * n + i) = some (N.getD i undef)) ∧ G'.hist t (s + 1) = some (r, len + m, cap, n) := by
  obtain ⟨r', len', cap', n', cs, ty, a1, a2, a3, a4, a5, a6, a7, a8⟩ := hs.tok t s ht
  rw [hh] at a1; cases a1
  have hfl := a8 htb
  have hmul : len * n + m * n ≤ cs.size := by rw [a5, ← Nat.add_mul]; exact Nat.mul_le_mul_right _ hfit
  have hst := run_storeCells_row (P := P) (off := len * n) N 0 cs w a4 (by omega) (fun i hi => by simp) h1
  rw [Nat.add_zero, setRow_putObj a4] at hst
  have hssz := size_spliceA (cur := cs) (k := len * n) (vs := N) (by omega)
  have hget : ∀ i, i < len * n → (spliceA cs (len * n) N)[i]? = cs[i]? := by
    intro i hi
    unfold spliceA
    rw [List.getElem?_toArray, List.append_assoc, List.getElem?_append_left (by simp; omega), List.getElem?_take]
    simp [hi]
  have h2 := hs.putRow (cs' := spliceA cs (len * n) N) a4 hfl a7 hssz (fun i v hv => by
    apply hget
    rcases Nat.lt_or_ge i (len * n) with h | h
    · exact h
    · rw [a6 i h] at hv; cases hv)
  have hrow : (w.putObj r (.cells (spliceA cs (len * n) N) ty (0, 0))).heap[r]? = some (.cells (spliceA cs (len * n) N) ty (0, 0)) := by rw [putObj_heap w r r _ (get?_lt a4)]; simp
  have hlt : t < st.toks.length := (List.getElem?_eq_some_iff.1 ht).1
  have hoth : ∀ u x, u ≠ t → ((st.toks.set t (s + 1))[u]? = some x ↔ st.toks[u]? = some x) := fun u x hu => by rw [List.getElem?_set_ne (fun e => hu e.symm)]
  have hold : ∀ s', st.toks[t]? = some s' → s' < s + 1 := fun s' h => by rw [ht] at h; cases h; omega
  have hdis : ∀ u x y, u ≠ t → st.toks[u]? = some x → G.hist u x = some y → y.1 ≠ r := fun u x y hu hx hy e => hu (hs.tokInj u t x s y _ hx ht hy hh e)
  have hrange : ∀ i, (len + m) * n ≤ i → len * n ≤ i := fun i hi => by rw [Nat.add_mul] at hi; omega
  have h3 := h2.setTok (t := t) (s := s + 1) (r := r) (len := len + m) (cap := cap) (n := n) (toks := st.toks.set t (s + 1)) (cs := spliceA cs (len * n) N) (ty := ty)
    hold (by simp [hlt]) hoth a2 hfit hrow (by rw [hssz, a5]) (fun i hi => a6 i (hrange i hi)) a7 a8 hdis
  have hro : ∀ i, len * n ≤ i → i < (len + m) * n → (G.addTok t (s + 1) r (len + m) cap n).ro r i = none := fun i hi _ => a6 i hi
  have h4 := h3.addRoAt (len * n) ((len + m) * n) hro hfl hrow a7 (fun u x y hu hy hr => by
    by_cases e : u = t
    · subst e
      have hu' : (st.toks.set u (s + 1))[u]? = some x := hu
      simp only [List.getElem?_set_self hlt, Option.some.injEq] at hu'
      subst hu'
      have : y = (r, len + m, cap, n) := by simpa [Gh.addTok] using hy.symm
      subst this; exact Nat.le_refl _
    · have hy' : G.hist u x = some y := by
        simp only [Gh.addTok] at hy
        rwa [if_neg (fun h => e h.1)] at hy
      exact absurd hr (hdis u x y e ((hoth u x e).1 hu) hy'))
  refine ⟨_, _, hst, (Gh.le_addTok hs hold _ _ _ _).trans (Gh.le_addRoAt _ _ _ _ _ hro hfl), h4, fun i hi => ?_, by simp [Gh.addRoAt, Gh.addTok]⟩
  have e1 : len * n + i < (len + m) * n := by rw [Nat.add_mul]; omega
  have e2 : (spliceA cs (len * n) N)[len * n + i]? = some (N.getD i undef) := by
    unfold spliceA
    have hiN : i < N.length := by omega
    rw [List.getElem?_toArray, List.append_assoc, List.getElem?_append_right (by simp; omega)]
    have e3 : len * n + i - (cs.toList.take (len * n)).length = i := by simp; omega
    rw [e3, List.getElem?_append_left hiN, List.getD_eq_getElem?_getD, List.getElem?_eq_getElem hiN]
    rfl
  simp [Gh.addRoAt, e1, e2]

end

/-- Cells laid one row behind the other. -/
theorem laid_rel {G : Gh} {olds news : List DV} {O N Z : Array Value} (hO : O.size = olds.length) (hN : N.size = news.length) (rO : ∀ i (h : i < olds.length), Rel fm G (olds[i]) (O.getD i undef)) (rN : ∀ i (h : i < news.length), Rel fm G (news[i]) (N.getD i undef)) :
    ∀ i (h : i < (olds ++ news).length), Rel fm G ((olds ++ news)[i]) ((O ++ N ++ Z).getD i undef) := by
  intro i h
  have hi : i < olds.length + news.length := by simpa using h
  have e0 : (O ++ N ++ Z).getD i undef = (O ++ N).getD i undef := by
    rw [Array.getD_eq_getD_getElem?, Array.getD_eq_getD_getElem?, Array.getElem?_append_left (by simp; omega)]
  rw [e0]
  by_cases e : i < olds.length
  · rw [List.getElem_append_left e]
    have : (O ++ N).getD i undef = O.getD i undef := by
      rw [Array.getD_eq_getD_getElem?, Array.getD_eq_getD_getElem?, Array.getElem?_append_left (by omega)]
    rw [this]; exact rO i e
  · rw [List.getElem_append_right (by omega)]
    have : (O ++ N).getD i undef = N.getD (i - olds.length) undef := by
      rw [Array.getD_eq_getD_getElem?, Array.getD_eq_getD_getElem?, Array.getElem?_append_right (by omega), hO]
    rw [this]; exact rN _ (by omega)

theorem demote_map_get (news : List DV) (i : Nat) (h : i < (news.map DV.demote).length) : (news.map DV.demote)[i] = (news[i]'(by simpa using h)).demote := by simp

end Go.D
