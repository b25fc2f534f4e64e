/-
append.
-/
import Derived.Test.YtpmjmbpcdacamaaFwDOpsI
namespace Go.D
open Go.RowKit

variable {P : Program} {fm : FM}

/-! ### What the model runs -/

def appArgOk (P : Program) (u : TypeId) : Bool := match P.underlying u with | some (.slice _) => true | some .string => true | _ => false

theorem appArg {u : TypeId} (h : appArgOk P u = true) : (∃ e, P.underlying u = some (.slice e)) ∨ P.underlying u = some .string := by
  unfold appArgOk at h
  split at h
  · rename_i e he; exact .inl ⟨e, he⟩
  · rename_i he; exact .inr he
  · cases h

theorem run_append_fit {w w' : World} {t u ty e : TypeId} {i : TypeInfo} {a : Option Addr} {sLen sCap m : Nat} {x : Value} {news : Array Value} (ht : P.underlying t = some (.slice e)) (hi : P.info? e = some i) (hu : appArgOk P u = true)
    (hlen : (Builtin.lenOf x).run P w = .ok m w) (hfit : sLen + m ≤ sCap) (hnews : (Builtin.firstCells i.size m x).run P w = .ok news w)
    (hst : (match a with | some a => storeCells (a.add (sLen * i.size)) news.toList | none => pure () : Sem Unit).run P w = .ok () w') :
    (Builtin.append_ #[t, u] ty #[.slice a sLen sCap, x]).run P w = .ok (.slice a (sLen + m) sCap) w' := by
  have hsize : (sizeOf e).run P w = .ok i.size w := by unfold sizeOf typeInfo; simp [hi]
  cases a with
  | none =>
    simp only [Sem.run_pure] at hst
    cases hst
    rcases appArg hu with ⟨e', hd⟩ | hd <;> simp [Builtin.append_, run_underlying ht, run_underlying hd, hsize, hlen, hfit, hnews]
  | some a =>
    simp only at hst
    rcases appArg hu with ⟨e', hd⟩ | hd <;> simp [Builtin.append_, run_underlying ht, run_underlying hd, hsize, hlen, hfit, hnews, hst]

theorem run_append_more {w : World} {t u ty e : TypeId} {i : TypeInfo} {z : Value} {a : Option Addr} {sLen sCap m : Nat} {x : Value} {olds news : Array Value} (ht : P.underlying t = some (.slice e)) (hi : P.info? e = some i) (hz : i.zero = some z) (hu : appArgOk P u = true)
    (hlen : (Builtin.lenOf x).run P w = .ok m w) (hg : sCap < sLen + m) (hb : (sLen + m) * i.bytes ≤ 140737488355328) (h63 : sLen + m ≤ 140737488355328)
    (holds : (Builtin.firstCells i.size sLen (.slice a sLen sCap)).run P w.drew = .ok olds w.drew) (hnews : (Builtin.firstCells i.size m x).run P w.drew = .ok news w.drew) :
    (Builtin.append_ #[t, u] ty #[.slice a sLen sCap, x]).run P w =
      .ok (.slice (some ⟨w.heap.size, 0, none⟩) (sLen + m) (grownCap w (sLen + m) sCap e)) (w.drew.alloc (.cells (olds ++ news ++ Builtin.zeroCells z.cells (grownCap w (sLen + m) sCap e - (sLen + m))) e)) := by
  have hsize : (sizeOf e).run P w = .ok i.size w := by unfold sizeOf typeInfo; simp [hi]
  have hn : ¬ (sLen + m ≤ sCap) := by omega
  have h63' : ¬ (9223372036854775807 < ((sLen : Int) + (m : Int))) := by omega
  have h48' : ¬ (281474976710656 < Builtin.nextslicecap (sLen + m) sCap * i.bytes) := by
    have := growslice_fits (bytes := i.bytes) hg hb; omega
  rcases appArg hu with ⟨e', hd⟩ | hd <;> simp [Builtin.append_, run_underlying ht, run_underlying hd, sizeOf, hlen, hn, h63', h48', Question.forced, typeInfo, zeroValue, hi, hz, holds, hnews, newRow, grownCap]

/-! ### What that does to the world's standing -/

section
variable {CR : Nat → RC → Code → Prop} {G : Gh} {w0 w : World} {st : St}

/-- What is read alone from now on, of a row that lists stand on or are to stand on. -/
def Gh.addRoAt (G : Gh) (r : Nat) (arr : Array Value) (lo hi : Nat) : Gh := { G with ro := fun r' i => if r' = r ∧ lo ≤ i ∧ i < hi then arr[i]? else G.ro r' i }

theorem Gh.le_addRoAt (G : Gh) (r : Nat) (arr : Array Value) (lo hi : Nat) (hn : ∀ i, lo ≤ i → i < hi → G.ro r i = none) (hr : G.floor ≤ r) : G.le (G.addRoAt r arr lo hi) := by
  refine ⟨⟨fun r' i v hv => ?_, fun _ _ x => x, fun _ _ _ x => x, fun _ _ _ => rfl⟩, fun _ x => x, fun _ x => x, rfl, fun r' i hv => ?_, rfl, rfl, rfl⟩
  · simp only [Gh.addRoAt]
    rw [if_neg]
    · exact hv
    · rintro ⟨rfl, h1, h2⟩
      rw [hn i h1 h2] at hv; cases hv
  · simp only [Gh.addRoAt]
    rw [if_neg]
    rintro ⟨rfl, _⟩
    omega

theorem Sim.addRoAt (h : Sim fm CR G w0 st w) {r : Nat} {arr : Array Value} {ty : TypeId} {fz : Nat × Nat} (lo hi : Nat) (hn : ∀ i, lo ≤ i → i < hi → G.ro r i = none) (hr : G.floor ≤ r) (hrow : w.heap[r]? = some (.cells arr ty fz))
    (hobj : ∀ b o, st.heap[b]? = some o → o.isGone = false → G.mu b ≠ some r)
    (htok : ∀ u x y, st.toks[u]? = some x → G.hist u x = some y → y.1 = r → hi ≤ y.2.1 * y.2.2.2) : Sim fm CR (G.addRoAt r arr lo hi) w0 st w := by
  have hle := (Gh.le_addRoAt G r arr lo hi hn hr).toSub
  refine { muDom := h.muDom, muInj := h.muInj, obj := ?_, ro := ?_, roMu := ?_, tok := ?_, tokInj := h.tokInj, hist := h.hist, dfr := h.dfr, lps := h.lps, floorLe := h.floorLe, below := h.below, base := h.base, tbase := h.tbase, baseLe := h.baseLe, pend := h.pend, env := h.env }
  · intro b o ho hg hpd
    obtain ⟨r', ob, h1, h2, h3, h4⟩ := h.obj b o ho hg hpd
    exact ⟨r', ob, h1, h2, h3.sub hle h1, h4⟩
  · intro r' i v hv
    simp only [Gh.addRoAt] at hv
    split at hv
    · rename_i e1
      obtain ⟨rfl, _, _⟩ := e1
      exact ⟨arr, ty, fz, hrow, hv⟩
    · exact h.ro r' i v hv
  · intro r' i v b o hv ho hg hm
    simp only [Gh.addRoAt] at hv
    split at hv
    · rename_i e1
      obtain ⟨rfl, _, _⟩ := e1
      exact hobj b o ho hg hm
    · exact h.roMu r' i v b o hv ho hg hm
  · intro u x hu
    obtain ⟨r', len, cap, n, cs, ty', h1, h2, h3, h4, h5, h6, h7, h8⟩ := h.tok u x hu
    refine ⟨r', len, cap, n, cs, ty', h1, h2, h3, h4, h5, fun i hi' => ?_, h7, h8⟩
    simp only [Gh.addRoAt]
    rw [if_neg]
    · exact h6 i hi'
    · rintro ⟨rfl, e1, e2⟩
      have := htok u x _ hu h1 rfl
      simp only at this
      omega

/-- A block on which nothing stands but, maybe, lists, is written over where no list reads. -/
theorem Sim.putRow (h : Sim fm CR G w0 st w) {r : Nat} {cs cs' : Array Value} {ty : TypeId} {fz : Nat × Nat} (hrow : w.heap[r]? = some (.cells cs ty fz)) (hr : G.floor ≤ r)
    (hobj : ∀ b o, st.heap[b]? = some o → o.isGone = false → G.mu b ≠ some r) (hsz : cs'.size = cs.size) (hsame : ∀ i v, G.ro r i = some v → cs'[i]? = cs[i]?) : Sim fm CR G w0 st (w.putObj r (.cells cs' ty fz)) := by
  have hlt := get?_lt hrow
  have hp := fun k => putObj_heap w r k (.cells cs' ty fz) hlt
  refine { muDom := h.muDom, muInj := h.muInj, obj := ?_, ro := ?_, roMu := h.roMu, tok := ?_, tokInj := h.tokInj, hist := h.hist, dfr := ?_, lps := ?_, floorLe := ?_, below := ?_, base := h.base, tbase := h.tbase, baseLe := h.baseLe, pend := h.pend, env := h.env }
  · intro b o ho hg hpd
    obtain ⟨r', ob, h1, h2, h3, h4⟩ := h.obj b o ho hg hpd
    refine ⟨r', ob, h1, ?_, h3, h4⟩
    rw [hp, if_neg]
    · exact h2
    · rintro rfl; exact hobj b o ho hg h1
  · intro r' i v hv
    obtain ⟨c, t, f, g1, g2⟩ := h.ro r' i v hv
    by_cases e : r' = r
    · subst e
      rw [hrow] at g1; cases g1
      exact ⟨cs', ty, fz, by rw [hp]; simp, by rw [hsame i v hv]; exact g2⟩
    · exact ⟨c, t, f, by rw [hp, if_neg e]; exact g1, g2⟩
  · intro u x hu
    obtain ⟨r', len, cap, n, c, t, h1, h2, h3, h4, h5, h6, h7, h8⟩ := h.tok u x hu
    by_cases e : r' = r
    · subst e
      rw [hrow] at h4; cases h4
      exact ⟨r', len, cap, n, cs', ty, h1, h2, h3, by rw [hp]; simp, by rw [hsz]; exact h5, h6, h7, h8⟩
    · exact ⟨r', len, cap, n, c, t, h1, h2, h3, by rw [hp, if_neg e]; exact h4, h5, h6, h7, h8⟩
  · intro r' hd
    have := h.dfr r' hd
    rw [hp, if_neg]
    · exact this
    · rintro rfl; rw [hrow] at this; cases this
  · intro r' hd
    obtain ⟨l, hl⟩ := h.lps r' hd
    refine ⟨l, ?_⟩
    rw [hp, if_neg]
    · exact hl
    · rintro rfl; rw [hrow] at hl; cases hl
  · simpa [World.putObj] using h.floorLe
  · exact h.below.trans (below_putObj _ _ _ hr)

/-- An object is given up. -/
theorem Sim.goneAt (h : Sim fm CR G w0 st w) (b : Nat) (hnp : G.pend b = none) : Sim fm CR G w0 { st with heap := st.heap.set b .gone } w := by
  have old : ∀ k o, (st.heap.set b .gone)[k]? = some o → o.isGone = false → k ≠ b ∧ st.heap[k]? = some o := by
    intro k o hk hg
    rcases getElem?_set_cases _ _ _ _ _ hk with ⟨rfl, rfl, _⟩ | h
    · cases hg
    · exact h
  refine { muDom := ?_, muInj := ?_, obj := ?_, ro := h.ro, roMu := ?_, tok := ?_, tokInj := h.tokInj, hist := h.hist, dfr := h.dfr, lps := h.lps, floorLe := h.floorLe, below := h.below, base := h.base, tbase := h.tbase, baseLe := by simpa using h.baseLe, pend := ?_, env := h.env }
  · intro k x hk; simpa using h.muDom k x hk
  · intro k k' x x' y hk hk' gx gx'
    exact h.muInj k k' x x' y (old k x hk gx).2 (old k' x' hk' gx').2 gx gx'
  · intro k o hk hg hpd; exact h.obj k o (old k o hk hg).2 hg hpd
  · intro r i v k o hv hk hg; exact h.roMu r i v k o hv (old k o hk hg).2 hg
  · intro u x hu
    obtain ⟨r', len, cap, n, c, t, h1, h2, h3, h4, h5, h6, h7, h8⟩ := h.tok u x hu
    exact ⟨r', len, cap, n, c, t, h1, h2, h3, h4, h5, h6, fun k o hk hg => h7 k o (old k o hk hg).2 hg, h8⟩
  · intro k o hk
    obtain ⟨p1, p2⟩ := h.pend k o hk
    have : b ≠ k := by rintro rfl; rw [hnp] at hk; cases hk
    exact ⟨by rw [List.getElem?_set_ne this]; exact p1, p2⟩

/-- An object is laid for a block that is there already and for which nothing stands. -/
theorem Sim.adopt (h : Sim fm CR G w0 st w) {r : Nat} {o : HO} {ob : Obj} (size : Nat) (hrow : w.heap[r]? = some ob) (hr0 : G.floor ≤ r) (hobj : ∀ b o, st.heap[b]? = some o → o.isGone = false → G.mu b ≠ some r)
    (hro : ∀ i, G.ro r i = none) (htok : ∀ u x y, st.toks[u]? = some x → G.hist u x = some y → y.1 ≠ r)
    (hr : ObjRel fm CR (G.push st.heap.length r size) st.heap.length o ob) (hg : o.isGone = false) : Sim fm CR (G.push st.heap.length r size) w0 (st.push o) w := by
  have hn := h.muNone
  have hle : G.le (G.push st.heap.length r size) := Gh.le_push hn
  have muOld : ∀ k, k < st.heap.length → (G.push st.heap.length r size).mu k = G.mu k := fun k hk => by simp [Gh.push, Nat.ne_of_lt hk]
  have muNew : (G.push st.heap.length r size).mu st.heap.length = some r := by simp [Gh.push]
  refine { muDom := ?_, muInj := ?_, obj := ?_, ro := h.ro, roMu := ?_, tok := ?_, tokInj := h.tokInj, hist := h.hist, dfr := h.dfr, lps := h.lps, floorLe := h.floorLe, below := h.below, base := h.base, tbase := h.tbase, baseLe := by have := h.baseLe; simp only [St.push, List.length_append]; omega, pend := ?_, env := h.env }
  · intro k x hk
    simp only [St.push, List.length_append, List.length_cons, List.length_nil]
    by_cases e : k = st.heap.length
    · omega
    · have : G.mu k = some x := by simpa [Gh.push, e] using hk
      have := h.muDom _ _ this; omega
  · intro k k' x x' y hk hk' gx gx' mk mk'
    rcases getElem?_push_cases _ _ _ _ hk with ⟨rfl, rfl⟩ | ⟨e, hk1⟩ <;> rcases getElem?_push_cases _ _ _ _ hk' with ⟨rfl, rfl⟩ | ⟨e', hk1'⟩
    · rfl
    · rw [muNew] at mk; rw [muOld _ e'] at mk'; cases mk
      exact absurd mk' (hobj _ _ hk1' gx')
    · rw [muNew] at mk'; rw [muOld _ e] at mk; cases mk'
      exact absurd mk (hobj _ _ hk1 gx)
    · rw [muOld _ e] at mk; rw [muOld _ e'] at mk'
      exact h.muInj _ _ _ _ _ hk1 hk1' gx gx' mk mk'
  · intro k x hk gx hpd
    rcases getElem?_push_cases _ _ _ _ hk with ⟨rfl, rfl⟩ | ⟨e, hk⟩
    · exact ⟨_, _, muNew, hrow, hr, fun _ => hr0⟩
    · obtain ⟨r2, ob2, m2, g2, o2, f2⟩ := h.obj _ _ hk gx hpd
      exact ⟨r2, ob2, by rw [muOld _ e]; exact m2, g2, o2.le hle m2, f2⟩
  · intro r' i v k x hv hk gx mk
    rcases getElem?_push_cases _ _ _ _ hk with ⟨rfl, rfl⟩ | ⟨e, hk⟩
    · rw [muNew] at mk; cases mk
      have : G.ro r i = some v := hv
      rw [hro i] at this; cases this
    · rw [muOld _ e] at mk; exact h.roMu _ _ _ _ _ hv hk gx mk
  · intro t s ht
    obtain ⟨r2, len, cap, n, cs, ty, a1, a2, a3, a4, a5, a6, a7, a8⟩ := h.tok t s ht
    refine ⟨r2, len, cap, n, cs, ty, a1, a2, a3, a4, a5, a6, ?_, a8⟩
    intro k x hk gx
    rcases getElem?_push_cases _ _ _ _ hk with ⟨rfl, rfl⟩ | ⟨e, hk⟩
    · rw [muNew]; intro e; cases e; exact htok t s _ ht a1 rfl
    · rw [muOld _ e]; exact a7 _ _ hk gx
  · intro k x hk
    obtain ⟨p1, p2⟩ := h.pend k x hk
    have hlt := (List.getElem?_eq_some_iff.1 p1).1
    exact ⟨by simp only [St.push]; rw [List.getElem?_append_left hlt]; exact p1, (muOld k hlt).trans p2⟩

end

end Go.D
