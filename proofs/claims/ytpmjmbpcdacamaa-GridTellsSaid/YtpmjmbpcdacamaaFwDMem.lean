/-
What a change of the world does to its standing for a state.
-/
import Derived.Test.YtpmjmbpcdacamaaFwDSim
import Derived.Laws.AppendOwn
namespace Go.D
open Go.RowKit

variable {P : Program} {fm : FM} {CR : Nat → RC → Code → Prop} {G : Gh} {w0 : World} {st : St} {w : World}

theorem get?_lt {w : World} {r : Nat} {o : Obj} (h : w.heap[r]? = some o) : r < w.heap.size := (Array.getElem?_eq_some_iff.1 h).1

/-- The objects' own relation grows with what is known. -/
theorem ObjRel.le {G' : Gh} (h : G.le G') {b r : Nat} (hb : G.mu b = some r) {o : HO} {ob : Obj} (k : ObjRel fm CR G b o ob) : ObjRel fm CR G' b o ob := by
  cases o with
  | cells g vs =>
    cases g with
    | plain => obtain ⟨cs, t, fz, h1, h2, h3, h4, h5⟩ := k; exact ⟨cs, t, fz, h1, h2, fun i hi => (h3 i hi).le h, h4, h5⟩
    | typed ty => obtain ⟨cs, t, fz, h1, h0, h2, h3, h4, h5⟩ := k; exact ⟨cs, t, fz, h1, h0, h2, fun i hi => (h3 i hi).le h, h4, h5⟩
    | frz ty => obtain ⟨cs, t, fz, h1, h0, h2, h3, h4, h5, h6⟩ := k; exact ⟨cs, t, fz, h1, h0, h2, h3.trans (h.toSub.gsz _ _ hb).symm, fun i hi => (h4 i hi).le h, h5, h6⟩
    | grown => obtain ⟨cs, t, fz, h1, h2, h3, h4, h5, h6⟩ := k; exact ⟨cs, t, fz, h1, h2, h3.trans (h.toSub.gsz _ _ hb).symm, fun i hi => (h4 i hi).le h, h5, h6⟩
  | map es =>
    obtain ⟨en, ck, h1, h2, h3⟩ := k
    refine ⟨en, ck, h1, h2, fun i k v hi => ?_⟩
    obtain ⟨e, he, hk, hv⟩ := h3 i k v hi
    exact ⟨e, he, hk.le h, hv.le h⟩
  | loop lo => obtain ⟨l, h1, h2, h3, h4, h5, h6, h7⟩ := k; exact ⟨l, h1, h2, h3, h4, h5, h6, h7.le h⟩
  | gone => trivial

/-- What an object stands for is never a block for deferred calls; a loop's record stands for a loop's record alone. -/
theorem ObjRel.notDfr {b : Nat} {o : HO} {ob : Obj} (hg : o.isGone = false) (k : ObjRel fm CR G b o ob) (ds : Option (List Deferred)) : ob ≠ .deferred ds := by
  cases o with
  | cells g vs =>
    cases g with
    | plain => obtain ⟨cs, t, fz, rfl, _⟩ := k; simp
    | typed ty => obtain ⟨cs, t, fz, rfl, _⟩ := k; simp
    | frz ty => obtain ⟨cs, t, fz, rfl, _⟩ := k; simp
    | grown => obtain ⟨cs, t, fz, rfl, _⟩ := k; simp
  | map es => obtain ⟨en, ck, rfl, _⟩ := k; simp
  | loop lo => obtain ⟨l, rfl, _⟩ := k; simp
  | gone => cases hg

def HO.isLoop : HO → Bool
  | .loop _ => true
  | _ => false

theorem ObjRel.loopIff {b : Nat} {o : HO} {ob : Obj} (hg : o.isGone = false) (k : ObjRel fm CR G b o ob) (l : Loop) (h : ob = .loop l) : o.isLoop = true := by
  subst h
  cases o with
  | cells g vs =>
    cases g with
    | plain => obtain ⟨cs, t, fz, h, _⟩ := k; cases h
    | typed ty => obtain ⟨cs, t, fz, h, _⟩ := k; cases h
    | frz ty => obtain ⟨cs, t, fz, h, _⟩ := k; cases h
    | grown => obtain ⟨cs, t, fz, h, _⟩ := k; cases h
  | map es => obtain ⟨en, ck, h, _⟩ := k; cases h
  | loop lo => rfl
  | gone => cases hg

theorem ObjRel.isLoop {b : Nat} {o : HO} {ob : Obj} (hl : o.isLoop = true) (k : ObjRel fm CR G b o ob) : ∃ l, ob = .loop l := by
  cases o with
  | loop lo => obtain ⟨l, rfl, _⟩ := k; exact ⟨l, rfl⟩
  | _ => cases hl

/-- (A) The world grows, what was there stays. -/
theorem Sim.grow {w' : World} (h : Sim fm CR G w0 st w) (hb : Below w.heap.size w w') : Sim fm CR G w0 st w' := by
  have old : ∀ r o, w.heap[r]? = some o → w'.heap[r]? = some o := fun r o hr => (hb.block r (get?_lt hr)).trans hr
  refine { muDom := h.muDom, muInj := h.muInj, obj := ?_, ro := ?_, roMu := h.roMu, tok := ?_, tokInj := h.tokInj, hist := h.hist, dfr := ?_, lps := ?_, floorLe := Nat.le_trans h.floorLe hb.size, below := h.below.trans (hb.mono h.floorLe), base := h.base, tbase := h.tbase, baseLe := h.baseLe, pend := h.pend, env := h.env }
  · intro b o ho hg hpd
    obtain ⟨r, ob, h1, h2, h3, h4⟩ := h.obj b o ho hg hpd
    exact ⟨r, ob, h1, old _ _ h2, h3, h4⟩
  · intro r i v hr
    obtain ⟨cs, t, fz, h1, h2⟩ := h.ro r i v hr
    exact ⟨cs, t, fz, old _ _ h1, h2⟩
  · intro t s ht
    obtain ⟨r, len, cap, n, cs, ty, h1, h2, h3, h4, h5⟩ := h.tok t s ht
    exact ⟨r, len, cap, n, cs, ty, h1, h2, h3, old _ _ h4, h5⟩
  · exact fun r hr => old _ _ (h.dfr r hr)
  · intro r hr
    obtain ⟨l, hl⟩ := h.lps r hr
    exact ⟨l, old _ _ hl⟩

theorem Sim.alloc (h : Sim fm CR G w0 st w) (o : Obj) : Sim fm CR G w0 st (w.alloc o) := h.grow ((Below.refl _ w).alloc (Nat.le_refl _) o)
theorem below_drawn (w : World) (n B : Nat) : Below B w { w with drawn := n } := ⟨rfl, rfl, rfl, Nat.le_refl _, fun _ _ => rfl⟩
theorem Sim.draw (h : Sim fm CR G w0 st w) (n : Nat) : Sim fm CR G w0 st { w with drawn := n } := h.grow (below_drawn _ _ _)
theorem Sim.drew (h : Sim fm CR G w0 st w) : Sim fm CR G w0 st w.drew := h.grow ((Below.refl _ w).drew)

theorem putObj_heap (w : World) (r k : Nat) (o : Obj) (h : r < w.heap.size) : (w.putObj r o).heap[k]? = if k = r then some o else w.heap[k]? := by
  by_cases e : k = r
  · subst e; rw [if_pos rfl]; exact World.putObj_heap_same h
  · rw [if_neg e]; exact World.putObj_heap_other e

theorem below_putObj {B : Nat} (w : World) (r : Nat) (o : Obj) (h : B ≤ r) : Below B w (w.putObj r o) :=
  ⟨rfl, rfl, rfl, by simp [World.putObj], fun k hk => World.putObj_heap_other (by omega)⟩

theorem getElem?_set_cases {α : Type} (l : List α) (b k : Nat) (x y : α) (h : (l.set b x)[k]? = some y) : (k = b ∧ y = x ∧ b < l.length) ∨ (k ≠ b ∧ l[k]? = some y) := by
  rw [List.getElem?_set] at h
  by_cases e : b = k
  · subst e
    rw [if_pos rfl] at h
    split at h
    · injection h with h; exact .inl ⟨rfl, h.symm, by assumption⟩
    · cases h
  · rw [if_neg e] at h; exact .inr ⟨fun x => e x.symm, h⟩

/-- (B) An object is set anew, in place. -/
theorem Sim.put (h : Sim fm CR G w0 st w) {b r : Nat} {o o' : HO} {ob' : Obj} (ho : st.heap[b]? = some o) (hg : o.isGone = false) (hm : G.mu b = some r)
    (hbase : st.base ≤ b) (hr : ObjRel fm CR G b o' ob') (hg' : o'.isGone = false) (hl : o.isLoop = true → o'.isLoop = true) :
    Sim fm CR G w0 { st with heap := st.heap.set b o' } (w.putObj r ob') := by
  obtain ⟨r', ob, h1, h2, h3, h4⟩ := h.obj b o ho hg (h.np hm)
  obtain rfl : r' = r := by rw [h1] at hm; exact Option.some.inj hm
  have hlt := get?_lt h2
  have hp := fun k => putObj_heap w r' k ob' hlt
  refine { muDom := ?_, muInj := ?_, obj := ?_, ro := ?_, roMu := ?_, tok := ?_, tokInj := h.tokInj, hist := h.hist, dfr := ?_, lps := ?_, floorLe := ?_, below := ?_, base := h.base, tbase := h.tbase, baseLe := by simpa using h.baseLe, pend := ?_, env := h.env }
  · intro k x hk; simpa using h.muDom k x hk
  · intro k k' x x' y hk hk' gx gx' mk mk'
    rcases getElem?_set_cases _ _ _ _ _ hk with ⟨rfl, rfl, _⟩ | ⟨e, hk1⟩ <;> rcases getElem?_set_cases _ _ _ _ _ hk' with ⟨rfl, rfl, _⟩ | ⟨e', hk1'⟩
    · rfl
    · exact h.muInj _ _ _ _ _ ho hk1' hg gx' mk mk'
    · exact h.muInj _ _ _ _ _ hk1 ho gx hg mk mk'
    · exact h.muInj _ _ _ _ _ hk1 hk1' gx gx' mk mk'
  · intro k x hk gx hpd
    rcases getElem?_set_cases _ _ _ _ _ hk with ⟨rfl, rfl, _⟩ | ⟨e, hk⟩
    · exact ⟨r', ob', h1, by rw [hp]; simp, hr, h4⟩
    · obtain ⟨r2, ob2, m2, g2, o2, f2⟩ := h.obj k x hk gx hpd
      refine ⟨r2, ob2, m2, ?_, o2, f2⟩
      rw [hp, if_neg]
      · exact g2
      · rintro rfl; exact e (h.muInj _ _ _ _ _ hk ho gx hg m2 h1)
  · intro r2 i v hv
    obtain ⟨cs, t, fz, g2, c2⟩ := h.ro r2 i v hv
    refine ⟨cs, t, fz, ?_, c2⟩
    rw [hp, if_neg]
    · exact g2
    · rintro rfl; exact h.roMu _ _ _ _ _ hv ho hg h1
  · intro r2 i v k x hv hk gx mk
    rcases getElem?_set_cases _ _ _ _ _ hk with ⟨rfl, rfl, _⟩ | ⟨e, hk⟩
    · exact h.roMu _ _ _ _ _ hv ho hg mk
    · exact h.roMu _ _ _ _ _ hv hk gx mk
  · intro t s ht
    obtain ⟨r2, len, cap, n, cs, ty, a1, a2, a3, a4, a5, a6, a7, a8⟩ := h.tok t s ht
    refine ⟨r2, len, cap, n, cs, ty, a1, a2, a3, ?_, a5, a6, ?_, a8⟩
    · rw [hp, if_neg]
      · exact a4
      · rintro rfl; exact a7 b o ho hg h1
    · intro k x hk gx
      rcases getElem?_set_cases _ _ _ _ _ hk with ⟨rfl, rfl, _⟩ | ⟨e, hk⟩
      · exact a7 _ _ ho hg
      · exact a7 _ _ hk gx
  · intro r2 hr2
    have := h.dfr r2 hr2
    rw [hp, if_neg]
    · exact this
    · rintro rfl
      rw [h2] at this
      exact h3.notDfr hg (some []) (Option.some.inj this)
  · intro r2 hr2
    obtain ⟨l, hl2⟩ := h.lps r2 hr2
    by_cases e : r2 = r'
    · subst e
      rw [h2] at hl2
      have := h3.loopIff hg l (Option.some.inj hl2)
      obtain ⟨l', rfl⟩ := hr.isLoop (hl this)
      exact ⟨l', by rw [hp]; simp⟩
    · exact ⟨l, by rw [hp, if_neg e]; exact hl2⟩
  · simpa [World.putObj] using h.floorLe
  · exact h.below.trans (below_putObj _ _ _ (h4 hbase))
  · intro k x hk
    obtain ⟨p1, p2⟩ := h.pend k x hk
    refine ⟨?_, p2⟩
    have : b ≠ k := by rintro rfl; rw [p2] at hm; cases hm
    rw [List.getElem?_set_ne this]; exact p1

/-- What is known once a new object has been laid. -/
def Gh.push (G : Gh) (b r size : Nat) : Gh := { G with mu := fun k => if k = b then some r else G.mu k, gsz := fun k => if k = b then size else G.gsz k }

theorem Gh.le_push {G : Gh} {b r size : Nat} (h : G.mu b = none) : G.le (G.push b r size) :=
  ⟨⟨fun _ _ _ x => x, fun k x hk => by
    have : k ≠ b := by rintro rfl; rw [h] at hk; cases hk
    simp [Gh.push, this, hk], fun _ _ _ x => x, fun k x hk => by
    have : k ≠ b := by rintro rfl; rw [h] at hk; cases hk
    simp [Gh.push, this]⟩, fun _ x => x, fun _ x => x, rfl, fun _ _ _ => rfl, rfl, rfl, rfl⟩

theorem Sim.muNone (h : Sim fm CR G w0 st w) : G.mu st.heap.length = none := by
  cases e : G.mu st.heap.length with
  | none => rfl
  | some r => exact absurd (h.muDom _ _ e) (Nat.lt_irrefl _)

theorem getElem?_push_cases {α : Type} (l : List α) (k : Nat) (x y : α) (h : (l ++ [x])[k]? = some y) : (k = l.length ∧ y = x) ∨ (k < l.length ∧ l[k]? = some y) := by
  by_cases e : k < l.length
  · rw [List.getElem?_append_left e] at h; exact .inr ⟨e, h⟩
  · rw [List.getElem?_append_right (by omega)] at h
    have : k - l.length = 0 := by
      cases hk : k - l.length with
      | zero => rfl
      | succ j => rw [hk] at h; simp at h
    rw [this] at h
    simp at h
    exact .inl ⟨by omega, h.symm⟩

/-- (C) A new object is laid, for a block that the world has laid anew. -/
theorem Sim.push (h : Sim fm CR G w0 st w) {o : HO} {ob : Obj} (size : Nat) (hr : ObjRel fm CR (G.push st.heap.length w.heap.size size) st.heap.length o ob) (hg : o.isGone = false) :
    Sim fm CR (G.push st.heap.length w.heap.size size) w0 (st.push o) (w.alloc ob) := by
  have hn := h.muNone
  have hle : G.le (G.push st.heap.length w.heap.size size) := Gh.le_push hn
  have old : ∀ r x, w.heap[r]? = some x → (w.alloc ob).heap[r]? = some x := fun r x hx => (Below.heap_alloc w ob r (get?_lt hx)).trans hx
  have new : (w.alloc ob).heap[w.heap.size]? = some ob := World.alloc_heap_new w ob
  have muOld : ∀ k, k < st.heap.length → (G.push st.heap.length w.heap.size size).mu k = G.mu k := fun k hk => by simp [Gh.push, Nat.ne_of_lt hk]
  have muNew : (G.push st.heap.length w.heap.size size).mu st.heap.length = some w.heap.size := by simp [Gh.push]
  refine { muDom := ?_, muInj := ?_, obj := ?_, ro := ?_, roMu := ?_, tok := ?_, tokInj := h.tokInj, hist := h.hist, dfr := ?_, lps := ?_, floorLe := ?_, below := ?_, base := h.base, tbase := h.tbase, baseLe := by have := h.baseLe; simp only [St.push, List.length_append]; omega, pend := ?_, env := h.env }
  · intro k x hk
    simp only [St.push, List.length_append, List.length_cons, List.length_nil]
    by_cases e : k = st.heap.length
    · omega
    · have : G.mu k = some x := by simpa [Gh.push, e] using hk
      have := h.muDom _ _ this; omega
  · intro k k' x x' y hk hk' gx gx' mk mk'
    rcases getElem?_push_cases _ _ _ _ hk with ⟨rfl, rfl⟩ | ⟨e, hk1⟩ <;> rcases getElem?_push_cases _ _ _ _ hk' with ⟨rfl, rfl⟩ | ⟨e', hk1'⟩
    · rfl
    · rw [muNew] at mk; rw [muOld _ e'] at mk'
      obtain ⟨r2, ob2, m2, g2, _⟩ := h.obj _ _ hk1' gx' (h.np mk')
      rw [mk'] at m2; cases m2; cases mk
      exact absurd (get?_lt g2) (Nat.lt_irrefl _)
    · rw [muNew] at mk'; rw [muOld _ e] at mk
      obtain ⟨r2, ob2, m2, g2, _⟩ := h.obj _ _ hk1 gx (h.np mk)
      rw [mk] at m2; cases m2; cases mk'
      exact absurd (get?_lt g2) (Nat.lt_irrefl _)
    · rw [muOld _ e] at mk; rw [muOld _ e'] at mk'
      exact h.muInj _ _ _ _ _ hk1 hk1' gx gx' mk mk'
  · intro k x hk gx hpd
    rcases getElem?_push_cases _ _ _ _ hk with ⟨rfl, rfl⟩ | ⟨e, hk⟩
    · exact ⟨_, _, muNew, new, hr, fun _ => h.floorLe⟩
    · obtain ⟨r2, ob2, m2, g2, o2, f2⟩ := h.obj _ _ hk gx hpd
      exact ⟨r2, ob2, by rw [muOld _ e]; exact m2, old _ _ g2, o2.le hle m2, f2⟩
  · intro r i v hv
    obtain ⟨cs, t, fz, g2, c2⟩ := h.ro r i v hv
    exact ⟨cs, t, fz, old _ _ g2, c2⟩
  · intro r i v k x hv hk gx mk
    rcases getElem?_push_cases _ _ _ _ hk with ⟨rfl, rfl⟩ | ⟨e, hk⟩
    · rw [muNew] at mk; cases mk
      obtain ⟨cs, t, fz, g2, _⟩ := h.ro _ _ _ hv
      exact absurd (get?_lt g2) (Nat.lt_irrefl _)
    · rw [muOld _ e] at mk; exact h.roMu _ _ _ _ _ hv hk gx mk
  · intro t s ht
    obtain ⟨r2, len, cap, n, cs, ty, a1, a2, a3, a4, a5, a6, a7, a8⟩ := h.tok t s ht
    refine ⟨r2, len, cap, n, cs, ty, a1, a2, a3, old _ _ a4, a5, a6, ?_, a8⟩
    intro k x hk gx
    rcases getElem?_push_cases _ _ _ _ hk with ⟨rfl, rfl⟩ | ⟨e, hk⟩
    · rw [muNew]; intro e; cases e; exact absurd (get?_lt a4) (Nat.lt_irrefl _)
    · rw [muOld _ e]; exact a7 _ _ hk gx
  · exact fun r hr => old _ _ (h.dfr r hr)
  · intro r hr
    obtain ⟨l, hl⟩ := h.lps r hr
    exact ⟨l, old _ _ hl⟩
  · have h1 := h.floorLe; have h2 : (G.push st.heap.length w.heap.size size).floor = G.floor := rfl; rw [h2]; simp; omega
  · exact h.below.alloc h.floorLe ob
  · intro k x hk
    obtain ⟨p1, p2⟩ := h.pend k x hk
    have hlt := (List.getElem?_eq_some_iff.1 p1).1
    exact ⟨by simp only [St.push]; rw [List.getElem?_append_left hlt]; exact p1, (muOld k hlt).trans p2⟩

/-- A block for deferred calls is noted. -/
def Gh.addDfr (G : Gh) (r : Nat) : Gh := { G with dfr := fun k => G.dfr k ∨ k = r }
theorem Gh.le_addDfr (G : Gh) (r : Nat) : G.le (G.addDfr r) := ⟨⟨fun _ _ _ x => x, fun _ _ x => x, fun _ _ _ x => x, fun _ _ _ => rfl⟩, fun _ x => .inl x, fun _ x => x, rfl, fun _ _ _ => rfl, rfl, rfl, rfl⟩

theorem ObjRel.sub {G' : Gh} (h : G.sub G') {b r : Nat} (hb : G.mu b = some r) {o : HO} {ob : Obj} (k : ObjRel fm CR G b o ob) : ObjRel fm CR G' b o ob := by
  cases o with
  | cells g vs =>
    cases g with
    | plain => obtain ⟨cs, t, fz, h1, h2, h3, h4, h5⟩ := k; exact ⟨cs, t, fz, h1, h2, fun i hi => (h3 i hi).sub h, h4, h5⟩
    | typed ty => obtain ⟨cs, t, fz, h1, h0, h2, h3, h4, h5⟩ := k; exact ⟨cs, t, fz, h1, h0, h2, fun i hi => (h3 i hi).sub h, h4, h5⟩
    | frz ty => obtain ⟨cs, t, fz, h1, h0, h2, h3, h4, h5, h6⟩ := k; exact ⟨cs, t, fz, h1, h0, h2, h3.trans (h.gsz _ _ hb).symm, fun i hi => (h4 i hi).sub h, h5, h6⟩
    | grown => obtain ⟨cs, t, fz, h1, h2, h3, h4, h5, h6⟩ := k; exact ⟨cs, t, fz, h1, h2, h3.trans (h.gsz _ _ hb).symm, fun i hi => (h4 i hi).sub h, h5, h6⟩
  | map es =>
    obtain ⟨en, ck, h1, h2, h3⟩ := k
    refine ⟨en, ck, h1, h2, fun i k v hi => ?_⟩
    obtain ⟨e, he, hk, hv⟩ := h3 i k v hi
    exact ⟨e, he, hk.sub h, hv.sub h⟩
  | loop lo => obtain ⟨l, h1, h2, h3, h4, h5, h6, h7⟩ := k; exact ⟨l, h1, h2, h3, h4, h5, h6, fun t => (h7 t).sub h⟩
  | gone => trivial

/-- Only what is noted of blocks for deferred calls, of records and of the floor changes. -/
theorem Sim.notes {G' : Gh} (h : Sim fm CR G w0 st w) (hro : G'.ro = G.ro) (hmu : G'.mu = G.mu) (hh : G'.hist = G.hist) (hg : G'.gsz = G.gsz) (hf : G'.floor = G.floor) (hb : G'.base = G.base) (ht : G'.tbase = G.tbase) (hpe : G'.pend = G.pend)
    (hd : ∀ r, G'.dfr r → w.heap[r]? = some (.deferred (some []))) (hl : ∀ r, G'.lps r → ∃ l, w.heap[r]? = some (.loop l)) : Sim fm CR G' w0 st w := by
  have hs : G.sub G' := ⟨fun r i v x => by rw [hro]; exact x, fun b r x => by rw [hmu]; exact x, fun t s x y => by rw [hh]; exact y, fun b r _ => by rw [hg]⟩
  refine { muDom := ?_, muInj := ?_, obj := ?_, ro := ?_, roMu := ?_, tok := ?_, tokInj := ?_, hist := ?_, dfr := hd, lps := hl, floorLe := ?_, below := ?_, base := ?_, tbase := ?_, baseLe := h.baseLe, pend := by rw [hpe, hmu]; exact h.pend, env := by rw [hf]; exact h.env }
  · rw [hmu]; exact h.muDom
  · rw [hmu]; exact h.muInj
  · intro b o ho hgn hpd
    obtain ⟨r, ob, h1, h2, h3, h4⟩ := h.obj b o ho hgn (by rw [← hpe]; exact hpd)
    exact ⟨r, ob, by rw [hmu]; exact h1, h2, h3.sub hs h1, by rw [hf]; exact h4⟩
  · rw [hro]; exact h.ro
  · rw [hro, hmu]; exact h.roMu
  · rw [hro, hmu, hh, hf]; exact h.tok
  · rw [hh]; exact h.tokInj
  · rw [hh]; exact h.hist
  · rw [hf]; exact h.floorLe
  · rw [hf]; exact h.below
  · rw [hb]; exact h.base
  · rw [ht]; exact h.tbase

theorem Sim.addDfr (h : Sim fm CR G w0 st w) {r : Nat} (hr : w.heap[r]? = some (.deferred (some []))) : Sim fm CR (G.addDfr r) w0 st w :=
  h.notes rfl rfl rfl rfl rfl rfl rfl rfl (fun k hk => by rcases hk with hk | rfl; exact h.dfr k hk; exact hr) h.lps

/-- A loop's record is noted. -/
def Gh.addLp (G : Gh) (r : Nat) : Gh := { G with lps := fun k => G.lps k ∨ k = r }
theorem Gh.le_addLp (G : Gh) (r : Nat) : G.le (G.addLp r) := ⟨⟨fun _ _ _ x => x, fun _ _ x => x, fun _ _ _ x => x, fun _ _ _ => rfl⟩, fun _ x => x, fun _ x => .inl x, rfl, fun _ _ _ => rfl, rfl, rfl, rfl⟩
theorem Sim.addLp (h : Sim fm CR G w0 st w) {r : Nat} {l : Loop} (hr : w.heap[r]? = some (.loop l)) : Sim fm CR (G.addLp r) w0 st w :=
  h.notes rfl rfl rfl rfl rfl rfl rfl rfl h.dfr (fun k hk => by rcases hk with hk | rfl; exact h.lps k hk; exact ⟨l, hr⟩)

/-- An object is laid ahead: the world has nothing for it yet. -/
def Gh.hold (G : Gh) (b : Nat) (o : HO) : Gh := { G with pend := fun k => if k = b then some o else G.pend k }
theorem Gh.leP_hold (G : Gh) (b : Nat) (o : HO) : G.leP (G.hold b o) := ⟨⟨fun _ _ _ x => x, fun _ _ x => x, fun _ _ _ x => x, fun _ _ _ => rfl⟩, fun _ x => x, fun _ x => x, rfl, fun _ _ _ => rfl, rfl, rfl⟩

theorem Sim.pendLt (h : Sim fm CR G w0 st w) {b : Nat} (hb : st.heap.length ≤ b) : G.pend b = none := by
  cases e : G.pend b with
  | none => rfl
  | some o => have := (List.getElem?_eq_some_iff.1 (h.pend b o e).1).1; omega

theorem Sim.hold (h : Sim fm CR G w0 st w) (o : HO) (hg : o.isGone = false) : Sim fm CR (G.hold st.heap.length o) w0 (st.push o) w := by
  have hn := h.muNone
  have hsub := (G.leP_hold st.heap.length o).toSub
  refine { muDom := ?_, muInj := ?_, obj := ?_, ro := h.ro, roMu := ?_, tok := ?_, tokInj := h.tokInj, hist := h.hist, dfr := h.dfr, lps := h.lps, floorLe := h.floorLe, below := h.below, base := h.base, tbase := h.tbase, baseLe := by have := h.baseLe; simp only [St.push, List.length_append]; omega, pend := ?_, env := h.env }
  · intro k x hk
    have := h.muDom k x hk
    simp only [St.push, List.length_append, List.length_cons, List.length_nil]; omega
  · intro k k' x x' y hk hk' gx gx' mk mk'
    have mk0 : G.mu k = some y := mk
    have mk0' : G.mu k' = some y := mk'
    rcases getElem?_push_cases _ _ _ _ hk with ⟨rfl, rfl⟩ | ⟨e, hk1⟩
    · rw [hn] at mk0; cases mk0
    · rcases getElem?_push_cases _ _ _ _ hk' with ⟨rfl, rfl⟩ | ⟨e', hk1'⟩
      · rw [hn] at mk0'; cases mk0'
      · exact h.muInj _ _ _ _ _ hk1 hk1' gx gx' mk0 mk0'
  · intro k x hk gx hpd
    simp only [Gh.hold] at hpd
    split at hpd
    · cases hpd
    · rename_i hne
      rcases getElem?_push_cases _ _ _ _ hk with ⟨rfl, rfl⟩ | ⟨e, hk1⟩
      · exact absurd rfl hne
      · obtain ⟨r2, ob2, m2, g2, o2, f2⟩ := h.obj _ _ hk1 gx hpd
        exact ⟨r2, ob2, m2, g2, o2.sub hsub m2, f2⟩
  · intro r i v k x hv hk gx mk
    have mk0 : G.mu k = some r := mk
    rcases getElem?_push_cases _ _ _ _ hk with ⟨rfl, rfl⟩ | ⟨e, hk1⟩
    · rw [hn] at mk0; cases mk0
    · exact h.roMu _ _ _ _ _ hv hk1 gx mk0
  · intro t s ht
    obtain ⟨r2, len, cap, n, cs, ty, a1, a2, a3, a4, a5, a6, a7, a8⟩ := h.tok t s ht
    refine ⟨r2, len, cap, n, cs, ty, a1, a2, a3, a4, a5, a6, ?_, a8⟩
    intro k x hk gx
    rcases getElem?_push_cases _ _ _ _ hk with ⟨rfl, rfl⟩ | ⟨e, hk1⟩
    · show G.mu _ ≠ _
      rw [hn]; intro e; cases e
    · exact a7 _ _ hk1 gx
  · intro k x hk
    simp only [Gh.hold] at hk
    split at hk
    · rename_i e
      subst e
      cases hk
      exact ⟨by simp [St.push], hn⟩
    · obtain ⟨p1, p2⟩ := h.pend k x hk
      have hlt := (List.getElem?_eq_some_iff.1 p1).1
      exact ⟨by simp only [St.push]; rw [List.getElem?_append_left hlt]; exact p1, p2⟩

/-- The world lays what was laid ahead. -/
def Gh.settle (G : Gh) (b r : Nat) : Gh := { G with mu := fun k => if k = b then some r else G.mu k, pend := fun k => if k = b then none else G.pend k }
theorem Gh.leP_settle {G : Gh} {b r : Nat} (h : G.mu b = none) : G.leP (G.settle b r) :=
  ⟨⟨fun _ _ _ x => x, fun k x hk => by
    have : k ≠ b := by rintro rfl; rw [h] at hk; cases hk
    simp [Gh.settle, this, hk], fun _ _ _ x => x, fun _ _ _ => rfl⟩, fun _ x => x, fun _ x => x, rfl, fun _ _ _ => rfl, rfl, rfl⟩

theorem Sim.settle (h : Sim fm CR G w0 st w) {b : Nat} {o : HO} {ob : Obj} (hp : G.pend b = some o) (hr : ObjRel fm CR (G.settle b w.heap.size) b o ob) :
    Sim fm CR (G.settle b w.heap.size) w0 st (w.alloc ob) := by
  obtain ⟨hb, hn⟩ := h.pend b o hp
  have hsub : G.sub (G.settle b w.heap.size) := (Gh.leP_settle hn).toSub
  have old : ∀ r x, w.heap[r]? = some x → (w.alloc ob).heap[r]? = some x := fun r x hx => (Below.heap_alloc w ob r (get?_lt hx)).trans hx
  have new : (w.alloc ob).heap[w.heap.size]? = some ob := World.alloc_heap_new w ob
  have muOld : ∀ k, k ≠ b → (G.settle b w.heap.size).mu k = G.mu k := fun k hk => by simp [Gh.settle, hk]
  have muNew : (G.settle b w.heap.size).mu b = some w.heap.size := by simp [Gh.settle]
  have fresh : ∀ k x, st.heap[k]? = some x → x.isGone = false → G.mu k ≠ some w.heap.size := by
    intro k x hk gx e
    obtain ⟨r2, ob2, m2, g2, _⟩ := h.obj _ _ hk gx (h.np e)
    rw [e] at m2; cases m2
    exact absurd (get?_lt g2) (Nat.lt_irrefl _)
  refine { muDom := ?_, muInj := ?_, obj := ?_, ro := ?_, roMu := ?_, tok := ?_, tokInj := h.tokInj, hist := h.hist, dfr := ?_, lps := ?_, floorLe := ?_, below := ?_, base := h.base, tbase := h.tbase, baseLe := h.baseLe, pend := ?_, env := h.env }
  · intro k x hk
    by_cases e : k = b
    · subst e; exact (List.getElem?_eq_some_iff.1 hb).1
    · rw [muOld k e] at hk; exact h.muDom k x hk
  · intro k k' x x' y hk hk' gx gx' mk mk'
    by_cases e : k = b <;> by_cases e' : k' = b
    · rw [e, e']
    · rw [e, muNew] at mk; rw [muOld _ e'] at mk'; cases mk
      exact absurd mk' (fresh _ _ hk' gx')
    · rw [e', muNew] at mk'; rw [muOld _ e] at mk; cases mk'
      exact absurd mk (fresh _ _ hk gx)
    · rw [muOld _ e] at mk; rw [muOld _ e'] at mk'
      exact h.muInj _ _ _ _ _ hk hk' gx gx' mk mk'
  · intro k x hk gx hpd
    by_cases e : k = b
    · subst e
      rw [hb] at hk; cases hk
      exact ⟨_, _, muNew, new, hr, fun _ => h.floorLe⟩
    · have hpd' : G.pend k = none := by simpa [Gh.settle, e] using hpd
      obtain ⟨r2, ob2, m2, g2, o2, f2⟩ := h.obj _ _ hk gx hpd'
      exact ⟨r2, ob2, by rw [muOld _ e]; exact m2, old _ _ g2, o2.sub hsub m2, f2⟩
  · intro r i v hv
    obtain ⟨cs, t, fz, g2, c2⟩ := h.ro r i v hv
    exact ⟨cs, t, fz, old _ _ g2, c2⟩
  · intro r i v k x hv hk gx mk
    by_cases e : k = b
    · rw [e, muNew] at mk; cases mk
      obtain ⟨cs, t, fz, g2, _⟩ := h.ro _ _ _ hv
      exact absurd (get?_lt g2) (Nat.lt_irrefl _)
    · rw [muOld _ e] at mk; exact h.roMu _ _ _ _ _ hv hk gx mk
  · intro t s ht
    obtain ⟨r2, len, cap, n, cs, ty, a1, a2, a3, a4, a5, a6, a7, a8⟩ := h.tok t s ht
    refine ⟨r2, len, cap, n, cs, ty, a1, a2, a3, old _ _ a4, a5, a6, ?_, a8⟩
    intro k x hk gx
    by_cases e : k = b
    · rw [e, muNew]; intro e2; cases e2; exact absurd (get?_lt a4) (Nat.lt_irrefl _)
    · rw [muOld _ e]; exact a7 _ _ hk gx
  · exact fun r hr => old _ _ (h.dfr r hr)
  · intro r hr
    obtain ⟨l, hl⟩ := h.lps r hr
    exact ⟨l, old _ _ hl⟩
  · have h1 := h.floorLe; have h2 : (G.settle b w.heap.size).floor = G.floor := rfl; rw [h2]; simp; omega
  · exact h.below.alloc h.floorLe ob
  · intro k x hk
    by_cases e : k = b
    · subst e; simp [Gh.settle] at hk
    · have hk' : G.pend k = some x := by simpa [Gh.settle, e] using hk
      obtain ⟨p1, p2⟩ := h.pend k x hk'
      exact ⟨p1, (muOld k e).trans p2⟩

end Go.D
