/-
make([]T, n, m); copy.
-/
import Derived.Test.YtpmjmbpcdacamaaFwDOpsH
namespace Go.D
open Go.RowKit

variable {P : Program} {fm : FM}

theorem opsim_mkslice {t e : TypeId} {n bytes : Nat} {ag : Bool} {zs : List DV} {i : TypeInfo} {l c : X} {lo co : Operand} {o : Oper} (ho : o.op = .makeSlice t lo co) (ht : P.underlying t = some (.slice e)) (hi : P.info? e = some i) (hn : i.size = n) (hby : i.bytes = bytes) (hz : zeroCellsD P e = some zs) (hzl : zs.length = n)
    (hl : XRel fm l lo) (hc : XRel fm c co) : OpSimAll P fm (.mkslice n ag bytes zs l c) o := by
  intro CR G w0 st w fr a v st' hs hf hrun
  simp only [stepD] at hrun
  have hlv := hl.ev (a := a) hf
  have hcv := hc.ev (a := a) hf
  split at hrun
  · rename_i lv cv el ec
    rw [el] at hlv; rw [ec] at hcv
    split at hrun
    · rename_i hcond
      obtain ⟨c1, c2, c3, c4⟩ := hcond
      simp only [Option.some.injEq, Prod.mk.injEq] at hrun
      obtain ⟨rfl, rfl⟩ := hrun
      generalize hl0 : a.eval lo = l0 at hlv
      generalize hc0 : a.eval co = c0 at hcv
      cases hlv; cases hcv
      obtain ⟨i', z, hi', hzz, hcc⟩ := zeroCellsD_get hz
      rw [hi] at hi'; cases hi'
      obtain ⟨zl, zr⟩ := cvalLs_rel (fm := fm) hcc
      have hle : G.le (G.push st.heap.length w.heap.size 0) := Gh.le_push hs.muNone
      have hrd : (roomD : Int) = 140737488355328 := rfl
      rw [hrd] at c3 c4
      have hrun := run_make (P := P) w t e i z ht hi hzz .i64 .i64 lv cv c1 c2 (by rw [hby, Int.mul_comm]; omega) (by omega)
      obtain ⟨s1, s2⟩ := zeros_rel (fm := fm) (G := G.push st.heap.length w.heap.size 0) (zs := zs) (z := z.cells) (by simpa using zl) (fun i hi => zr _ i hi) cv.toNat
      have hscal : (repl zs cv.toNat).all DV.scal = true := by
        rw [List.all_eq_true]
        intro x hx
        obtain ⟨j, hj, rfl⟩ := List.getElem_of_mem hx
        have hj' := hj
        rw [length_repl] at hj'
        have := getElem?_repl zs cv.toNat j hj'
        rw [List.getElem?_eq_getElem hj] at this
        exact List.all_eq_true.1 (all_pure_scal (cvalLs_pure hcc)) _ (List.mem_of_getElem? this.symm)
      have hmade : madeCells z.cells (cv.toNat * i.size) = (Array.range (cv.toNat * zs.length)).map (z.cells[· % z.cells.size]!) := by rw [hn, hzl]; rfl
      rw [← hmade] at s1 s2
      have hs' := hs.push (o := .cells .plain (repl zs cv.toNat)) (ob := .cells (madeCells z.cells (cv.toNat * i.size)) e) 0 ⟨_, e, (0, 0), rfl, s1, s2, fun i hi => by simp, hscal⟩ rfl
      refine ⟨_, _, .slice (some ⟨w.heap.size, 0, none⟩) lv.toNat cv.toNat, _, ?_, .inl rfl, hle, hs', .hsl _ _ _ _ _ _ _ _ (by simp [Gh.push]) ⟨rfl, by omega⟩⟩
      unfold execOp
      simp only [ho, hl0, hc0]
      exact andThen_value hrun
    · cases hrun
  · cases hrun

/-! ### Free layings, wherever the object lies here -/
theorem freerun_alloc {e : TypeId} {zs : List DV} {o : Oper} (ho : o.op = .alloc e) (hz : zeroCellsD P e = some zs) : FreeRun P fm (.alloc zs) o := by
  obtain ⟨i, z, hi, hzz, hc⟩ := zeroCellsD_get hz
  intro CR G w0 st w fr a b v ob hs hf hfree
  simp only [freeD, Option.some.injEq, Prod.mk.injEq] at hfree
  obtain ⟨rfl, rfl⟩ := hfree
  obtain ⟨hl, hr⟩ := cvalLs_rel (fm := fm) hc
  refine ⟨rfl, .cells z.cells e, .pointer (some ⟨w.heap.size, 0, none⟩), _, ?_, .inl rfl, fun G' hG' => ⟨⟨z.cells, e, (0, 0), rfl, by simpa using hl, fun i hi => by rw [← getD_toList]; exact hr _ i hi, fun i hi => by simp, all_pure_scal (cvalLs_pure hc)⟩, .ptr _ _ _ hG'⟩⟩
  unfold execOp
  simp only [ho]
  refine andThen_value ?_
  unfold Instr.alloc
  simp only [Sem.run_bind, run_zero hi hzz, Result.andThen_ok]
  rfl

theorem freerun_mkmap {t : TypeId} {o : Oper} (ho : o.op = .makeMap t none) : FreeRun P fm .mkmap o := by
  intro CR G w0 st w fr a b v ob hs hf hfree
  simp only [freeD, Option.some.injEq, Prod.mk.injEq] at hfree
  obtain ⟨rfl, rfl⟩ := hfree
  refine ⟨rfl, .map #[] 0, .map (some w.heap.size), _, ?_, .inl rfl, fun G' hG' => ⟨⟨#[], 0, rfl, rfl, fun i k v hi => by simp at hi⟩, .map _ _ hG'⟩⟩
  unfold execOp
  simp only [ho, Option.map_none]
  exact andThen_value (by simp [Instr.makeMap])

theorem freerun_mkslice {t e : TypeId} {n bytes : Nat} {ag : Bool} {zs : List DV} {i : TypeInfo} {l c : X} {lo co : Operand} {o : Oper} (ho : o.op = .makeSlice t lo co) (ht : P.underlying t = some (.slice e)) (hi : P.info? e = some i) (hn : i.size = n) (hby : i.bytes = bytes) (hz : zeroCellsD P e = some zs) (hzl : zs.length = n)
    (hl : XRel fm l lo) (hc : XRel fm c co) : FreeRun P fm (.mkslice n ag bytes zs l c) o := by
  intro CR G w0 st w fr a b v ob hs hf hfree
  simp only [freeD] at hfree
  have hlv := hl.ev (a := a) hf
  have hcv := hc.ev (a := a) hf
  split at hfree
  · rename_i lv cv el ec
    rw [el] at hlv; rw [ec] at hcv
    split at hfree
    · rename_i hcond
      obtain ⟨c1, c2, c3, c4⟩ := hcond
      simp only [Option.some.injEq, Prod.mk.injEq] at hfree
      obtain ⟨rfl, rfl⟩ := hfree
      generalize hl0 : a.eval lo = l0 at hlv
      generalize hc0 : a.eval co = c0 at hcv
      cases hlv; cases hcv
      obtain ⟨i', z, hi', hzz, hcc⟩ := zeroCellsD_get hz
      rw [hi] at hi'; cases hi'
      obtain ⟨zl, zr⟩ := cvalLs_rel (fm := fm) hcc
      have hrd : (roomD : Int) = 140737488355328 := rfl
      rw [hrd] at c3 c4
      have hrun := run_make (P := P) w t e i z ht hi hzz .i64 .i64 lv cv c1 c2 (by rw [hby, Int.mul_comm]; omega) (by omega)
      have hscal : (repl zs cv.toNat).all DV.scal = true := by
        rw [List.all_eq_true]
        intro x hx
        obtain ⟨j, hj, rfl⟩ := List.getElem_of_mem hx
        have hj' := hj
        rw [length_repl] at hj'
        have := getElem?_repl zs cv.toNat j hj'
        rw [List.getElem?_eq_getElem hj] at this
        exact List.all_eq_true.1 (all_pure_scal (cvalLs_pure hcc)) _ (List.mem_of_getElem? this.symm)
      have hmade : madeCells z.cells (cv.toNat * i.size) = (Array.range (cv.toNat * zs.length)).map (z.cells[· % z.cells.size]!) := by rw [hn, hzl]; rfl
      refine ⟨rfl, .cells (madeCells z.cells (cv.toNat * i.size)) e, .slice (some ⟨w.heap.size, 0, none⟩) lv.toNat cv.toNat, _, ?_, .inl rfl, fun G' hG' => ?_⟩
      · unfold execOp
        simp only [ho, hl0, hc0]
        exact andThen_value hrun
      · obtain ⟨s1, s2⟩ := zeros_rel (fm := fm) (G := G') (zs := zs) (z := z.cells) (by simpa using zl) (fun i hi => zr _ i hi) cv.toNat
        rw [← hmade] at s1 s2
        exact ⟨⟨_, e, (0, 0), rfl, s1, s2, fun i hi => by simp, hscal⟩, .hsl _ _ _ _ _ _ _ _ hG' ⟨rfl, by omega⟩⟩
    · cases hfree
  · cases hfree

/-- A token for a new row of which nothing is read yet. -/
def Gh.addTok (G : Gh) (t s r len cap n : Nat) : Gh := { G with hist := fun t' s' => if t' = t ∧ s' = s then some (r, len, cap, n) else G.hist t' s' }

theorem Sim.histNone {CR : Nat → RC → Code → Prop} {G : Gh} {w0 w : World} {st : St} (hs : Sim fm CR G w0 st w) {t s : Nat} (h : ∀ s', st.toks[t]? = some s' → s' < s) : G.hist t s = none := by
  cases e : G.hist t s with
  | none => rfl
  | some x =>
    obtain ⟨s', h1, h2⟩ := hs.hist t s x e
    have := h s' h1
    omega

theorem Gh.le_addTok {CR : Nat → RC → Code → Prop} {G : Gh} {w0 w : World} {st : St} (hs : Sim fm CR G w0 st w) {t s : Nat} (h : ∀ s', st.toks[t]? = some s' → s' < s) (r len cap n : Nat) : G.le (G.addTok t s r len cap n) := by
  have hn := hs.histNone h
  refine ⟨⟨fun _ _ _ x => x, fun _ _ x => x, fun t' s' x hx => ?_, fun _ _ _ => rfl⟩, fun _ x => x, fun _ x => x, rfl, fun _ _ _ => rfl, rfl, rfl, rfl⟩
  simp only [Gh.addTok]
  rw [if_neg]
  · exact hx
  · rintro ⟨rfl, rfl⟩; rw [hn] at hx; cases hx

theorem get?_append_cases {α : Type} {l : List α} {x y : α} {t : Nat} (h : (l ++ [x])[t]? = some y) : (t < l.length ∧ l[t]? = some y) ∨ (t = l.length ∧ y = x) := by
  rcases getElem?_push_cases _ _ _ _ h with h | h
  · exact .inr h
  · exact .inl h

theorem get?_set_cases {α : Type} {l : List α} {x y : α} {t u : Nat} (h : (l.set t x)[u]? = some y) : (u ≠ t ∧ l[u]? = some y) ∨ (u = t ∧ y = x ∧ t < l.length) := by
  rcases getElem?_set_cases _ _ _ _ _ h with ⟨a, b, c⟩ | h
  · exact .inr ⟨a, b, c⟩
  · exact .inl h

/-- The token's row is settled anew: the state 'toks' in place of the old one, where token t is now at stage s and stands for a row r that no object and (beyond 'len') no list stands for. -/
theorem Sim.setTok {CR : Nat → RC → Code → Prop} {G : Gh} {w0 w : World} {st : St} (hs : Sim fm CR G w0 st w) {t s r len cap n : Nat} {toks : List Nat} {cs : Array Value} {ty : TypeId}
    (hold : ∀ s', st.toks[t]? = some s' → s' < s) (hnew : toks[t]? = some s) (hoth : ∀ u x, u ≠ t → (toks[u]? = some x ↔ st.toks[u]? = some x))
    (hn : 0 < n) (hlc : len ≤ cap) (hrow : w.heap[r]? = some (.cells cs ty (0, 0))) (hsz : cs.size = cap * n) (hro : ∀ i, len * n ≤ i → G.ro r i = none)
    (hobj : ∀ b o, st.heap[b]? = some o → o.isGone = false → G.mu b ≠ some r) (hfl : st.tbase ≤ t → G.floor ≤ r)
    (hdis : ∀ u x y, u ≠ t → st.toks[u]? = some x → G.hist u x = some y → y.1 ≠ r) :
    Sim fm CR (G.addTok t s r len cap n) w0 { st with toks := toks } w := by
  have hle := (Gh.le_addTok hs hold r len cap n).toSub
  have hh : ∀ u x, u ≠ t → (G.addTok t s r len cap n).hist u x = G.hist u x := fun u x hu => by simp only [Gh.addTok]; rw [if_neg (fun h => hu h.1)]
  have hh' : (G.addTok t s r len cap n).hist t s = some (r, len, cap, n) := by simp [Gh.addTok]
  refine { muDom := hs.muDom, muInj := hs.muInj, obj := ?_, ro := hs.ro, roMu := hs.roMu, tok := ?_, tokInj := ?_, hist := ?_, dfr := hs.dfr, lps := hs.lps, floorLe := hs.floorLe, below := hs.below, base := hs.base, tbase := hs.tbase, baseLe := hs.baseLe, pend := hs.pend, env := hs.env }
  · intro b o ho hg hpd
    obtain ⟨r', ob, h1, h2, h3, h4⟩ := hs.obj b o ho hg hpd
    exact ⟨r', ob, h1, h2, h3.sub hle h1, h4⟩
  · intro u x hu
    by_cases e : u = t
    · subst e
      rw [hnew] at hu; cases hu
      exact ⟨r, len, cap, n, cs, ty, hh', hn, hlc, hrow, hsz, hro, hobj, hfl⟩
    · obtain ⟨r', len', cap', n', cs', ty', h1, h2⟩ := hs.tok u x ((hoth u x e).1 hu)
      exact ⟨r', len', cap', n', cs', ty', by rw [hh u x e]; exact h1, h2⟩
  · intro u u' x x' y y' hu hu' hy hy' hyy
    by_cases e : u = t <;> by_cases e' : u' = t
    · rw [e, e']
    · subst e
      rw [hnew] at hu; cases hu
      rw [hh'] at hy; cases hy
      rw [hh u' x' e'] at hy'
      exact absurd hyy.symm (hdis u' x' y' e' ((hoth u' x' e').1 hu') hy')
    · subst e'
      rw [hnew] at hu'; cases hu'
      rw [hh'] at hy'; cases hy'
      rw [hh u x e] at hy
      exact absurd hyy (hdis u x y e ((hoth u x e).1 hu) hy)
    · rw [hh u x e] at hy; rw [hh u' x' e'] at hy'
      exact hs.tokInj u u' x x' y y' ((hoth u x e).1 hu) ((hoth u' x' e').1 hu') hy hy' hyy
  · intro u x y hy
    by_cases e : u = t
    · subst e
      by_cases e2 : x = s
      · subst e2; exact ⟨x, hnew, Nat.le_refl _⟩
      · have : G.hist u x = some y := by
          simp only [Gh.addTok] at hy
          rwa [if_neg (fun h => e2 h.2)] at hy
        obtain ⟨s', h1, h2⟩ := hs.hist u x y this
        exact ⟨s, hnew, by have := hold s' h1; omega⟩
    · rw [hh u x e] at hy
      obtain ⟨s', h1, h2⟩ := hs.hist u x y hy
      exact ⟨s', (hoth u s' e).2 h1, h2⟩

theorem Sim.muNew {CR : Nat → RC → Code → Prop} {G : Gh} {w0 w : World} {st : St} (hs : Sim fm CR G w0 st w) : ∀ b o, st.heap[b]? = some o → o.isGone = false → G.mu b ≠ some w.heap.size := by
  intro b o ho hg e
  obtain ⟨r, ob, h1, h2, _⟩ := hs.obj b o ho hg (hs.np e)
  rw [e] at h1; cases h1
  exact absurd (get?_lt h2) (Nat.lt_irrefl _)

theorem Sim.tokNew {CR : Nat → RC → Code → Prop} {G : Gh} {w0 w : World} {st : St} (hs : Sim fm CR G w0 st w) : ∀ u x y, st.toks[u]? = some x → G.hist u x = some y → y.1 ≠ w.heap.size := by
  intro u x y hu hy e
  obtain ⟨r, len, cap, n, cs, ty, h1, h2, h3, h4, h5⟩ := hs.tok u x hu
  rw [hy] at h1; cases h1
  simp only at e
  rw [e] at h4
  exact absurd (get?_lt h4) (Nat.lt_irrefl _)

theorem Sim.roNew {CR : Nat → RC → Code → Prop} {G : Gh} {w0 w : World} {st : St} (hs : Sim fm CR G w0 st w) (i : Nat) : G.ro w.heap.size i = none := by
  cases e : G.ro w.heap.size i with
  | none => rfl
  | some v => exact absurd (hs.ro_lt e) (Nat.lt_irrefl _)

theorem opsim_mklist {t e : TypeId} {n bytes : Nat} {zs : List DV} {i : TypeInfo} {l c : X} {lo co : Operand} {o : Oper} (ho : o.op = .makeSlice t lo co) (ht : P.underlying t = some (.slice e)) (hi : P.info? e = some i) (hn : i.size = n) (hby : i.bytes = bytes) (hz : zeroCellsD P e = some zs)
    (hl : XRel fm l lo) (hc : XRel fm c co) : OpSimAll P fm (.mklist n bytes l c) o := by
  intro CR G w0 st w fr a v st' hs hf hrun
  simp only [stepD] at hrun
  have hlv := hl.ev (a := a) hf
  have hcv := hc.ev (a := a) hf
  split at hrun
  · rename_i lv cv el ec
    rw [el] at hlv; rw [ec] at hcv
    split at hrun
    · rename_i hcond
      obtain ⟨rfl, c2, c3, c4, c5⟩ := hcond
      simp only [Option.some.injEq, Prod.mk.injEq] at hrun
      obtain ⟨rfl, rfl⟩ := hrun
      generalize hl0 : a.eval lo = l0 at hlv
      generalize hc0 : a.eval co = c0 at hcv
      cases hlv; cases hcv
      obtain ⟨i', z, hi', hzz, hcc⟩ := zeroCellsD_get hz
      rw [hi] at hi'; cases hi'
      have hrd : (roomD : Int) = 140737488355328 := rfl
      rw [hrd] at c3 c4
      have hrun := run_make (P := P) w t e i z ht hi hzz .i64 .i64 0 cv (Int.le_refl _) c2 (by rw [hby, Int.mul_comm]; omega) (by omega)
      have hold : ∀ s', st.toks[st.toks.length]? = some s' → s' < 0 := fun s' h => by simp at h
      have hal := hs.alloc (.cells (madeCells z.cells (cv.toNat * i.size)) e)
      have hs' := hal.setTok (t := st.toks.length) (s := 0) (r := w.heap.size) (len := 0) (cap := cv.toNat) (n := n) (toks := st.toks ++ [0]) (cs := madeCells z.cells (cv.toNat * i.size)) (ty := e)
        hold (by simp) (fun u x hu => by
          constructor
          · intro h; rcases get?_append_cases h with h | h; exact h.2; exact absurd h.1 hu
          · intro h; rw [List.getElem?_append_left (List.getElem?_eq_some_iff.1 h).1]; exact h)
        c5 (Nat.zero_le _) (World.alloc_heap_new w _) (by rw [size_madeCells, hn]) (fun i _ => hs.roNew i) hs.muNew (fun _ => hs.floorLe)
        (fun u x y _ hx hy => hs.tokNew u x y hx hy)
      refine ⟨_, _, .slice (some ⟨w.heap.size, 0, none⟩) 0 cv.toNat, _, ?_, .inl rfl, Gh.le_addTok hs hold _ _ _ _, hs', ?_⟩
      · unfold execOp
        simp only [ho, hl0, hc0]
        exact andThen_value hrun
      · exact Rel.list st.cur n (.own st.toks.length 0) [] w.heap.size 0 cv.toNat (fun _ => undef) (fun i hi => absurd hi (by simp [flat])) (fun i hi => absurd hi (by simp [flat])) rfl ⟨rfl, by simp [Gh.addTok]⟩ (Nat.zero_le _) (fun x hx => by simp at hx)
    · cases hrun
  · cases hrun

theorem opsim_copy {t u e : TypeId} {n : Nat} {i : TypeInfo} {x y : X} {xo yo : Operand} {o : Oper} (ho : builtinCall .copy [xo, yo] [t, u] o.op) (ht : P.underlying t = some (.slice e)) (hi : P.info? e = some i) (hn : i.size = n) (hx : XRel fm x xo) (hy : XRel fm y yo) : OpSimAll P fm (.copy n x y) o := by
  intro CR G w0 st w fr a v st' hs hf hrun
  simp only [stepD, copyD] at hrun
  have hxv := hx.ev (a := a) hf
  have hyv := hy.ev (a := a) hf
  split at hrun
  · rename_i m news n' ag b off len cap hnews hb
    rw [hb] at hxv
    split at hrun
    · rename_i hc
      obtain ⟨rfl, hbase⟩ := hc
      split at hrun
      · rename_i hk0
        simp only [Option.some.injEq, Prod.mk.injEq] at hrun
        obtain ⟨rfl, rfl⟩ := hrun
        have hnr := news_rel (P := P) hs hyv hnews
        obtain ⟨cs, g1, g2, g3⟩ := hnr.cells (min m len) w (Nat.min_le_left _ _) (Below.refl _ w)
        generalize hx0 : a.eval xo = x0 at hxv
        generalize hy0 : a.eval yo = y0 at hyv hnr g1
        cases hxv with
        | hsl _ _ _ _ _ _ r c hm hcap =>
          refine ⟨G, w, goInt 0, _, ?_, .inl rfl, Gh.le.refl G, hs, .int _ _⟩
          obtain ⟨consts, he⟩ := exec_builtin ho a.eval
          rw [he]
          simp only [List.map_cons, List.map_nil, hx0, hy0]
          unfold builtin
          refine andThen_value ?_
          have hsize : (sizeOf e).run P w = .ok i.size w := by unfold sizeOf typeInfo; simp [hi]
          rw [← hn] at g1
          have hcs : cs = #[] := by
            have : cs.size = 0 := by rw [g2, hk0]; simp
            exact Array.eq_empty_of_size_eq_zero this
          subst hcs
          have hmin : Nat.min m len = 0 := hk0
          rw [hk0] at g1
          simp [Builtin.copy_, run_underlying ht, hnr.len, hsize, hmin, g1, storeCells]
      rename_i hk0
      split at hrun
      · rename_i g vs hcell
        obtain ⟨hcell, hw⟩ := cellsW_get hcell
        split at hrun
        · rename_i hle
          simp only [Option.some.injEq, Prod.mk.injEq] at hrun
          obtain ⟨rfl, rfl⟩ := hrun
          have hnr := news_rel (P := P) hs hyv hnews
          obtain ⟨cs, g1, g2, g3⟩ := hnr.cells (min m len) w (Nat.min_le_left _ _) (Below.refl _ w)
          generalize hx0 : a.eval xo = x0 at hxv
          generalize hy0 : a.eval yo = y0 at hyv hnr g1
          cases hxv with
          | hsl _ _ _ _ _ _ r c hm hcap =>
            have hbo : st.heap[b]? = some (.cells g vs) := by
              unfold St.cells at hcell
              split at hcell
              · rename_i g' vs' e; simp only [Option.some.injEq, Prod.mk.injEq] at hcell; obtain ⟨rfl, rfl⟩ := hcell; exact e
              · cases hcell
            have hmn : min m len * n' ≤ news.length := by rw [hnr.length]; exact Nat.mul_le_mul_right _ (Nat.min_le_left _ _)
            have htl : (news.take (min m len * n')).length = min m len * n' := by simp; omega
            have hrel : ∀ i (h : i < (news.take (min m len * n')).length), Rel fm G ((news.take (min m len * n'))[i]) (cs.toList.getD i undef) := fun i hi => by
              rw [getD_toList]
              have := g3 i (by omega) (by omega)
              simpa using this
            have hsc : (news.take (min m len * n')).all DV.scal = true := by
              have := hnr.scal
              rw [List.all_eq_true] at this ⊢
              exact fun y hy => this y (List.mem_of_mem_take hy)
            have hone : ∀ u ∈ cs.toList, u.oneCell' = true := by
              intro u hu
              obtain ⟨j, hj, rfl⟩ := List.getElem_of_mem hu
              have hj' : j < (news.take (min m len * n')).length := by rw [htl, ← g2]; simpa using hj
              have h1 := hrel j hj'
              rw [List.getD_eq_getElem?_getD, List.getElem?_eq_getElem hj] at h1
              exact scal_one h1 (List.all_eq_true.1 hsc _ (List.getElem_mem hj'))
            obtain ⟨cur, ty, fz, k1, k2, k3, k4⟩ := sim_splice (P := P) hs hw hbo hbase (k := off) (ns := news.take (min m len * n')) (xs := cs.toList) (by omega) (by simp [g2, htl]) hrel hsc hone hm
            refine ⟨G, _, goInt ((min m len : Nat) : Int), _, ?_, .inl rfl, Gh.le.refl G, k4, .int _ _⟩
            obtain ⟨consts, he⟩ := exec_builtin ho a.eval
            rw [he]
            simp only [List.map_cons, List.map_nil, hx0, hy0]
            unfold builtin
            refine andThen_value ?_
            have hsize : (sizeOf e).run P w = .ok i.size w := by unfold sizeOf typeInfo; simp [hi]
            rw [← hn] at g1
            have hmin : Nat.min m len = min m len := rfl
            simp [Builtin.copy_, run_underlying ht, hnr.len, hsize, hmin, g1, k3]
        · cases hrun
      · cases hrun
    · cases hrun
  · cases hrun

end Go.D
